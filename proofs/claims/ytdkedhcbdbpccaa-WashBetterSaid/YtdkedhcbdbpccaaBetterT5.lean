/- X37, WsFam, ExX38, X38, WsLift3, WsLift4, WsTruth, E28, ExX39, X40, WsMono, ExX41: what WashBetterProof needs of them (merged by trimpack.py). -/
import Derived.Test.YtdkedhcbdbpccaaBetterT4
set_option linter.unusedVariables false
set_option linter.unusedSimpArgs false
namespace Go.Proofs.Ytdkedhcbdbpccaa
open Go Go.RowKit
theorem ints_app (a b : List Int) : ints (a ++ b) = ints a ++ ints b := by simp [ints]
theorem jobs_end {W : World} {base i m : Nat} {v : Value} {l : List Int} (hx : i = min l.length m) (h : W.ownsRow base 3 1 v i (ints ((l.take i).map fun x => x.tmod 4))) : W.ownsRow base 3 1 v (jobsL l m).length (ints (jobsL l m)) := by
 have e : l.take i = l.take m := by
  subst hx
  rcases Nat.le_total l.length m with h1 | h1
  ·rw [Nat.min_eq_left h1, List.take_length, List.take_of_length_le h1]
  ·rw [Nat.min_eq_right h1]
 have e2 : (jobsL l m).length = i := by simp [jobsL, hx, Nat.min_comm]
 rw [e2, jobsL, ← e]
 exact h
theorem jobs_any {l : List Int} {v : Value} {w : World} {B : Nat} (hl : Rd w B 1 v l.length (u8s l)) (hB : B ≤ w.heap.size) (hb : ∀ i, i < l.length → byte (l.getD i 0)) (m : Nat) (hm : m ≤ 1000) :
  Calls Try.prog 31 #[v, .int .i64 (m : Nat)] w fun e w' => (∃ v', e = .returned v' ∧ w'.ownsRow w.heap.size 3 1 v' (jobsL l m).length (ints (jobsL l m))) ∧ Below w.heap.size w w' := by
 obtain ⟨Ae, ce, rfl, _⟩ := hl.shape;have hbw := Below.refl w.heap.size w;refine EC.enter 29 Try.func31 rfl rfl rfl (EC.seq (EC.region (EL.as rfl rfl (EL.nil (EX.seq (EC.seq (EC.region (EL.newS (bs_22_0) rfl ?_))))))));intro g1 w1 q1 hb1 hg1 hl1;have bhbw_1 := Nat.le_trans hbw.size hg1;have hbg1 : w.heap.size ≤ g1 := Nat.le_trans hbw.size hg1;replace hbw := bo_ hbw hb1;clear hb1 hg1 hl1;have hO : w1.ownsRow w.heap.size 3 1 (.slice (some ⟨g1, 0, none⟩) 0 0) 0 [] := own_empty 1 q1 hbg1;refine EL.as rfl rfl (EL.nil (EX.seq (EC.seq (EC.seq (EC.region (EL.as rfl rfl (EL.nil (EX.seq (EC.block ?_)))))))));refine EC.loopD [5, 6, 8, 9, 10, 11, 12, 13, 14, 15, 16, 17, 18, 19, 20, 21, 22, 23, 24, 25, 26, 27] (fun x : Nat × Value => [(6, .int .i64 (x.1 : Nat)), (5, x.2)]) (fun x W => (x.1 ≤ l.length ∧ x.1 ≤ m) ∧ W.ownsRow w.heap.size 3 1 x.2 x.1 (ints ((l.take x.1).map fun x => x.tmod 4)) ∧ Below w.heap.size w W) (fun x => l.length - x.1) (0, .slice (some ⟨g1, 0, none⟩) 0 0) ⟨⟨Nat.zero_le _, Nat.zero_le _⟩, hO, hbw⟩ ⟨rfl, rfl, trivial⟩ ?_
 clear hbw hO
 rintro ⟨i, v3⟩ wx ⟨⟨hi, hi2⟩, hO, hbw⟩
 dsimp only at hi hi2 hO
 by_cases hlt : i < l.length
 ·
  by_cases hlm : i < m
  ·
   obtain ⟨bx, ox, ebx, _, x0⟩ := u8s_cells l i hlt wx B _ _ _ (hl.below (hbw.mono hB));have hby := hb i hlt;refine EC.seq (EC.seq (EC.region (EL.mv rfl rfl (EL.mv rfl rfl (EL.val (ln_79 rfl) rfl ?_)))));refine EL.val (x_lss rfl rfl (decide_eq_true (show (((i : Nat) : Int) < ((l.length : Nat) : Int)) by omega))) rfl ?_
   refine EL.mv rfl rfl (EL.mg rfl rfl rfl rfl (EL.mg rfl rfl rfl rfl ?_));refine EL.valg rfl rfl (x_lss rfl rfl (decide_eq_true (show (((i : Nat) : Int) < ((m : Nat) : Int)) by omega))) rfl ?_
   refine EL.pt rfl rfl rfl (EL.nil (EX.seq (EC.yes rfl (EC.skip (EX.seq (EC.seq (EC.block (EC.region (EL.mv rfl rfl ?_)))))))));refine EL.mv rfl rfl (EL.mv rfl rfl ?_);refine EL.val (ix_79 (by show some (Value.slice Ae _ _) = _; rw [ebx]) rfl hlt) rfl ?_
   refine EL.val (ld_5 rfl x0) rfl (EL.val (cv_5_3 rfl (wrap_byte hby)) rfl ?_);refine EL.val (x_rem rfl rfl (by decide) rfl) rfl ?_
   refine EL.newS (bs_22_1 rfl) rfl ?_;intro g2 w2 q2 hb2 hg2 hl2;have bhbw_2 := Nat.le_trans hbw.size hg2;have hbg2 : w.heap.size ≤ g2 := Nat.le_trans hbw.size hg2;replace hO := own_below hO hb2 (Nat.le_refl _);replace hbw := bo_ hbw hb2;clear hb2 hg2 hl2;refine EL.push ir_elem rfl rfl hO (rd_one (l := [.int .i64 ((l.getD i 0).tmod 4)]) q2 rfl) (by intro u hu; simp only [List.mem_cons, List.not_mem_nil, or_false] at hu; subst hu; rfl) (by omega) rfl hbw.size rfl ?_
   intro v9 w9 ho9 hgr hb_ hat;replace hbw := hbw.trans hb_;clear hO hgr hb_ hat;refine EL.as rfl rfl (EL.nil (EX.blk (EX.seq (EC.region (EL.mv rfl rfl ?_)))));refine EL.val (x_add rfl rfl (c := ((i + 1 : Nat) : Int)) ((IntWalk.i64_in _ ⟨by first | omega | (simp only; omega), by first | omega | (simp only; omega)⟩).trans (by first | omega | (simp only; omega)))) rfl ?_
   refine EL.as rfl rfl (EL.nil ?_);refine EX.roundD (i + 1, v9) ⟨rfl, rfl, trivial⟩ (by repeat first | with_reducible exact .refl _ | refine sp_ rfl ?_ | exact .refl _ | refine sd_ rfl ?_ | refine sn_ ?_) ⟨⟨hlt, hlm⟩, by simp only; rw [take_map_succ _ l 0 hlt, ints_app]; exact ho9, hbw⟩ (by simp only; omega)
  ·
   have hxe : i = min l.length m := by omega
   refine EC.seq (EC.seq (EC.region (EL.mv rfl rfl (EL.mv rfl rfl (EL.val (ln_79 rfl) rfl ?_)))));refine EL.val (x_lss rfl rfl (decide_eq_true (show (((i : Nat) : Int) < ((l.length : Nat) : Int)) by omega))) rfl ?_
   refine EL.mv rfl rfl (EL.mg rfl rfl rfl rfl (EL.mg rfl rfl rfl rfl ?_));refine EL.valg rfl rfl (x_lss rfl rfl (decide_eq_false (show ¬(((i : Nat) : Int) < ((m : Nat) : Int)) by omega))) rfl ?_
   refine EL.pt rfl rfl rfl (EL.nil (EX.seq (EC.no rfl (EC.exit (EX.seq_exit (EX.seq_exit (EX.blk_here (EX.seq (EC.seq ?_)))))))));refine EC.region (EL.mv rfl rfl (EL.as rfl rfl (EL.nil (EX.seq (EC.ret ?_)))))
   exact EX.done (res1 rfl rfl) ⟨⟨_, rfl, jobs_end hxe hO⟩, hbw⟩
 ·
  have hxe : i = min l.length m := by omega
  refine EC.seq (EC.seq (EC.region (EL.mv rfl rfl (EL.mv rfl rfl (EL.val (ln_79 rfl) rfl ?_)))));refine EL.val (x_lss rfl rfl (decide_eq_false (show ¬(((i : Nat) : Int) < ((l.length : Nat) : Int)) by omega))) rfl ?_
  refine EL.mv rfl rfl (EL.skip rfl rfl rfl rfl (EL.skip rfl rfl rfl rfl (EL.skip rfl rfl rfl rfl (EL.pf rfl rfl rfl (EL.nil (EX.seq (EC.no rfl (EC.exit (EX.seq_exit ?_)))))))));refine EX.seq_exit (EX.blk_here (EX.seq (EC.seq (EC.region (EL.mv rfl rfl (EL.as rfl rfl (EL.nil (EX.seq (EC.ret ?_)))))))))
  exact EX.done (res1 rfl rfl) ⟨⟨_, rfl, jobs_end hxe hO⟩, hbw⟩
theorem evsC_app (a b : List Ev) : evsC (a ++ b) = evsC a ++ evsC b := List.flatMap_append
theorem getD_mem {α : Type} {l : List α} {i : Nat} (h : i < l.length) (d : α) : l.getD i d ∈ l := by rw [getD_in h]; exact List.getElem_mem h
theorem hist_end {W : World} {base i K : Nat} {v : Value} {l : List (Int × Int)} (hx : i = min l.length 30) (h : W.ownsRow base 50 2 v i (evsC ((l.take i).map (smEv K)))) : W.ownsRow base 50 2 v (smHist K l).length (evsC (smHist K l)) := by
 have e : l.take i = l.take 30 := by
  subst hx
  rcases Nat.le_total l.length 30 with h1 | h1
  ·rw [Nat.min_eq_left h1, List.take_length, List.take_of_length_le h1]
  ·rw [Nat.min_eq_right h1]
 have e2 : (smHist K l).length = i := by simp [smHist, hx, Nat.min_comm]
 rw [e2, smHist, ← e]
 exact h
theorem history_any {x : Sml} (hok : SmlOk x) {vks ves : Value} {w : World} {B : Nat} (hl : Rd w B 2 ves x.events.length (e2s x.events)) (hB : B ≤ w.heap.size) {ru : Rules} {vl va vp : Value} {Ak : Option Addr} {ck : Nat} (hkn : ru.kinds.length ≤ 1000) :
  Calls Try.prog 30 #[.agg (smC x.b vks ves).toArray, rulesV vl va vp (.slice Ak ru.kinds.length ck) ru] w fun e w' => (∃ v', e = .returned v' ∧ w'.ownsRow w.heap.size 50 2 v' (smHist ru.kinds.length x.events).length (evsC (smHist ru.kinds.length x.events))) ∧ Below w.heap.size w w' := by
 obtain ⟨Ae, ce, rfl, _⟩ := hl.shape;have hbw := Below.refl w.heap.size w
 unfold rulesV
 refine EC.enter 55 Try.func30 rfl rfl rfl (EC.seq (EC.region (EL.newP (x_boxA rfl) rfl ?_)));intro g1 w1 q1 hb1 hg1 hl1;have bhbw_1 := Nat.le_trans hbw.size hg1;have hbg1 : w.heap.size ≤ g1 := Nat.le_trans hbw.size hg1;replace hbw := bo_ hbw hb1;clear hb1 hg1 hl1;refine EL.newP (bx_28 rfl) rfl ?_;intro g2 w2 q2 hb2 hg2 hl2;have n1_2 := q1.na hg2;have bhbw_2 := Nat.le_trans hbw.size hg2;have hbg2 : w.heap.size ≤ g2 := Nat.le_trans hbw.size hg2;replace q1 := q1.bl hb2;replace hbw := bo_ hbw hb2;clear hb2 hg2 hl2;refine EL.as rfl rfl (EL.nil (EX.seq (EC.seq (EC.region (EL.newS (bs_29_0) rfl ?_)))));intro g3 w3 q3 hb3 hg3 hl3;have n1_3 := q1.na hg3;have n2_3 := q2.na hg3;have bhbw_3 := Nat.le_trans hbw.size hg3;have hbg3 : w.heap.size ≤ g3 := Nat.le_trans hbw.size hg3;replace q1 := q1.bl hb3;replace q2 := q2.bl hb3;replace hbw := bo_ hbw hb3;clear hb3 hg3 hl3;have hO : w3.ownsRow w.heap.size 50 2 (.slice (some ⟨g3, 0, none⟩) 0 0) 0 [] := own_empty 2 q3 hbg3;refine EL.as rfl rfl (EL.nil (EX.seq (EC.seq (EC.seq (EC.region (EL.as rfl rfl (EL.nil (EX.seq (EC.block ?_)))))))));refine EC.loopD [5, 6, 7, 9, 10, 11, 12, 13, 14, 15, 16, 17, 18, 19, 20, 21, 22, 23, 24, 25, 26, 27, 28, 29, 30, 31, 32, 33, 34, 35, 36, 37, 38, 39, 40, 41, 42, 43, 44, 45, 46, 47, 48, 49, 50, 51, 52, 53] (fun x_ : Nat × Value => [(6, .int .i64 (x_.1 : Nat)), (5, x_.2)]) (fun x_ W => (x_.1 ≤ x.events.length ∧ x_.1 ≤ 30) ∧ W.ownsRow w.heap.size 50 2 x_.2 x_.1 (evsC ((x.events.take x_.1).map (smEv ru.kinds.length))) ∧ Below w.heap.size w W ∧ Blk W g1 78 (smC x.b vks (.slice Ae x.events.length ce)).toArray ∧ Blk W g2 28 #[vl, .int .i64 ru.fade.lo, .int .i64 ru.fade.hi, va, vp, .slice Ak ru.kinds.length ck]) (fun x_ => x.events.length - x_.1) (0, .slice (some ⟨g3, 0, none⟩) 0 0) ⟨⟨Nat.zero_le _, Nat.zero_le _⟩, hO, hbw, q1, q2⟩ ⟨rfl, rfl, trivial⟩ ?_
 clear hbw hO q1 q2
 rintro ⟨i, v3⟩ wx ⟨⟨hi, hi2⟩, hO, hbw, q1, q2⟩
 dsimp only at hi hi2 hO
 by_cases hlt : i < x.events.length
 ·
  by_cases hlm : i < 30
  ·
   obtain ⟨bx, ox, ebx, _, x0, x1⟩ := e2s_cells x.events i hlt wx B _ _ _ (hl.below (hbw.mono hB));obtain ⟨hy0, hy1⟩ := hok.e _ (getD_mem hlt (0, 0));refine EC.seq (EC.seq (EC.region (EL.mv rfl rfl (EL.val (fa_78_5 rfl) rfl (EL.val (ld_76 rfl (q1.cellA (smC_e _ _ _))) rfl (EL.val (ln_76 rfl) rfl ?_))))));refine EL.val (x_lss rfl rfl (decide_eq_true (show (((i : Nat) : Int) < ((x.events.length : Nat) : Int)) by omega))) rfl ?_
   refine EL.mv rfl rfl (EL.mg rfl rfl rfl rfl ?_);refine EL.valg rfl rfl (x_lss rfl rfl (decide_eq_true (show (((i : Nat) : Int) < ((30 : Nat) : Int)) by omega))) rfl ?_
   refine EL.pt rfl rfl rfl (EL.nil (EX.seq (EC.yes rfl (EC.skip (EX.seq (EC.seq (EC.block (EC.seq (EC.region ?_)))))))));refine EL.val (fa_78_5 rfl) rfl (EL.val (ld_76 rfl (q1.cellA (smC_e _ _ _))) rfl (EL.mv rfl rfl ?_));refine EL.val (ix_76 (by show some (Value.slice Ae _ _) = _; rw [ebx]) rfl hlt) rfl ?_
   refine EL.val (ld_74 rfl x0 x1) rfl (EL.newP al_74 rfl ?_);intro g4 w4 q4 hb4 hg4 hl4;have n1_4 := q1.na hg4;have n2_4 := q2.na hg4;have bhbw_4 := Nat.le_trans hbw.size hg4;have hbg4 : w.heap.size ≤ g4 := Nat.le_trans hbw.size hg4;replace q1 := q1.bl hb4;replace q2 := q2.bl hb4;replace hO := own_below hO hb4 (Nat.le_refl _);replace hbw := bo_ hbw hb4;clear hb4 hg4 hl4;refine EL.store rfl rfl q4 sz_74 rfl rfl rfl rfl ?_;intro w5 hq5 hg5;replace q1 := q1.gr hg5 n1_4;replace q2 := q2.gr hg5 n2_4;replace hO := own_type hO q4 rfl hg5;replace hbw := below_store hbw hg5 bhbw_4;replace q4 := hq5;clear hg5 hq5;refine EL.nil (EX.seq (EC.seq (EC.region ?_)));refine EL.val (ixa_74 (k := 0) rfl rfl (by omega)) rfl ?_
   refine EL.val (ld_5 rfl (q4.at (j := 0) rfl)) rfl ?_;refine EL.val (x_rem rfl rfl (by decide) rfl) rfl ?_
   by_cases ho : (x.events.getD i (0, 0)).1.tmod 2 = 1
   ·
    refine EL.val (x_eql (r := true) rfl rfl (decide_eq_true ho)) rfl (EL.mv rfl rfl (EL.valg rfl rfl (fa_28_4 rfl) rfl (EL.valg rfl rfl (ld_26 rfl (q2.at (j := 5) rfl)) rfl (EL.valg rfl rfl (ln_26 rfl) rfl ?_))))
    by_cases hk : 0 < ru.kinds.length
    ·
     refine EL.valg rfl rfl (x_gtr (r := true) rfl rfl (decide_eq_true (by omega))) rfl ?_
     refine EL.pt rfl rfl rfl (EL.nil (EX.seq (EC.yes rfl (EC.region (EL.mv rfl rfl ?_)))));refine EL.val (ixa_74 (k := 1) rfl rfl (by omega)) rfl ?_
     refine EL.val (ld_5 rfl (q4.at (j := 1) rfl)) rfl (EL.val (cv_5_3 rfl (wrap_byte hy1)) rfl (EL.val (fa_28_4 rfl) rfl (EL.val (ld_26 rfl (q2.at (j := 5) rfl)) rfl (EL.val (ln_26 rfl) rfl ?_))));refine EL.val (x_rem rfl rfl (by omega) rfl) rfl ?_
     refine EL.call (cA1 cF45 rfl) rfl (lclean_any _ _) ?_
     rintro e w6 ⟨rfl, hc6⟩
     refine ⟨_, rfl, ?_⟩;replace q1 := q1.bl hc6;replace q2 := q2.bl hc6;replace q4 := q4.bl hc6;replace hO := own_below hO hc6 (Nat.le_refl _);replace hbw := bo_ hbw hc6;clear hc6;refine EL.newS (bs_29_1 rfl) rfl ?_;intro g7 w7 q7 hb7 hg7 hl7;have n1_7 := q1.na hg7;have n2_7 := q2.na hg7;have n4_7 := q4.na hg7;have bhbw_7 := Nat.le_trans hbw.size hg7;have hbg7 : w.heap.size ≤ g7 := Nat.le_trans hbw.size hg7;replace q1 := q1.bl hb7;replace q2 := q2.bl hb7;replace q4 := q4.bl hb7;replace hO := own_below hO hb7 (Nat.le_refl _);replace hbw := bo_ hbw hb7;clear hb7 hg7 hl7;have hev : smEv ru.kinds.length (x.events.getD i (0, 0)) = ⟨2, (x.events.getD i (0, 0)).2.tmod (ru.kinds.length : Nat)⟩ := if_pos ⟨ho, hk⟩;refine EL.push ev_elem rfl rfl hO (rd_one (l := evC ⟨2, (x.events.getD i (0, 0)).2.tmod (ru.kinds.length : Nat)⟩) q7 rfl) (evsC_one [⟨2, (x.events.getD i (0, 0)).2.tmod (ru.kinds.length : Nat)⟩]) (by omega) rfl hbw.size rfl ?_
     intro v9 w9 ho9 hgr hb_ hat;replace hbw := hbw.trans hb_;replace q1 := blk_grown q1 hO rfl hgr;replace q2 := blk_grown q2 hO rfl hgr;clear hO hgr hb_ hat;refine EL.as rfl rfl (EL.nil (EX.blk (EX.seq (EC.region (EL.mv rfl rfl ?_)))));refine EL.val (x_add rfl rfl (c := ((i + 1 : Nat) : Int)) ((IntWalk.i64_in _ ⟨by first | omega | (simp only; omega), by first | omega | (simp only; omega)⟩).trans (by first | omega | (simp only; omega)))) rfl ?_
     refine EL.as rfl rfl (EL.nil ?_);refine EX.roundD (i + 1, v9) ⟨rfl, rfl, trivial⟩ (by repeat first | with_reducible exact .refl _ | refine sp_ rfl ?_ | exact .refl _ | refine sd_ rfl ?_ | refine sn_ ?_) ⟨⟨hlt, hlm⟩, by simp only; rw [take_map_succ _ _ (0, 0) hlt, evsC_app, hev]; exact ho9, hbw, q1, q2⟩ (by simp only; omega)
    ·
     refine EL.valg rfl rfl (x_gtr (r := false) rfl rfl (decide_eq_false (by omega))) rfl ?_
     refine EL.pt rfl rfl rfl (EL.nil (EX.seq (EC.no rfl (EC.region (EL.mv rfl rfl ?_)))));refine EL.val (ixa_74 (k := 1) rfl rfl (by omega)) rfl ?_
     refine EL.val (ld_5 rfl (q4.at (j := 1) rfl)) rfl (EL.val (cv_5_3 rfl (wrap_byte hy1)) rfl ?_);refine EL.val (x_rem rfl rfl (by decide) rfl) rfl ?_
     refine EL.call (cA1 cF46 rfl) rfl (lload_any _ _) ?_
     rintro e w8 ⟨rfl, hc8⟩
     refine ⟨_, rfl, ?_⟩;replace q1 := q1.bl hc8;replace q2 := q2.bl hc8;replace q4 := q4.bl hc8;replace hO := own_below hO hc8 (Nat.le_refl _);replace hbw := bo_ hbw hc8;clear hc8;refine EL.newS (bs_29_1 rfl) rfl ?_;intro g9 w9 q9 hb9 hg9 hl9;have n1_9 := q1.na hg9;have n2_9 := q2.na hg9;have n4_9 := q4.na hg9;have bhbw_9 := Nat.le_trans hbw.size hg9;have hbg9 : w.heap.size ≤ g9 := Nat.le_trans hbw.size hg9;replace q1 := q1.bl hb9;replace q2 := q2.bl hb9;replace q4 := q4.bl hb9;replace hO := own_below hO hb9 (Nat.le_refl _);replace hbw := bo_ hbw hb9;clear hb9 hg9 hl9;have hev : smEv ru.kinds.length (x.events.getD i (0, 0)) = ⟨1, (x.events.getD i (0, 0)).2.tmod 4⟩ := if_neg (fun h => hk h.2)
     refine EL.push ev_elem rfl rfl hO (rd_one (l := evC ⟨1, (x.events.getD i (0, 0)).2.tmod 4⟩) q9 rfl) (evsC_one [⟨1, (x.events.getD i (0, 0)).2.tmod 4⟩]) (by omega) rfl hbw.size rfl ?_
     intro v9 w9 ho9 hgr hb_ hat;replace hbw := hbw.trans hb_;replace q1 := blk_grown q1 hO rfl hgr;replace q2 := blk_grown q2 hO rfl hgr;clear hO hgr hb_ hat;refine EL.as rfl rfl (EL.nil (EX.blk (EX.seq (EC.region (EL.mv rfl rfl ?_)))));refine EL.val (x_add rfl rfl (c := ((i + 1 : Nat) : Int)) ((IntWalk.i64_in _ ⟨by first | omega | (simp only; omega), by first | omega | (simp only; omega)⟩).trans (by first | omega | (simp only; omega)))) rfl ?_
     refine EL.as rfl rfl (EL.nil ?_);refine EX.roundD (i + 1, v9) ⟨rfl, rfl, trivial⟩ (by repeat first | with_reducible exact .refl _ | refine sp_ rfl ?_ | exact .refl _ | refine sd_ rfl ?_ | refine sn_ ?_) ⟨⟨hlt, hlm⟩, by simp only; rw [take_map_succ _ _ (0, 0) hlt, evsC_app, hev]; exact ho9, hbw, q1, q2⟩ (by simp only; omega)
   ·
    refine EL.val (x_eql (r := false) rfl rfl (decide_eq_false ho)) rfl (EL.mv rfl rfl (EL.skip rfl rfl rfl rfl (EL.skip rfl rfl rfl rfl (EL.skip rfl rfl rfl rfl (EL.skip rfl rfl rfl rfl (EL.pf rfl rfl rfl (EL.nil (EX.seq (EC.no rfl ?_)))))))));refine EC.region (EL.mv rfl rfl ?_);refine EL.val (ixa_74 (k := 1) rfl rfl (by omega)) rfl ?_
    refine EL.val (ld_5 rfl (q4.at (j := 1) rfl)) rfl (EL.val (cv_5_3 rfl (wrap_byte hy1)) rfl ?_);refine EL.val (x_rem rfl rfl (by decide) rfl) rfl ?_
    refine EL.call (cA1 cF46 rfl) rfl (lload_any _ _) ?_
    rintro e w10 ⟨rfl, hc10⟩
    refine ⟨_, rfl, ?_⟩;replace q1 := q1.bl hc10;replace q2 := q2.bl hc10;replace q4 := q4.bl hc10;replace hO := own_below hO hc10 (Nat.le_refl _);replace hbw := bo_ hbw hc10;clear hc10;refine EL.newS (bs_29_1 rfl) rfl ?_;intro g11 w11 q11 hb11 hg11 hl11;have n1_11 := q1.na hg11;have n2_11 := q2.na hg11;have n4_11 := q4.na hg11;have bhbw_11 := Nat.le_trans hbw.size hg11;have hbg11 : w.heap.size ≤ g11 := Nat.le_trans hbw.size hg11;replace q1 := q1.bl hb11;replace q2 := q2.bl hb11;replace q4 := q4.bl hb11;replace hO := own_below hO hb11 (Nat.le_refl _);replace hbw := bo_ hbw hb11;clear hb11 hg11 hl11;have hev : smEv ru.kinds.length (x.events.getD i (0, 0)) = ⟨1, (x.events.getD i (0, 0)).2.tmod 4⟩ := if_neg (fun h => ho h.1)
    refine EL.push ev_elem rfl rfl hO (rd_one (l := evC ⟨1, (x.events.getD i (0, 0)).2.tmod 4⟩) q11 rfl) (evsC_one [⟨1, (x.events.getD i (0, 0)).2.tmod 4⟩]) (by omega) rfl hbw.size rfl ?_
    intro v9 w9 ho9 hgr hb_ hat;replace hbw := hbw.trans hb_;replace q1 := blk_grown q1 hO rfl hgr;replace q2 := blk_grown q2 hO rfl hgr;clear hO hgr hb_ hat;refine EL.as rfl rfl (EL.nil (EX.blk (EX.seq (EC.region (EL.mv rfl rfl ?_)))));refine EL.val (x_add rfl rfl (c := ((i + 1 : Nat) : Int)) ((IntWalk.i64_in _ ⟨by first | omega | (simp only; omega), by first | omega | (simp only; omega)⟩).trans (by first | omega | (simp only; omega)))) rfl ?_
    refine EL.as rfl rfl (EL.nil ?_);refine EX.roundD (i + 1, v9) ⟨rfl, rfl, trivial⟩ (by repeat first | with_reducible exact .refl _ | refine sp_ rfl ?_ | exact .refl _ | refine sd_ rfl ?_ | refine sn_ ?_) ⟨⟨hlt, hlm⟩, by simp only; rw [take_map_succ _ _ (0, 0) hlt, evsC_app, hev]; exact ho9, hbw, q1, q2⟩ (by simp only; omega)
  ·
   have hxe : i = min x.events.length 30 := by omega
   refine EC.seq (EC.seq (EC.region (EL.mv rfl rfl (EL.val (fa_78_5 rfl) rfl (EL.val (ld_76 rfl (q1.cellA (smC_e _ _ _))) rfl (EL.val (ln_76 rfl) rfl ?_))))));refine EL.val (x_lss rfl rfl (decide_eq_true (show (((i : Nat) : Int) < ((x.events.length : Nat) : Int)) by omega))) rfl ?_
   refine EL.mv rfl rfl (EL.mg rfl rfl rfl rfl ?_);refine EL.valg rfl rfl (x_lss rfl rfl (decide_eq_false (show ¬(((i : Nat) : Int) < ((30 : Nat) : Int)) by omega))) rfl ?_
   refine EL.pt rfl rfl rfl (EL.nil (EX.seq (EC.no rfl (EC.exit (EX.seq_exit (EX.seq_exit (EX.blk_here (EX.seq (EC.seq ?_)))))))));refine EC.region (EL.mv rfl rfl (EL.as rfl rfl (EL.nil (EX.seq (EC.ret ?_)))))
   exact EX.done (res1 rfl rfl) ⟨⟨_, rfl, hist_end hxe hO⟩, hbw⟩
 ·
  have hxe : i = min x.events.length 30 := by omega
  refine EC.seq (EC.seq (EC.region (EL.mv rfl rfl (EL.val (fa_78_5 rfl) rfl (EL.val (ld_76 rfl (q1.cellA (smC_e _ _ _))) rfl (EL.val (ln_76 rfl) rfl ?_))))));refine EL.val (x_lss rfl rfl (decide_eq_false (show ¬(((i : Nat) : Int) < ((x.events.length : Nat) : Int)) by omega))) rfl ?_
  refine EL.mv rfl rfl (EL.skip rfl rfl rfl rfl (EL.skip rfl rfl rfl rfl (EL.pf rfl rfl rfl (EL.nil (EX.seq (EC.no rfl (EC.exit (EX.seq_exit (EX.seq_exit ?_)))))))));refine EX.blk_here (EX.seq (EC.seq (EC.region (EL.mv rfl rfl (EL.as rfl rfl (EL.nil (EX.seq (EC.ret ?_))))))))
  exact EX.done (res1 rfl rfl) ⟨⟨_, rfl, hist_end hxe hO⟩, hbw⟩
def fu {α : Type} (f : Nat → α) (i : Nat) (a : α) : Nat → α := fun k => if k = i then a else f k
theorem fu_eq {α : Type} (f : Nat → α) (i : Nat) (a : α) : fu f i a i = a := if_pos rfl
theorem fu_ne {α : Type} {f : Nat → α} {i k : Nat} {a : α} (h : k ≠ i) : fu f i a k = f k := if_neg h
/-- N rows of one's own, of one cell an element, all in blocks of their own -/
structure Fam (W : World) (base N : Nat) (t : Nat → Nat) (v : Nat → Value) (x : Nat → List Value) : Prop where
 own : ∀ i, i < N → W.ownsRow base (t i) 1 (v i) (x i).length (x i)
 apart : ∀ i j, i < N → j < N → i ≠ j → ∀ k, (v i).ownBlock = some k → (v j).ownBlock ≠ some k
section
variable {W W' : World} {base N : Nat} {t : Nat → Nat} {v : Nat → Value} {x : Nat → List Value}
theorem Fam.below (h : Fam W base N t v x) (hb : Below W.heap.size W W') : Fam W' base N t v x := ⟨fun i hi => own_below (h.own i hi) hb (Nat.le_refl _), h.apart⟩
theorem Fam.kept {row : Option Nat} (h : Fam W base N t v x) (hg : W.grownBy W' row) (hr : ∀ i, i < N → ∀ b, (v i).ownBlock = some b → row ≠ some b) : Fam W' base N t v x := ⟨fun i hi => (h.own i hi).kept hg (by
 cases e : (v i).ownBlock with
 | none => exact .inl rfl
 | some b => exact .inr fun e2 => hr i hi b e e2.symm), h.apart⟩
theorem Fam.box {g T : Nat} {cs : Array Value} (h : Fam W base N t v x) (hq : Blk W g T cs) (hT : ∀ i, i < N → Nat.beq T (t i) = false) (hg : W.grownBy W' (some g)) : Fam W' base N t v x := ⟨fun i hi => own_type (h.own i hi) hq (hT i hi) hg, h.apart⟩
theorem Fam.same {y : Nat → List Value} (h : Fam W base N t v x) (hy : ∀ i, i < N → x i = y i) : Fam W base N t v y := ⟨fun i hi => hy i hi ▸ h.own i hi, h.apart⟩
theorem Fam.val {u : Nat → Value} (h : Fam W base N t v x) (hy : ∀ i, i < N → v i = u i) : Fam W base N t u x := ⟨fun i hi => hy i hi ▸ h.own i hi, fun i j hi hj hn => by rw [← hy i hi, ← hy j hj]; exact h.apart i j hi hj hn⟩
/-- one of the rows is turned: it stays where it was, or has a new block -/
theorem Fam.turn {j : Nat} {v' : Value} {y : List Value} (h : Fam W base N t v x) (hj : j < N) (ho : W'.ownsRow base (t j) 1 v' y.length y) (hg : W.grownBy W' (v j).ownBlock) (hat : v'.ownBlock = (v j).ownBlock ∨ v'.ownBlock = some W.heap.size) : Fam W' base N t (fu v j v') (fu x j y) := by
 have hnew : ∀ i, i < N → i ≠ j → ∀ k, (v i).ownBlock = some k → v'.ownBlock ≠ some k := fun i hi hn k hk e => by
  rcases hat with h1 | h1
  ·rw [h1] at e
   exact h.apart i j hi hj hn k hk e
  ·rw [h1] at e
   injection e with e
   have := ((h.own i hi).lt k hk).2
   omega
 refine ⟨fun i hi => ?_, fun i k hi hk hn b hb => ?_⟩
 ·by_cases e : i = j
  ·subst e
   rw [fu_eq, fu_eq]
   exact ho
  ·rw [fu_ne e, fu_ne e]
   refine (h.own i hi).kept hg ?_
   cases e2 : (v i).ownBlock with
   | none => exact .inl rfl
   | some b => exact .inr fun e3 => h.apart i j hi hj e b e2 e3.symm
 ·by_cases e : i = j
  ·subst e
   rw [fu_eq] at hb;rw [fu_ne (fun e => hn e.symm)]
   exact fun e => hnew k hk (fun e => hn e.symm) b e hb
  ·rw [fu_ne e] at hb
   by_cases e2 : k = j
   ·subst e2
    rw [fu_eq]
    exact hnew i hi e b hb
   ·rw [fu_ne e2]
    exact h.apart i k hi hk hn b hb
theorem Fam.nils (W : World) (base N : Nat) (t : Nat → Nat) : Fam W base N t (fun _ => .slice none 0 0) (fun _ => []) := ⟨fun i _ => World.ownsRow_nil _ _ _ _, fun _ _ _ _ _ _ h => by cases h⟩
theorem own_shape {e n : Nat} {u : Value} {xs : List Value} (h : W.ownsRow base e 1 u n xs) (h0 : 0 < n) : ∃ g c, u = .slice (some ⟨g, 0, none⟩) n c ∧ base ≤ g ∧ g < W.heap.size := by
 have hl := h.lt;obtain ⟨_, ⟨_, h2⟩ | ⟨g, cap, cur, h2, _⟩⟩ := h
 ·omega
 ·subst h2
  have := hl g rfl
  exact ⟨g, cap, rfl, this.1, this.2⟩
theorem own_cell {e n g c k : Nat} {u : Value} {xs : List Value} (h : W.ownsRow base e 1 (.slice (some ⟨g, 0, none⟩) n c) n xs) (hk : xs[k]? = some u) : W.cell? ⟨g, 0 + k, none⟩ = some u := by
 obtain ⟨b, o, he, _, hc⟩ := (Rd.of_own h).at_ (by have := (List.getElem?_eq_some_iff.1 hk).1; have := h.1; omega)
 injection he with he
 injection he with h1 h2
 subst h1;subst h2
 exact hc k u hk
end
theorem spl_one : ∀ (l : List Value) (k : Nat) (u : Value), k < l.length → spl l k [u] = l.set k u := fun l k u h => by
 rw [spl_eq _ _ _ h, List.set_eq_take_append_cons_drop, if_pos h]
 simp
/-! ### The rows of small rules: the levels, two lists of lists, and their eight lists -/
def ft (i : Nat) : Nat := if i = 1 then 22 else if i = 2 then 22 else 3
theorem ft_box {T : Nat} (h1 : Nat.beq T 22 = false) (h2 : Nat.beq T 3 = false) (i : Nat) : Nat.beq T (ft i) = false := by
 unfold ft
 split
 ·exact h1
 ·split
  ·exact h1
  ·exact h2
theorem ft_row {i : Nat} (h : 3 ≤ i) : ft i = 3 := by
 unfold ft
 rw [if_neg (by omega), if_neg (by omega)]
def cnt (i k r : Nat) : Nat := if r < i then 4 else if r = i then k else 0
def alR (b : Nat → Int) (r k : Nat) : List Int := (List.range k).map fun c => b (4 + 4 * r + c)
def apR (b : Nat → Int) (r k : Nat) : List Int := (List.range k).map fun c => (b (20 + 4 * r + c)).tmod 3
def fX (b : Nat → Int) (v : Nat → Value) (n i k : Nat) (j : Nat) : List Value :=
 if j = 0 then ints ((List.range n).map b) else if j = 1 then (List.range n).map (fun r => v (3 + 2 * r)) else if j = 2 then (List.range n).map (fun r => v (4 + 2 * r))
 else if j % 2 = 1 then ints (alR b ((j - 3) / 2) (cnt i k ((j - 3) / 2))) else ints (apR b ((j - 4) / 2) (cnt i k ((j - 4) / 2)))
theorem fX_al (b : Nat → Int) (v : Nat → Value) (n i k r : Nat) : fX b v n i k (3 + 2 * r) = ints (alR b r (cnt i k r)) := by
 unfold fX
 rw [if_neg (by omega), if_neg (by omega), if_neg (by omega), if_pos (by omega), show (3 + 2 * r - 3) / 2 = r by omega]
theorem fX_ap (b : Nat → Int) (v : Nat → Value) (n i k r : Nat) : fX b v n i k (4 + 2 * r) = ints (apR b r (cnt i k r)) := by
 unfold fX
 rw [if_neg (by omega), if_neg (by omega), if_neg (by omega), if_neg (by omega), show (4 + 2 * r - 4) / 2 = r by omega]
theorem fX_1 (b : Nat → Int) (v : Nat → Value) (n i k : Nat) : fX b v n i k 1 = (List.range n).map fun r => v (3 + 2 * r) := by simp [fX]
theorem fX_2 (b : Nat → Int) (v : Nat → Value) (n i k : Nat) : fX b v n i k 2 = (List.range n).map fun r => v (4 + 2 * r) := by simp [fX]
theorem fX_len0 (b : Nat → Int) (v : Nat → Value) (n i k : Nat) : (fX b v n i k 0).length = n := by simp [fX, ints]
theorem fX_len1 (b : Nat → Int) (v : Nat → Value) (n i k : Nat) : (fX b v n i k 1).length = n := by simp [fX]
theorem fX_len2 (b : Nat → Int) (v : Nat → Value) (n i k : Nat) : (fX b v n i k 2).length = n := by simp [fX]
theorem fX_at1 (b : Nat → Int) (v : Nat → Value) {n i k r : Nat} (h : r < n) : (fX b v n i k 1)[r]? = some (v (3 + 2 * r)) := by simp [fX, h]
theorem fX_at2 (b : Nat → Int) (v : Nat → Value) {n i k r : Nat} (h : r < n) : (fX b v n i k 2)[r]? = some (v (4 + 2 * r)) := by simp [fX, h]
theorem fX_end (b : Nat → Int) (v : Nat → Value) (n i j : Nat) : fX b v n i 4 j = fX b v n (i + 1) 0 j := by
 have h : ∀ r, cnt i 4 r = cnt (i + 1) 0 r := fun r => by
  unfold cnt
  split
  ·rw [if_pos (by omega)]
  ·split
   ·rw [if_pos (by omega)]
   ·rw [if_neg (by omega)]
    split <;> rfl
 unfold fX
 rw [h, h]
theorem j_cases (j : Nat) : j = 0 ∨ j = 1 ∨ j = 2 ∨ (∃ r, j = 3 + 2 * r) ∨ ∃ r, j = 4 + 2 * r := by
 by_cases h : j < 3
 ·omega
 ·rcases Nat.mod_two_eq_zero_or_one j with h2 | h2
  ·exact .inr (.inr (.inr (.inr ⟨(j - 4) / 2, by omega⟩)))
  ·exact .inr (.inr (.inr (.inl ⟨(j - 3) / 2, by omega⟩)))
/-- a level more, and two lists of nothing -/
theorem fX_more {b : Nat → Int} {v : Nat → Value} {i : Nat} {p q r : Value} (h1 : v (3 + 2 * i) = .slice none 0 0) (h2 : v (4 + 2 * i) = .slice none 0 0) (j : Nat) :
  fu (fu (fu (fX b v i i 0) 0 (fX b v i i 0 0 ++ [.int .i64 (b i)])) 1 (fX b v i i 0 1 ++ [.slice none 0 0])) 2 (fX b v i i 0 2 ++ [.slice none 0 0]) j = fX b (fu (fu (fu v 0 p) 1 q) 2 r) (i + 1) i 0 j := by
 have hv : ∀ k, 3 ≤ k → fu (fu (fu v 0 p) 1 q) 2 r k = v k := fun k hk => by rw [fu_ne (by omega), fu_ne (by omega), fu_ne (by omega)]
 rcases j_cases j with rfl | rfl | rfl | ⟨s, rfl⟩ | ⟨s, rfl⟩
 ·rw [fu_ne (by omega), fu_ne (by omega), fu_eq]
  simp [fX, ints, List.range_succ]
 ·rw [fu_ne (by omega), fu_eq, fX_1, fX_1, List.range_succ, List.map_append, List.map_cons, List.map_nil, hv _ (by omega), h1]
  congr 1
  exact List.map_congr_left fun k _ => (hv _ (by omega)).symm
 ·rw [fu_eq, fX_2, fX_2, List.range_succ, List.map_append, List.map_cons, List.map_nil, hv _ (by omega), h2]
  congr 1
  exact List.map_congr_left fun k _ => (hv _ (by omega)).symm
 ·rw [fu_ne (by omega), fu_ne (by omega), fu_ne (by omega), fX_al, fX_al]
 ·rw [fu_ne (by omega), fu_ne (by omega), fu_ne (by omega), fX_ap, fX_ap]
/-- one number more in both lists of row i -/
theorem fX_num {b : Nat → Int} {v : Nat → Value} {n i k : Nat} {p q : Value} (hi : i < n) (hk : k < 4) (j : Nat) :
  fu (fu (fu (fu (fX b v n i k) (3 + 2 * i) (fX b v n i k (3 + 2 * i) ++ [.int .i64 (b (4 + 4 * i + k))])) (4 + 2 * i) (fX b v n i k (4 + 2 * i) ++ [.int .i64 ((b (20 + 4 * i + k)).tmod 3)])) 1 ((fX b v n i k 1).set i p)) 2 ((fX b v n i k 2).set i q) j = fX b (fu (fu v (3 + 2 * i) p) (4 + 2 * i) q) n i (k + 1) j := by
 have hc : ∀ s, s ≠ i → cnt i (k + 1) s = cnt i k s := fun s hs => by
  unfold cnt
  split
  ·rfl
  ·simp [hs]
 have hc2 : ∀ m, cnt i m i = m := fun m => by unfold cnt; rw [if_neg (by omega), if_pos rfl]
 rcases j_cases j with rfl | rfl | rfl | ⟨s, rfl⟩ | ⟨s, rfl⟩
 ·rw [fu_ne (by omega), fu_ne (by omega), fu_ne (by omega), fu_ne (by omega)]
  rfl
 ·rw [fu_ne (by omega), fu_eq, fX_1, fX_1]
  refine List.ext_getElem? fun r => ?_
  by_cases hr : r = i
  ·subst hr
   simp [List.getElem?_set, hi, fu_eq, fu_ne (show 3 + 2 * r ≠ 4 + 2 * r by omega)]
  ·rw [List.getElem?_set_ne (fun e => hr e.symm)]
   by_cases h2 : r < n
   ·simp [h2, fu_ne (show 3 + 2 * r ≠ 4 + 2 * i by omega), fu_ne (show 3 + 2 * r ≠ 3 + 2 * i by omega)]
   ·simp [h2]
 ·rw [fu_eq, fX_2, fX_2]
  refine List.ext_getElem? fun r => ?_
  by_cases hr : r = i
  ·subst hr
   simp [List.getElem?_set, hi, fu_eq]
  ·rw [List.getElem?_set_ne (fun e => hr e.symm)]
   by_cases h2 : r < n
   ·simp [h2, fu_ne (show 4 + 2 * r ≠ 4 + 2 * i by omega), fu_ne (show 4 + 2 * r ≠ 3 + 2 * i by omega)]
   ·simp [h2]
 ·rw [fu_ne (by omega), fu_ne (by omega), fu_ne (by omega)]
  by_cases hs : s = i
  ·subst hs
   rw [fu_eq, fX_al, fX_al, hc2, hc2]
   simp [alR, ints, List.range_succ]
  ·rw [fu_ne (by omega), fX_al, fX_al, hc s hs]
 ·rw [fu_ne (by omega), fu_ne (by omega)]
  by_cases hs : s = i
  ·subst hs
   rw [fu_eq, fX_ap, fX_ap, hc2, hc2]
   simp [apR, ints, List.range_succ]
  ·rw [fu_ne (by omega), fu_ne (by omega), fX_ap, fX_ap, hc s hs]
/-- the family at a drawn region's beginning -/
theorem base_fam {W : World} {base N : Nat} {t : Nat → Nat} {v : Nat → Value} {x : Nat → List Value} {S : List Nat} {S1 : List Nat} {C D : (Nat → Bool) → Prop} (h : Fam W base N t v x) (hn : base ≤ W.heap.size) : BaseOk W fun fl w1 => Kp base S W w1 ∧ (D fl → Kp base S1 W w1) ∧ (C fl → Fam w1 base N t v x) :=
 ⟨fun _ _ => ⟨⟨rfl, rfl, rfl, Nat.le_refl _, fun _ _ => rfl, fun _ _ _ h _ => h⟩, fun _ => ⟨rfl, rfl, rfl, Nat.le_refl _, fun _ _ => rfl, fun _ _ _ h _ => h⟩, fun _ => h.below ⟨rfl, rfl, rfl, Nat.le_refl _, fun _ _ => rfl⟩⟩, fun _ w1 w2 ⟨h1, h3, h2⟩ hb => ⟨h1.trans (Kp.of_below hb (Nat.le_trans hn h1.size)), fun hd => (h3 hd).trans (Kp.of_below hb (Nat.le_trans hn h1.size)), fun hc => (h2 hc).below hb⟩, fun _ _ h => h.1.size⟩
theorem Fam.pushed {W W' : World} {base N : Nat} {t : Nat → Nat} {v : Nat → Value} {x : Nat → List Value} {base' e' size' n' : Nat} {u : Value} {ys : List Value} (h : Fam W base N t v x) (hu : W.ownsRow base' e' size' u n' ys) (hT : ∀ i, i < N → Nat.beq e' (t i) = false) (hg : W.grownBy W' u.ownBlock) : Fam W' base N t v x := ⟨fun i hi => own_grown (h.own i hi) hu (hT i hi) hg, h.apart⟩
theorem fX_lenA (b : Nat → Int) (v : Nat → Value) (n i k : Nat) : (fX b v n i k (3 + 2 * i)).length = k := by
 have hc : cnt i k i = k := by unfold cnt; rw [if_neg (by omega), if_pos rfl]
 rw [fX_al, hc]
 simp [alR, ints]
theorem fX_lenP (b : Nat → Int) (v : Nat → Value) (n i k : Nat) : (fX b v n i k (4 + 2 * i)).length = k := by
 have hc : cnt i k i = k := by unfold cnt; rw [if_neg (by omega), if_pos rfl]
 rw [fX_ap, hc]
 simp [apR, ints]
theorem fX_zero (b : Nat → Int) (v : Nat → Value) (j : Nat) : fX b v 0 0 0 j = [] := by
 have hc : ∀ r, cnt 0 0 r = 0 := fun r => by
  unfold cnt
  rw [if_neg (by omega)]
  split <;> rfl
 unfold fX
 rw [hc, hc]
 split
 ·rfl
 ·split
  ·rfl
  ·split
   ·rfl
   ·split <;> rfl
theorem smC_at2 (b : Nat → Int) (vk ve : Value) {o j : Nat} (e : o = j) (h : j < 38) : (smC b vk ve)[o]? = some (.int .u8 (b j)) := by
 subst e
 exact smC_at b vk ve h
theorem byte_min {p q : Int} (h : byte p) (k : byte q) : byte (min p q) := by
 unfold byte at *
 omega
theorem byte_max {p q : Int} (h : byte p) (k : byte q) : byte (max p q) := by
 unfold byte at *
 omega
theorem byte_rem {p : Int} (h : byte p) {m : Int} (hm : 0 < m) : 0 ≤ p.tmod m ∧ p.tmod m < m := by
 rw [Int.tmod_eq_emod_of_nonneg h.1]
 exact ⟨Int.emod_nonneg _ (by omega), Int.emod_lt_of_pos _ hm⟩
def smKd (p : Int × Int × Int) : Kd := ⟨⟨p.1, p.1 + p.2.1.tmod 40⟩, p.2.1, p.2.2, 100 * p.2.2⟩
def smRules (x : Sml) : Rules := { levels := (List.range 4).map x.b, fade := ⟨(min (x.b 36) (x.b 37)).tmod 40, (min (x.b 36) (x.b 37)).tmod 40 + (max (x.b 36) (x.b 37)).tmod 20⟩, allow := (List.range 4).map fun r => alR x.b r 4, apart := (List.range 4).map fun r => apR x.b r 4, kinds := (x.kinds.take 4).map smKd }
theorem rules_end {W : World} {base i : Nat} {v : Nat → Value} {vk : Value} {x : Sml} (hx : i = min x.kinds.length 4) (hF : Fam W base 11 ft v (fX x.b v 4 4 0)) (hO : W.ownsRow base 52 5 vk i (kdsC ((x.kinds.take i).map smKd))) :
  vk = vk ∧ RdRules W W.heap.size (v 0) (v 1) (v 2) vk (smRules x) ((List.range 4).map fun r => v (3 + 2 * r)) ((List.range 4).map fun r => v (4 + 2 * r)) := by
 have e : x.kinds.take i = x.kinds.take 4 := by
  subst hx
  rcases Nat.le_total x.kinds.length 4 with h1 | h1
  ·rw [Nat.min_eq_left h1, List.take_length, List.take_of_length_le h1]
  ·rw [Nat.min_eq_right h1]
 have e2 : (smRules x).kinds.length = i := by simp [smRules, hx, Nat.min_comm]
 refine ⟨rfl, ⟨?_, ⟨by simp [smRules], ?_, fun r hr => ?_⟩, ⟨by simp [smRules], ?_, fun r hr => ?_⟩, ?_⟩⟩
 ·have h := Rd.of_own (hF.own 0 (by omega))
  rw [fX_len0] at h
  exact h
 ·have h := Rd.of_own (hF.own 1 (by omega))
  rw [fX_len1, fX_1] at h
  exact h
 ·have hr' : r < 4 := by simpa [smRules] using hr
  have h := Rd.of_own (hF.own (3 + 2 * r) (by omega))
  have hc : cnt 4 0 r = 4 := if_pos hr';rw [fX_al, hc] at h;have e3 : (smRules x).allow.getD r [] = alR x.b r 4 := by simp [smRules, hr']
  have e4 : ((List.range 4).map fun r => v (3 + 2 * r)).getD r undef = v (3 + 2 * r) := by simp [hr']
  rw [e3, e4, ← ints_flat];have e5 : (ints (alR x.b r 4)).length = (alR x.b r 4).length := by simp [ints]
  rw [e5] at h
  exact h
 ·have h := Rd.of_own (hF.own 2 (by omega))
  rw [fX_len2, fX_2] at h
  exact h
 ·have hr' : r < 4 := by simpa [smRules] using hr
  have h := Rd.of_own (hF.own (4 + 2 * r) (by omega))
  have hc : cnt 4 0 r = 4 := if_pos hr';rw [fX_ap, hc] at h;have e3 : (smRules x).apart.getD r [] = apR x.b r 4 := by simp [smRules, hr']
  have e4 : ((List.range 4).map fun r => v (4 + 2 * r)).getD r undef = v (4 + 2 * r) := by simp [hr']
  rw [e3, e4, ← ints_flat];have e5 : (ints (apR x.b r 4)).length = (apR x.b r 4).length := by simp [ints]
  rw [e5] at h
  exact h
 ·rw [e2]
  rw [e] at hO
  exact Rd.of_own hO
section
variable {n : Nat} {σ : Sg} {w : World} {dst : Option Tmp} {ty : TypeId} {pos : String} {af : Array Edge} {g : Option (Nat × Bool)} {x y z : Operand} {at' : Array TypeId}
theorem fa_78_3 {b o : Nat} (hx : evS σ x = some (.pointer (some ⟨b, o, none⟩))) : Gives Try.prog n σ w ⟨dst, .fieldAddr 78 x 3, ty, pos, af, g⟩ (.pointer (some ⟨b, o + 36, none⟩)) := fun a ha => by
 simp only [execOp, ha.eval hx]
 simp [go_sem]
theorem bd_24_0 {x0 : Operand} {z0 : Int} (h0 : evS σ x0 = some (.int .i64 z0)) : Gives Try.prog n σ w ⟨dst, .build 24 #[(0, x0)], ty, pos, af, g⟩ (.agg #[.int .i64 z0, .int .i64 0]) := fun a ha => by
 simp only [execOp, List.map_toArray, List.map_cons, List.map_nil, ha.eval h0]
 go_simp
theorem bd_28_1 {x0 : Operand} {v0_0 : Value} {v0_1 : Value} (h0 : evS σ x0 = some (.agg #[v0_0, v0_1])) : Gives Try.prog n σ w ⟨dst, .build 28 #[(1, x0)], ty, pos, af, g⟩ (.agg #[.slice none 0 0, v0_0, v0_1, .slice none 0 0, .slice none 0 0, .slice none 0 0]) := fun a ha => by
 simp only [execOp, List.map_toArray, List.map_cons, List.map_nil, ha.eval h0]
 go_simp
theorem ixa_72 {b o k : Nat} (hx : evS σ x = some (.pointer (some ⟨b, o, none⟩))) (hy : evS σ y = some (.int .i64 (k : Int))) (hk : k < 4) : Gives Try.prog n σ w ⟨dst, .indexAddr 72 x y, ty, pos, af, g⟩ (.pointer (some ⟨b, o + k, none⟩)) := fun a ha => by
 have k0 : (0 : Int) ≤ (k : Int) := Int.natCast_nonneg _;have k1 : (k : Int) < 4 := by omega
 simp only [execOp, ha.eval hx, ha.eval hy]
 simp [go_sem, k0, k1]
theorem fa_78_0 {b o : Nat} (hx : evS σ x = some (.pointer (some ⟨b, o, none⟩))) : Gives Try.prog n σ w ⟨dst, .fieldAddr 78 x 0, ty, pos, af, g⟩ (.pointer (some ⟨b, o, none⟩)) := fun a ha => by
 simp only [execOp, ha.eval hx]
 simp [go_sem]
theorem ixa_73 {b o k : Nat} (hx : evS σ x = some (.pointer (some ⟨b, o, none⟩))) (hy : evS σ y = some (.int .i64 (k : Int))) (hk : k < 4) : Gives Try.prog n σ w ⟨dst, .indexAddr 73 x y, ty, pos, af, g⟩ (.pointer (some ⟨b, o + k * 4, none⟩)) := fun a ha => by
 have k0 : (0 : Int) ≤ (k : Int) := Int.natCast_nonneg _;have k1 : (k : Int) < 4 := by omega
 simp only [execOp, ha.eval hx, ha.eval hy]
 simp [go_sem, k0, k1]
theorem fa_78_1 {b o : Nat} (hx : evS σ x = some (.pointer (some ⟨b, o, none⟩))) : Gives Try.prog n σ w ⟨dst, .fieldAddr 78 x 1, ty, pos, af, g⟩ (.pointer (some ⟨b, o + 4, none⟩)) := fun a ha => by
 simp only [execOp, ha.eval hx]
 simp [go_sem]
theorem fa_78_2 {b o : Nat} (hx : evS σ x = some (.pointer (some ⟨b, o, none⟩))) : Gives Try.prog n σ w ⟨dst, .fieldAddr 78 x 2, ty, pos, af, g⟩ (.pointer (some ⟨b, o + 20, none⟩)) := fun a ha => by
 simp only [execOp, ha.eval hx]
 simp [go_sem]
theorem ix_75 {b o m c k : Nat} (hx : evS σ x = some (.slice (some ⟨b, o, none⟩) m c)) (hy : evS σ y = some (.int .i64 (k : Int))) (hk : k < m) : Gives Try.prog n σ w ⟨dst, .indexAddr 75 x y, ty, pos, af, g⟩ (.pointer (some ⟨b, o + k * 3, none⟩)) := fun a ha => by
 have k0 : (0 : Int) ≤ (k : Int) := Int.natCast_nonneg _;have k1 : (k : Int) < (m : Int) := by omega
 simp only [execOp, ha.eval hx, ha.eval hy]
 simp [go_sem, k0, k1]
theorem fa_78_4 {b o : Nat} (hx : evS σ x = some (.pointer (some ⟨b, o, none⟩))) : Gives Try.prog n σ w ⟨dst, .fieldAddr 78 x 4, ty, pos, af, g⟩ (.pointer (some ⟨b, o + 38, none⟩)) := fun a ha => by
 simp only [execOp, ha.eval hx]
 simp [go_sem]
theorem ld_75 {b o : Nat} {v0 : Value} (hx : evS σ x = some (.pointer (some ⟨b, o, none⟩))) (c0 : w.cell? ⟨b, o, none⟩ = some v0) : Gives Try.prog n σ w ⟨dst, .load 75 x, ty, pos, af, g⟩ (v0) := fun a ha => by
 simp only [execOp, ha.eval hx]
 simp [go_sem, c0]
theorem ln_75 {A : Option Addr} {m c : Nat} (hx : evS σ x = some (.slice A m c)) : Gives Try.prog n σ w ⟨dst, .call { callee := .builtin .len, args := #[x], argTypes := #[75] }, ty, pos, af, g⟩ (.int .i64 (m : Int)) := fun a ha => by
 simp only [execOp, resolve, List.map_toArray, List.map_cons, List.map_nil, ha.eval hx]
 simp [go_sem]
theorem ld_140 {b o : Nat} {v0 v1 v2 : Value} (hx : evS σ x = some (.pointer (some ⟨b, o, none⟩))) (c0 : w.cell? ⟨b, o, none⟩ = some v0) (c1 : w.cell? ⟨b, o + 1, none⟩ = some v1) (c2 : w.cell? ⟨b, o + 2, none⟩ = some v2) : Gives Try.prog n σ w ⟨dst, .load 140 x, ty, pos, af, g⟩ (.agg #[v0, v1, v2]) := fun a ha => by
 simp only [execOp, ha.eval hx]
 simp [go_sem, c0, c1, c2]
theorem al_140 (a : Act) (_ : Env n σ a) : (execOp a.eval ⟨dst, .alloc 140, ty, pos, af, g⟩).run Try.prog w = .ok (.value (.pointer (some ⟨w.heap.size, 0, none⟩))) (w.alloc (.cells #[.int .u8 0, .int .u8 0, .int .u8 0] 140)) := by
 simp only [execOp]
 simp [go_sem]
theorem sz_140 : (Try.prog.info? 140).map (·.size) = some 3 := by kernel_rfl
theorem ixa_140 {b o k : Nat} (hx : evS σ x = some (.pointer (some ⟨b, o, none⟩))) (hy : evS σ y = some (.int .i64 (k : Int))) (hk : k < 3) : Gives Try.prog n σ w ⟨dst, .indexAddr 140 x y, ty, pos, af, g⟩ (.pointer (some ⟨b, o + k, none⟩)) := fun a ha => by
 have k0 : (0 : Int) ≤ (k : Int) := Int.natCast_nonneg _;have k1 : (k : Int) < 3 := by omega
 simp only [execOp, ha.eval hx, ha.eval hy]
 simp [go_sem, k0, k1]
theorem bs_26_1 {x0 : Operand} {v0_0 v0_1 v0_2 v0_3 v0_4 : Value} (h0 : evS σ x0 = some (.agg #[v0_0, v0_1, v0_2, v0_3, v0_4]))  (a : Act) (ha : Env n σ a) : (execOp a.eval ⟨dst, .buildSlice 26 1 #[(0, x0)], ty, pos, af, g⟩).run Try.prog w = .ok (.value (.slice (some ⟨w.heap.size, 0, none⟩) 1 1)) (w.alloc (.cells #[v0_0, v0_1, v0_2, v0_3, v0_4] 52)) := by
 simp only [execOp, List.map_toArray, List.map_cons, List.map_nil, ha.eval h0]
 go_simp
end
theorem own_sl {W : World} {base e n : Nat} {u : Value} {xs : List Value} (h : W.ownsRow base e 1 u n xs) : ∃ A c, u = .slice A n c := let ⟨A, c, h, _⟩ := (Rd.of_own h).shape
 ⟨A, c, h⟩
theorem kdsC_app (a b : List Kd) : kdsC (a ++ b) = kdsC a ++ kdsC b := List.flatMap_append
theorem mm8_min {n : Nat} {σ : Sg} {w : World} {dst : Option Tmp} {ty : TypeId} {pos : String} {af : Array Edge} {g : Option (Nat × Bool)} {x y : Operand} {at' : Array TypeId} {p q r : Int} (hx : evS σ x = some (.int .u8 p)) (hy : evS σ y = some (.int .u8 q)) (hr : min p q = r) : Gives Try.prog n σ w ⟨dst, .call { callee := .builtin .min, args := #[x, y], argTypes := at' }, ty, pos, af, g⟩ (.int .u8 r) := fun a ha => by
 simp only [execOp, resolve, List.map_toArray, List.map_cons, List.map_nil, ha.eval hx, ha.eval hy]
 subst hr
 simp [go_sem, Int.min_def]
 split <;> split <;> omega
theorem mm8_max {n : Nat} {σ : Sg} {w : World} {dst : Option Tmp} {ty : TypeId} {pos : String} {af : Array Edge} {g : Option (Nat × Bool)} {x y : Operand} {at' : Array TypeId} {p q r : Int} (hx : evS σ x = some (.int .u8 p)) (hy : evS σ y = some (.int .u8 q)) (hr : max p q = r) : Gives Try.prog n σ w ⟨dst, .call { callee := .builtin .max, args := #[x, y], argTypes := at' }, ty, pos, af, g⟩ (.int .u8 r) := fun a ha => by
 simp only [execOp, resolve, List.map_toArray, List.map_cons, List.map_nil, ha.eval hx, ha.eval hy]
 subst hr
 simp [go_sem, Int.max_def]
 split <;> split <;> omega
theorem fu_back {v2 : Nat → Value} {i : Nat} {p q s t : Value} (h1 : v2 1 = s) (h2 : v2 2 = t) (j : Nat) : fu (fu (fu (fu v2 (3 + 2 * i) p) (4 + 2 * i) q) 1 s) 2 t j = fu (fu v2 (3 + 2 * i) p) (4 + 2 * i) q j := by
 by_cases e2 : j = 2
 ·subst e2
  rw [fu_eq, fu_ne (by omega), fu_ne (by omega), h2]
 ·rw [fu_ne e2]
  by_cases e1 : j = 1
  ·subst e1
   rw [fu_eq, fu_ne (by omega), fu_ne (by omega), h1]
  ·rw [fu_ne e1]
set_option maxRecDepth 100000 in
set_option maxHeartbeats 2000000 in
theorem smRules_any {x : Sml} (hok : SmlOk x) {vks ves : Value} {w : World} {B : Nat} (hkr : Rd w B 3 vks x.kinds.length (k3s x.kinds)) (hB : B ≤ w.heap.size) :
  Calls Try.prog 29 #[.agg (smC x.b vks ves).toArray] w fun e w' => (∃ vl va vp vk ua up, e = .returned (rulesV vl va vp vk (smRules x)) ∧ RdRules w' w'.heap.size vl va vp vk (smRules x) ua up) ∧ Below w.heap.size w w' := by
 obtain ⟨Ak, ck, rfl, _⟩ := hkr.shape;have hbw := Below.refl w.heap.size w;have hb36 := hok.b 36 (by omega)
 have hb37 := hok.b 37 (by omega)
 have hmn := byte_rem (byte_min hb36 hb37) (m := 40) (by omega)
 have hmx := byte_rem (byte_max hb36 hb37) (m := 20) (by omega)
 refine EC.enter 144 Try.func29 rfl rfl rfl (EC.seq (EC.region (EL.newP (x_boxA rfl) rfl ?_)));intro g1 w1 q1 hb1 hg1 hl1;have bhbw_1 := Nat.le_trans hbw.size hg1;replace hbw := bo_ hbw hb1;clear hb1 hg1 hl1;refine EL.newP al_28 rfl ?_;intro g2 w2 q2 hb2 hg2 hl2;have n1_2 := q1.na hg2;have bhbw_2 := Nat.le_trans hbw.size hg2;replace q1 := q1.bl hb2;replace hbw := bo_ hbw hb2;clear hb2 hg2 hl2;refine EL.nil (EX.seq (EC.seq (EC.region (EL.val (fa_78_3 rfl) rfl ?_))));refine EL.val (ixa_74 (k := 0) rfl rfl (by omega)) rfl ?_
 refine EL.val (ld_5 rfl (q1.cellA (smC_at2 _ _ _ (j := 36) rfl (by omega)))) rfl ?_
 refine EL.val (fa_78_3 rfl) rfl ?_;refine EL.val (ixa_74 (k := 1) rfl rfl (by omega)) rfl ?_
 refine EL.val (ld_5 rfl (q1.cellA (smC_at2 _ _ _ (j := 37) rfl (by omega)))) rfl ?_
 refine EL.val (mm8_min rfl rfl rfl) rfl (EL.val (cv_5_3 rfl (wrap_byte (byte_min hb36 hb37))) rfl ?_);refine EL.val (x_rem rfl rfl (by decide) rfl) rfl ?_
 refine EL.val (bd_24_0 rfl) rfl (EL.val (bd_28_1 rfl) rfl (EL.newP al_28 rfl ?_));intro g3 w3 q3 hb3 hg3 hl3;have n1_3 := q1.na hg3;have n2_3 := q2.na hg3;have bhbw_3 := Nat.le_trans hbw.size hg3;replace q1 := q1.bl hb3;replace q2 := q2.bl hb3;replace hbw := bo_ hbw hb3;clear hb3 hg3 hl3;refine EL.store rfl rfl q3 sz_28 rfl rfl rfl rfl ?_;intro w4 hq4 hg4;replace q1 := q1.gr hg4 n1_3;replace q2 := q2.gr hg4 n2_3;replace hbw := below_store hbw hg4 bhbw_3;replace q3 := hq4;clear hg4 hq4;refine EL.nil (EX.seq (EC.seq (EC.region (EL.val (fa_28_1 rfl) rfl (EL.val (fa_24_0 rfl) rfl (EL.val (ld_3 rfl (q3.at (j := 1) rfl)) rfl (EL.val (fa_78_3 rfl) rfl ?_)))))));refine EL.val (ixa_74 (k := 0) rfl rfl (by omega)) rfl ?_
 refine EL.val (ld_5 rfl (q1.cellA (smC_at2 _ _ _ (j := 36) rfl (by omega)))) rfl ?_
 refine EL.val (fa_78_3 rfl) rfl ?_;refine EL.val (ixa_74 (k := 1) rfl rfl (by omega)) rfl ?_
 refine EL.val (ld_5 rfl (q1.cellA (smC_at2 _ _ _ (j := 37) rfl (by omega)))) rfl ?_
 refine EL.val (mm8_max rfl rfl rfl) rfl (EL.val (cv_5_3 rfl (wrap_byte (byte_max hb36 hb37))) rfl ?_);refine EL.val (x_rem rfl rfl (by decide) rfl) rfl ?_
 refine EL.val (x_add rfl rfl (IntWalk.i64_in _ ⟨by omega, by omega⟩)) rfl ?_
 refine EL.val (fa_28_1 rfl) rfl (EL.val (fa_24_1 rfl) rfl (EL.store rfl rfl q3 sz_3 rfl rfl rfl rfl ?_));intro w5 hq5 hg5;replace q1 := q1.gr hg5 n1_3;replace q2 := q2.gr hg5 n2_3;replace hbw := below_store hbw hg5 bhbw_3;replace q3 := hq5;clear hg5 hq5;refine EL.nil (EX.seq (EC.seq (EC.seq (EC.region (EL.as rfl rfl (EL.nil (EX.seq (EC.block ?_))))))));have hF : Fam w5 w.heap.size 11 ft (fun _ => .slice none 0 0) (fX x.b (fun _ => .slice none 0 0) 0 0 0) := (Fam.nils _ _ _ _).same fun j _ => (fX_zero _ _ j).symm
 refine EC.loopD [4, 5, 34, 35, 36, 37, 38, 39, 40, 41, 42, 43, 44, 45, 46, 47, 48, 49, 50, 51, 52, 53, 54, 55, 56, 57, 58, 59, 60, 61, 62, 63, 64, 65, 66, 67, 68, 69, 70, 71, 72, 73, 74, 75, 76, 77, 78, 79, 80, 81, 82, 83, 84, 85, 86, 87, 88, 89, 90, 91, 92, 93, 94, 95, 96, 97, 98] (fun x_ : Nat × (Nat → Value) => [(4, .int .i64 (x_.1 : Nat))]) (fun x_ W => x_.1 ≤ 4 ∧ (∀ r, x_.1 ≤ r → x_.2 (3 + 2 * r) = .slice none 0 0 ∧ x_.2 (4 + 2 * r) = .slice none 0 0) ∧ Fam W w.heap.size 11 ft x_.2 (fX x.b x_.2 x_.1 x_.1 0) ∧ Blk W g1 78 (smC x.b (.slice Ak x.kinds.length ck) ves).toArray ∧ Blk W g2 28 #[.slice none 0 0, .int .i64 0, .int .i64 0, .slice none 0 0, .slice none 0 0, .slice none 0 0] ∧ Blk W g3 28 #[x_.2 0, .int .i64 ((min (x.b 36) (x.b 37)).tmod 40), .int .i64 (((min (x.b 36) (x.b 37)).tmod 40) + (max (x.b 36) (x.b 37)).tmod 20), x_.2 1, x_.2 2, .slice none 0 0] ∧ Below w.heap.size w W) (fun x_ => 4 - x_.1) (0, fun _ => .slice none 0 0) ⟨Nat.zero_le _, fun _ _ => ⟨rfl, rfl⟩, hF, q1, q2, q3, hbw⟩ ⟨rfl, trivial⟩ ?_
 clear hF q1 q2 q3 hbw
 rintro ⟨i, v⟩ wx ⟨hi, hnil, hF, q1, q2, q3, hbw⟩
 dsimp only at hi hnil hF q3
 by_cases hlt : i < 4
 ·
  refine EC.seq (EC.seq (EC.region (EL.mv rfl rfl ?_)));refine EL.val (x_lss rfl rfl (decide_eq_true (show (((i : Nat) : Int) < ((4 : Nat) : Int)) by omega))) rfl ?_
  refine EL.nil (EX.seq (EC.yes rfl (EC.skip (EX.seq (EC.seq (EC.block (EC.seq ?_)))))));have lt_1 := q1.lt;have lt_2 := q2.lt;have lt_3 := q3.lt;refine EC.regionS [[], [0], [], [], [2, 3], [2, 3, 4], [2, 3, 4, 5], [2, 3, 4, 5, 6], [0, 1, 2, 3, 4, 5, 6, 7], [], [9], [], [0, 1, 2, 3, 4, 5, 6, 7, 8, 9, 10, 11], [], [13], [], [0, 1, 2, 3, 4, 5, 6, 7, 8, 9, 10, 11, 12, 13, 14, 15], [0, 1, 2, 3, 4, 5, 6, 7, 8, 9, 10, 13, 14], [0, 1, 2, 3, 4, 5, 6, 7, 8, 9, 10, 11, 12, 13, 14, 15, 16, 17], [0, 1, 2, 3, 4, 5, 6, 7, 8, 9, 10, 11, 12, 13, 14, 15, 16, 17, 18], [0, 1, 2, 3, 4, 5, 6, 7, 8, 9, 10, 11, 12, 13, 14, 15, 16, 17, 18, 19], [0, 1, 2, 3, 4, 5, 6, 7, 8, 9, 10, 11, 12, 13, 14, 15, 16, 17, 18, 19, 20], [0, 1, 2, 3, 4, 5, 6, 7, 8, 9, 10, 11, 12, 13, 14, 15, 16, 17, 18, 19, 20, 21]] 18 [] [8, 12, 16] (fun fl w_ => Kp w.heap.size [3, 22] wx w_ ∧ ((fun fl => fl 16 = false) fl → Kp w.heap.size [3, 22] wx w_) ∧ ((fun fl => fl 8 = false ∧ fl 12 = false ∧ fl 16 = false) fl → Fam w_ w.heap.size 11 ft v (fX x.b v i i 0))) (phiS (fun i_ r => match i_ with | 0 => r 0 = .pointer (some ⟨g3, 0, none⟩) | 1 => r 1 = (v 0) | 2 => r 2 = .int .i64 (i : Nat) | 3 => r 3 = .pointer (some ⟨g1, 0, none⟩) | 4 => r 4 = .pointer (some ⟨g1, 0 + i, none⟩) | 5 => r 5 = .int .u8 (x.b i) | 6 => r 6 = .int .i64 (x.b i) | 9 => r 9 = .pointer (some ⟨g3, 3, none⟩) | 10 => r 10 = (v 1) | 13 => r 13 = .pointer (some ⟨g3, 4, none⟩) | 14 => r 14 = (v 2) | 17 => r 17 = .pointer (some ⟨g3, 0, none⟩) | _ => True) [(7, fun _ r w_ => ∃ g_, r 7 = .slice (some ⟨g_, 0, none⟩) 1 1 ∧ Blk w_ g_ 3 #[.int .i64 (x.b i)] ∧ wx.heap.size ≤ g_), (8, fun fl r w_ => fl 12 = false → fl 16 = false → Fam w_ w.heap.size 11 ft (fu (v) 0 (r 8)) (fu ((fX x.b v i i 0)) 0 ((fX x.b v i i 0) 0 ++ [.int .i64 (x.b i)]))), (11, fun _ r w_ => ∃ g_, r 11 = .slice (some ⟨g_, 0, none⟩) 1 1 ∧ Blk w_ g_ 22 #[.slice none 0 0] ∧ wx.heap.size ≤ g_), (12, fun fl r w_ => fl 16 = false → Fam w_ w.heap.size 11 ft (fu (fu (v) 0 (r 8)) 1 (r 12)) (fu (fu ((fX x.b v i i 0)) 0 ((fX x.b v i i 0) 0 ++ [.int .i64 (x.b i)])) 1 ((fX x.b v i i 0) 1 ++ [.slice none 0 0]))), (15, fun _ r w_ => ∃ g_, r 15 = .slice (some ⟨g_, 0, none⟩) 1 1 ∧ Blk w_ g_ 22 #[.slice none 0 0] ∧ wx.heap.size ≤ g_), (16, fun fl r w_ => Fam w_ w.heap.size 11 ft (fu (fu (fu (v) 0 (r 8)) 1 (r 12)) 2 (r 16)) (fu (fu (fu ((fX x.b v i i 0)) 0 ((fX x.b v i i 0) 0 ++ [.int .i64 (x.b i)])) 1 ((fX x.b v i i 0) 1 ++ [.slice none 0 0])) 2 ((fX x.b v i i 0) 2 ++ [.slice none 0 0])))]) (by kernel_rfl) rfl rfl (by intro i hi; simp at hi; rcases hi with rfl | rfl | rfl <;> exact ⟨by simp, by omega⟩) (base_fam hF hbw.size) (phiS_cons monoS_bs (phiS_cons (fun fl r w1 w2 hb h c0 c1 => (h c0 c1).below hb) (phiS_cons monoS_bs (phiS_cons (fun fl r w1 w2 hb h c0 => (h c0).below hb) (phiS_cons monoS_bs (phiS_cons (fun fl r w1 w2 hb h  => (h ).below hb) (phiS_nil))))))) (fun i_ hi_ hs_ => ?_) (fun i_ hi_ => ?_) ?_
  ·match i_, hi_ with
   | 0, _ =>
    intro val fl w1 a hb ha hd hfl;obtain ⟨hk, hk1, hf⟩ := hb;have ha := ha.s0 (d := 3) rfl
    exact ss_val ha rfl rfl (fa_28_0 rfl) rfl rfl
   | 1, _ =>
    intro val fl w1 a hb ha hd hfl;obtain ⟨hk, hk1, hf⟩ := hb;have e0 : val 0 = _ := hd 0 (memB_mem.1 rfl);have ha := ha.s1 (d := 38) rfl e0
    exact ss_val ha rfl rfl (ld_22 rfl ((hk.blk _ _ _ q3 rfl).at (j := 0) rfl)) rfl rfl
   | 2, _ =>
    intro val fl w1 a hb ha hd hfl;obtain ⟨hk, hk1, hf⟩ := hb;have ha := ha.s0 (d := 4) rfl
    exact ss_val ha rfl rfl (x_move rfl) rfl rfl
   | 3, _ =>
    intro val fl w1 a hb ha hd hfl;obtain ⟨hk, hk1, hf⟩ := hb;have ha := ha.s0 (d := 1) rfl
    exact ss_val ha rfl rfl (fa_78_0 rfl) rfl rfl
   | 4, _ =>
    intro val fl w1 a hb ha hd hfl;obtain ⟨hk, hk1, hf⟩ := hb;have e3 : val 3 = _ := hd 3 (memB_mem.1 rfl);have e2 : val 2 = _ := hd 2 (memB_mem.1 rfl);have ha := ha.s2 (d := 40) (e := 41) rfl e2 rfl e3
    exact ss_val ha rfl rfl (ixa_72 rfl rfl hlt) rfl rfl
   | 5, _ =>
    intro val fl w1 a hb ha hd hfl;obtain ⟨hk, hk1, hf⟩ := hb;have e4 : val 4 = _ := hd 4 (memB_mem.1 rfl);have ha := ha.s1 (d := 42) rfl e4
    exact ss_val ha rfl rfl (ld_5 rfl ((hk.blk _ _ _ q1 rfl).cellA (smC_at2 _ _ _ (j := i) (by omega) (by omega)))) rfl rfl
   | 6, _ =>
    intro val fl w1 a hb ha hd hfl;obtain ⟨hk, hk1, hf⟩ := hb;have e5 : val 5 = _ := hd 5 (memB_mem.1 rfl);have ha := ha.s1 (d := 43) rfl e5
    exact ss_val ha rfl rfl (cv_5_3 rfl (wrap_byte (hok.b i (by omega)))) rfl rfl
   | 7, _ =>
    intro val fl w1 a hb ha hd hfl;obtain ⟨hk, hk1, hf⟩ := hb;have e6 : val 6 = _ := hd 6 (memB_mem.1 rfl);have ha := ha.s1 (d := 44) rfl e6
    exact ss_newS ha rfl rfl (bs_22_1 rfl) rfl (fun g w' hq _ hge => ⟨g, rfl, hq, Nat.le_trans hk.size hge⟩)
   | 8, _ =>
    exact absurd (by simp) hs_
   | 9, _ =>
    intro val fl w1 a hb ha hd hfl;obtain ⟨hk, hk1, hf⟩ := hb;have ha := ha.s0 (d := 3) rfl
    exact ss_val ha rfl rfl (fa_28_2 rfl) rfl rfl
   | 10, _ =>
    intro val fl w1 a hb ha hd hfl;obtain ⟨hk, hk1, hf⟩ := hb;have e9 : val 9 = _ := hd 9 (memB_mem.1 rfl);have ha := ha.s1 (d := 47) rfl e9
    exact ss_val ha rfl rfl (ld_25 rfl ((hk.blk _ _ _ q3 rfl).at (j := 3) rfl)) rfl rfl
   | 11, _ =>
    intro val fl w1 a hb ha hd hfl;obtain ⟨hk, hk1, hf⟩ := hb;have ha := ha.sub (Sub.nil _)
    exact ss_newS ha rfl rfl (bs_25_1 rfl) rfl (fun g w' hq _ hge => ⟨g, rfl, hq, Nat.le_trans hk.size hge⟩)
   | 12, _ =>
    exact absurd (by simp) hs_
   | 13, _ =>
    intro val fl w1 a hb ha hd hfl;obtain ⟨hk, hk1, hf⟩ := hb;have ha := ha.s0 (d := 3) rfl
    exact ss_val ha rfl rfl (fa_28_3 rfl) rfl rfl
   | 14, _ =>
    intro val fl w1 a hb ha hd hfl;obtain ⟨hk, hk1, hf⟩ := hb;have e13 : val 13 = _ := hd 13 (memB_mem.1 rfl);have ha := ha.s1 (d := 51) rfl e13
    exact ss_val ha rfl rfl (ld_25 rfl ((hk.blk _ _ _ q3 rfl).at (j := 4) rfl)) rfl rfl
   | 15, _ =>
    intro val fl w1 a hb ha hd hfl;obtain ⟨hk, hk1, hf⟩ := hb;have ha := ha.sub (Sub.nil _)
    exact ss_newS ha rfl rfl (bs_25_1 rfl) rfl (fun g w' hq _ hge => ⟨g, rfl, hq, Nat.le_trans hk.size hge⟩)
   | 16, _ =>
    exact absurd (by simp) hs_
   | 17, _ =>
    intro val fl w1 a hb ha hd hfl;obtain ⟨hk, hk1, hf⟩ := hb;have ha := ha.s0 (d := 3) rfl
    exact ss_val ha rfl rfl (fa_28_0 rfl) rfl rfl
   | k + 18, h => exact absurd h (by omega)
  ·simp only [List.mem_cons, List.not_mem_nil, or_false] at hi_
   rcases hi_ with rfl | rfl | rfl
   ·intro val fl w1 a hb hfi ha hd hfl
    obtain ⟨hk, hk1, hf⟩ := hb;have hn12 : fl 12 = false := hfl 12 (by simp) (memB_mem.1 rfl)
    have hn16 : fl 16 = false := hfl 16 (by simp) (memB_mem.1 rfl)
    have hFp := hf ⟨hfi, hn12, hn16⟩;have e1 : val 1 = _ := hd 1 (memB_mem.1 rfl);obtain ⟨g7_, e7, q7_, h7_⟩ := hd 7 (memB_mem.1 rfl);change val 7 = _ at e7;have ha := ha.s2 (d := 45) (e := 39) rfl e7 rfl e1;have hown := hFp.own 0 (by omega)
    rw [show ft 0 = 3 from rfl] at hown;refine ts_push ir_elem ha rfl rfl rfl hown (rd_one (l := [.int .i64 (x.b i)]) q7_ rfl) (by intro u hu; simp only [List.mem_cons, List.not_mem_nil, or_false] at hu; subst hu; rfl) (by rw [fX_len0]; omega) rfl (Nat.le_trans hbw.size hk.size) ?_
    intro v' w' ho' hgr hat;have hFn := Fam.turn (y := (fX x.b v i i 0) 0 ++ [.int .i64 (x.b i)]) hFp (show 0 < 11 by omega) (by rw [List.length_append, show ft 0 = 3 from rfl]; exact ho') (by exact hgr) (by exact hat)
    refine ⟨v', rfl, hgr.size, ⟨hk.trans (Kp.own (S := [3, 22]) hown rfl (Nat.le_refl _) (Nat.le_trans hbw.size hk.size) hgr), (fun (h : fset fl 8 16 = false) => (hk1 (by rw [fset_ne rfl] at h; exact h)).trans (Kp.own (S := [3, 22]) hown rfl (Nat.le_refl _) (Nat.le_trans hbw.size hk.size) hgr)), fun hc => absurd hc.1 (by rw [fset_eq]; decide)⟩, (fun _ _ => hFn), fun j _ hj hn hA => ?_⟩
    exact phiS_cons_st (C := fun j => j ≠ 8 ∧ 8 ∉ clsAt [[], [0], [], [], [2, 3], [2, 3, 4], [2, 3, 4, 5], [2, 3, 4, 5, 6], [0, 1, 2, 3, 4, 5, 6, 7], [], [9], [], [0, 1, 2, 3, 4, 5, 6, 7, 8, 9, 10, 11], [], [13], [], [0, 1, 2, 3, 4, 5, 6, 7, 8, 9, 10, 11, 12, 13, 14, 15], [0, 1, 2, 3, 4, 5, 6, 7, 8, 9, 10, 13, 14], [0, 1, 2, 3, 4, 5, 6, 7, 8, 9, 10, 11, 12, 13, 14, 15, 16, 17], [0, 1, 2, 3, 4, 5, 6, 7, 8, 9, 10, 11, 12, 13, 14, 15, 16, 17, 18], [0, 1, 2, 3, 4, 5, 6, 7, 8, 9, 10, 11, 12, 13, 14, 15, 16, 17, 18, 19], [0, 1, 2, 3, 4, 5, 6, 7, 8, 9, 10, 11, 12, 13, 14, 15, 16, 17, 18, 19, 20], [0, 1, 2, 3, 4, 5, 6, 7, 8, 9, 10, 11, 12, 13, 14, 15, 16, 17, 18, 19, 20, 21]] j) (fun _ ⟨g, h1, h2, h3⟩ => ⟨g, h1, h2.grown hgr (fun h => by have := ((hF.own 0 (by omega)).lt _ h.symm).2; omega), h3⟩) (phiS_cons_st (C := fun j => j ≠ 8 ∧ 8 ∉ clsAt [[], [0], [], [], [2, 3], [2, 3, 4], [2, 3, 4, 5], [2, 3, 4, 5, 6], [0, 1, 2, 3, 4, 5, 6, 7], [], [9], [], [0, 1, 2, 3, 4, 5, 6, 7, 8, 9, 10, 11], [], [13], [], [0, 1, 2, 3, 4, 5, 6, 7, 8, 9, 10, 11, 12, 13, 14, 15], [0, 1, 2, 3, 4, 5, 6, 7, 8, 9, 10, 13, 14], [0, 1, 2, 3, 4, 5, 6, 7, 8, 9, 10, 11, 12, 13, 14, 15, 16, 17], [0, 1, 2, 3, 4, 5, 6, 7, 8, 9, 10, 11, 12, 13, 14, 15, 16, 17, 18], [0, 1, 2, 3, 4, 5, 6, 7, 8, 9, 10, 11, 12, 13, 14, 15, 16, 17, 18, 19], [0, 1, 2, 3, 4, 5, 6, 7, 8, 9, 10, 11, 12, 13, 14, 15, 16, 17, 18, 19, 20], [0, 1, 2, 3, 4, 5, 6, 7, 8, 9, 10, 11, 12, 13, 14, 15, 16, 17, 18, 19, 20, 21]] j) (fun hc => absurd rfl hc.1) (phiS_cons_st (C := fun j => j ≠ 8 ∧ 8 ∉ clsAt [[], [0], [], [], [2, 3], [2, 3, 4], [2, 3, 4, 5], [2, 3, 4, 5, 6], [0, 1, 2, 3, 4, 5, 6, 7], [], [9], [], [0, 1, 2, 3, 4, 5, 6, 7, 8, 9, 10, 11], [], [13], [], [0, 1, 2, 3, 4, 5, 6, 7, 8, 9, 10, 11, 12, 13, 14, 15], [0, 1, 2, 3, 4, 5, 6, 7, 8, 9, 10, 13, 14], [0, 1, 2, 3, 4, 5, 6, 7, 8, 9, 10, 11, 12, 13, 14, 15, 16, 17], [0, 1, 2, 3, 4, 5, 6, 7, 8, 9, 10, 11, 12, 13, 14, 15, 16, 17, 18], [0, 1, 2, 3, 4, 5, 6, 7, 8, 9, 10, 11, 12, 13, 14, 15, 16, 17, 18, 19], [0, 1, 2, 3, 4, 5, 6, 7, 8, 9, 10, 11, 12, 13, 14, 15, 16, 17, 18, 19, 20], [0, 1, 2, 3, 4, 5, 6, 7, 8, 9, 10, 11, 12, 13, 14, 15, 16, 17, 18, 19, 20, 21]] j) (fun _ ⟨g, h1, h2, h3⟩ => ⟨g, h1, h2.grown hgr (fun h => by have := ((hF.own 0 (by omega)).lt _ h.symm).2; omega), h3⟩) (phiS_cons_st (C := fun j => j ≠ 8 ∧ 8 ∉ clsAt [[], [0], [], [], [2, 3], [2, 3, 4], [2, 3, 4, 5], [2, 3, 4, 5, 6], [0, 1, 2, 3, 4, 5, 6, 7], [], [9], [], [0, 1, 2, 3, 4, 5, 6, 7, 8, 9, 10, 11], [], [13], [], [0, 1, 2, 3, 4, 5, 6, 7, 8, 9, 10, 11, 12, 13, 14, 15], [0, 1, 2, 3, 4, 5, 6, 7, 8, 9, 10, 13, 14], [0, 1, 2, 3, 4, 5, 6, 7, 8, 9, 10, 11, 12, 13, 14, 15, 16, 17], [0, 1, 2, 3, 4, 5, 6, 7, 8, 9, 10, 11, 12, 13, 14, 15, 16, 17, 18], [0, 1, 2, 3, 4, 5, 6, 7, 8, 9, 10, 11, 12, 13, 14, 15, 16, 17, 18, 19], [0, 1, 2, 3, 4, 5, 6, 7, 8, 9, 10, 11, 12, 13, 14, 15, 16, 17, 18, 19, 20], [0, 1, 2, 3, 4, 5, 6, 7, 8, 9, 10, 11, 12, 13, 14, 15, 16, 17, 18, 19, 20, 21]] j) (fun hc => absurd (memB_mem.1 rfl) hc.2) (phiS_cons_st (C := fun j => j ≠ 8 ∧ 8 ∉ clsAt [[], [0], [], [], [2, 3], [2, 3, 4], [2, 3, 4, 5], [2, 3, 4, 5, 6], [0, 1, 2, 3, 4, 5, 6, 7], [], [9], [], [0, 1, 2, 3, 4, 5, 6, 7, 8, 9, 10, 11], [], [13], [], [0, 1, 2, 3, 4, 5, 6, 7, 8, 9, 10, 11, 12, 13, 14, 15], [0, 1, 2, 3, 4, 5, 6, 7, 8, 9, 10, 13, 14], [0, 1, 2, 3, 4, 5, 6, 7, 8, 9, 10, 11, 12, 13, 14, 15, 16, 17], [0, 1, 2, 3, 4, 5, 6, 7, 8, 9, 10, 11, 12, 13, 14, 15, 16, 17, 18], [0, 1, 2, 3, 4, 5, 6, 7, 8, 9, 10, 11, 12, 13, 14, 15, 16, 17, 18, 19], [0, 1, 2, 3, 4, 5, 6, 7, 8, 9, 10, 11, 12, 13, 14, 15, 16, 17, 18, 19, 20], [0, 1, 2, 3, 4, 5, 6, 7, 8, 9, 10, 11, 12, 13, 14, 15, 16, 17, 18, 19, 20, 21]] j) (fun _ ⟨g, h1, h2, h3⟩ => ⟨g, h1, h2.grown hgr (fun h => by have := ((hF.own 0 (by omega)).lt _ h.symm).2; omega), h3⟩) (phiS_cons_st (C := fun j => j ≠ 8 ∧ 8 ∉ clsAt [[], [0], [], [], [2, 3], [2, 3, 4], [2, 3, 4, 5], [2, 3, 4, 5, 6], [0, 1, 2, 3, 4, 5, 6, 7], [], [9], [], [0, 1, 2, 3, 4, 5, 6, 7, 8, 9, 10, 11], [], [13], [], [0, 1, 2, 3, 4, 5, 6, 7, 8, 9, 10, 11, 12, 13, 14, 15], [0, 1, 2, 3, 4, 5, 6, 7, 8, 9, 10, 13, 14], [0, 1, 2, 3, 4, 5, 6, 7, 8, 9, 10, 11, 12, 13, 14, 15, 16, 17], [0, 1, 2, 3, 4, 5, 6, 7, 8, 9, 10, 11, 12, 13, 14, 15, 16, 17, 18], [0, 1, 2, 3, 4, 5, 6, 7, 8, 9, 10, 11, 12, 13, 14, 15, 16, 17, 18, 19], [0, 1, 2, 3, 4, 5, 6, 7, 8, 9, 10, 11, 12, 13, 14, 15, 16, 17, 18, 19, 20], [0, 1, 2, 3, 4, 5, 6, 7, 8, 9, 10, 11, 12, 13, 14, 15, 16, 17, 18, 19, 20, 21]] j) (fun hc => absurd (memB_mem.1 rfl) hc.2) (fun _ _ h => h)))))) j ⟨hj, hn⟩
   ·intro val fl w1 a hb hfi ha hd hfl
    obtain ⟨hk, hk1, hf⟩ := hb;have hn16 : fl 16 = false := hfl 16 (by simp) (memB_mem.1 rfl)
    have hFp : Fam w1 w.heap.size 11 ft (fu (v) 0 (val 8)) (fu ((fX x.b v i i 0)) 0 ((fX x.b v i i 0) 0 ++ [.int .i64 (x.b i)])) := hd 8 (memB_mem.1 rfl) hfi hn16;have e10 : val 10 = _ := hd 10 (memB_mem.1 rfl);obtain ⟨g11_, e11, q11_, h11_⟩ := hd 11 (memB_mem.1 rfl);change val 11 = _ at e11;have ha := ha.s2 (d := 49) (e := 48) rfl e11 rfl e10;have hown := hFp.own 1 (by omega)
    rw [fu_ne (by omega), fu_ne (by omega)] at hown
    rw [show ft 1 = 22 from rfl] at hown;refine ts_push rr_elem ha rfl rfl rfl hown (rd_one (l := [.slice none 0 0]) q11_ rfl) (by intro u hu; simp only [List.mem_cons, List.not_mem_nil, or_false] at hu; subst hu; rfl) (by rw [fX_len1]; omega) rfl (Nat.le_trans hbw.size hk.size) ?_
    intro v' w' ho' hgr hat;have hFn := Fam.turn (y := (fX x.b v i i 0) 1 ++ [.slice none 0 0]) hFp (show 1 < 11 by omega) (by rw [List.length_append, show ft 1 = 22 from rfl]; exact ho') (by rw [fu_ne (by omega)]; exact hgr) (by rw [fu_ne (by omega)]; exact hat)
    refine ⟨v', rfl, hgr.size, ⟨hk.trans (Kp.own (S := [3, 22]) hown rfl (Nat.le_refl _) (Nat.le_trans hbw.size hk.size) hgr), (fun (h : fset fl 12 16 = false) => (hk1 (by rw [fset_ne rfl] at h; exact h)).trans (Kp.own (S := [3, 22]) hown rfl (Nat.le_refl _) (Nat.le_trans hbw.size hk.size) hgr)), fun hc => absurd hc.2.1 (by rw [fset_eq]; decide)⟩, (fun _ => hFn), fun j _ hj hn hA => ?_⟩
    exact phiS_cons_st (C := fun j => j ≠ 12 ∧ 12 ∉ clsAt [[], [0], [], [], [2, 3], [2, 3, 4], [2, 3, 4, 5], [2, 3, 4, 5, 6], [0, 1, 2, 3, 4, 5, 6, 7], [], [9], [], [0, 1, 2, 3, 4, 5, 6, 7, 8, 9, 10, 11], [], [13], [], [0, 1, 2, 3, 4, 5, 6, 7, 8, 9, 10, 11, 12, 13, 14, 15], [0, 1, 2, 3, 4, 5, 6, 7, 8, 9, 10, 13, 14], [0, 1, 2, 3, 4, 5, 6, 7, 8, 9, 10, 11, 12, 13, 14, 15, 16, 17], [0, 1, 2, 3, 4, 5, 6, 7, 8, 9, 10, 11, 12, 13, 14, 15, 16, 17, 18], [0, 1, 2, 3, 4, 5, 6, 7, 8, 9, 10, 11, 12, 13, 14, 15, 16, 17, 18, 19], [0, 1, 2, 3, 4, 5, 6, 7, 8, 9, 10, 11, 12, 13, 14, 15, 16, 17, 18, 19, 20], [0, 1, 2, 3, 4, 5, 6, 7, 8, 9, 10, 11, 12, 13, 14, 15, 16, 17, 18, 19, 20, 21]] j) (fun _ ⟨g, h1, h2, h3⟩ => ⟨g, h1, h2.grown hgr (fun h => by have := ((hF.own 1 (by omega)).lt _ h.symm).2; omega), h3⟩) (phiS_cons_st (C := fun j => j ≠ 12 ∧ 12 ∉ clsAt [[], [0], [], [], [2, 3], [2, 3, 4], [2, 3, 4, 5], [2, 3, 4, 5, 6], [0, 1, 2, 3, 4, 5, 6, 7], [], [9], [], [0, 1, 2, 3, 4, 5, 6, 7, 8, 9, 10, 11], [], [13], [], [0, 1, 2, 3, 4, 5, 6, 7, 8, 9, 10, 11, 12, 13, 14, 15], [0, 1, 2, 3, 4, 5, 6, 7, 8, 9, 10, 13, 14], [0, 1, 2, 3, 4, 5, 6, 7, 8, 9, 10, 11, 12, 13, 14, 15, 16, 17], [0, 1, 2, 3, 4, 5, 6, 7, 8, 9, 10, 11, 12, 13, 14, 15, 16, 17, 18], [0, 1, 2, 3, 4, 5, 6, 7, 8, 9, 10, 11, 12, 13, 14, 15, 16, 17, 18, 19], [0, 1, 2, 3, 4, 5, 6, 7, 8, 9, 10, 11, 12, 13, 14, 15, 16, 17, 18, 19, 20], [0, 1, 2, 3, 4, 5, 6, 7, 8, 9, 10, 11, 12, 13, 14, 15, 16, 17, 18, 19, 20, 21]] j) (fun _ h c0 c1 => absurd c0 (by rw [fset_eq]; decide)) (phiS_cons_st (C := fun j => j ≠ 12 ∧ 12 ∉ clsAt [[], [0], [], [], [2, 3], [2, 3, 4], [2, 3, 4, 5], [2, 3, 4, 5, 6], [0, 1, 2, 3, 4, 5, 6, 7], [], [9], [], [0, 1, 2, 3, 4, 5, 6, 7, 8, 9, 10, 11], [], [13], [], [0, 1, 2, 3, 4, 5, 6, 7, 8, 9, 10, 11, 12, 13, 14, 15], [0, 1, 2, 3, 4, 5, 6, 7, 8, 9, 10, 13, 14], [0, 1, 2, 3, 4, 5, 6, 7, 8, 9, 10, 11, 12, 13, 14, 15, 16, 17], [0, 1, 2, 3, 4, 5, 6, 7, 8, 9, 10, 11, 12, 13, 14, 15, 16, 17, 18], [0, 1, 2, 3, 4, 5, 6, 7, 8, 9, 10, 11, 12, 13, 14, 15, 16, 17, 18, 19], [0, 1, 2, 3, 4, 5, 6, 7, 8, 9, 10, 11, 12, 13, 14, 15, 16, 17, 18, 19, 20], [0, 1, 2, 3, 4, 5, 6, 7, 8, 9, 10, 11, 12, 13, 14, 15, 16, 17, 18, 19, 20, 21]] j) (fun _ ⟨g, h1, h2, h3⟩ => ⟨g, h1, h2.grown hgr (fun h => by have := ((hF.own 1 (by omega)).lt _ h.symm).2; omega), h3⟩) (phiS_cons_st (C := fun j => j ≠ 12 ∧ 12 ∉ clsAt [[], [0], [], [], [2, 3], [2, 3, 4], [2, 3, 4, 5], [2, 3, 4, 5, 6], [0, 1, 2, 3, 4, 5, 6, 7], [], [9], [], [0, 1, 2, 3, 4, 5, 6, 7, 8, 9, 10, 11], [], [13], [], [0, 1, 2, 3, 4, 5, 6, 7, 8, 9, 10, 11, 12, 13, 14, 15], [0, 1, 2, 3, 4, 5, 6, 7, 8, 9, 10, 13, 14], [0, 1, 2, 3, 4, 5, 6, 7, 8, 9, 10, 11, 12, 13, 14, 15, 16, 17], [0, 1, 2, 3, 4, 5, 6, 7, 8, 9, 10, 11, 12, 13, 14, 15, 16, 17, 18], [0, 1, 2, 3, 4, 5, 6, 7, 8, 9, 10, 11, 12, 13, 14, 15, 16, 17, 18, 19], [0, 1, 2, 3, 4, 5, 6, 7, 8, 9, 10, 11, 12, 13, 14, 15, 16, 17, 18, 19, 20], [0, 1, 2, 3, 4, 5, 6, 7, 8, 9, 10, 11, 12, 13, 14, 15, 16, 17, 18, 19, 20, 21]] j) (fun hc => absurd rfl hc.1) (phiS_cons_st (C := fun j => j ≠ 12 ∧ 12 ∉ clsAt [[], [0], [], [], [2, 3], [2, 3, 4], [2, 3, 4, 5], [2, 3, 4, 5, 6], [0, 1, 2, 3, 4, 5, 6, 7], [], [9], [], [0, 1, 2, 3, 4, 5, 6, 7, 8, 9, 10, 11], [], [13], [], [0, 1, 2, 3, 4, 5, 6, 7, 8, 9, 10, 11, 12, 13, 14, 15], [0, 1, 2, 3, 4, 5, 6, 7, 8, 9, 10, 13, 14], [0, 1, 2, 3, 4, 5, 6, 7, 8, 9, 10, 11, 12, 13, 14, 15, 16, 17], [0, 1, 2, 3, 4, 5, 6, 7, 8, 9, 10, 11, 12, 13, 14, 15, 16, 17, 18], [0, 1, 2, 3, 4, 5, 6, 7, 8, 9, 10, 11, 12, 13, 14, 15, 16, 17, 18, 19], [0, 1, 2, 3, 4, 5, 6, 7, 8, 9, 10, 11, 12, 13, 14, 15, 16, 17, 18, 19, 20], [0, 1, 2, 3, 4, 5, 6, 7, 8, 9, 10, 11, 12, 13, 14, 15, 16, 17, 18, 19, 20, 21]] j) (fun _ ⟨g, h1, h2, h3⟩ => ⟨g, h1, h2.grown hgr (fun h => by have := ((hF.own 1 (by omega)).lt _ h.symm).2; omega), h3⟩) (phiS_cons_st (C := fun j => j ≠ 12 ∧ 12 ∉ clsAt [[], [0], [], [], [2, 3], [2, 3, 4], [2, 3, 4, 5], [2, 3, 4, 5, 6], [0, 1, 2, 3, 4, 5, 6, 7], [], [9], [], [0, 1, 2, 3, 4, 5, 6, 7, 8, 9, 10, 11], [], [13], [], [0, 1, 2, 3, 4, 5, 6, 7, 8, 9, 10, 11, 12, 13, 14, 15], [0, 1, 2, 3, 4, 5, 6, 7, 8, 9, 10, 13, 14], [0, 1, 2, 3, 4, 5, 6, 7, 8, 9, 10, 11, 12, 13, 14, 15, 16, 17], [0, 1, 2, 3, 4, 5, 6, 7, 8, 9, 10, 11, 12, 13, 14, 15, 16, 17, 18], [0, 1, 2, 3, 4, 5, 6, 7, 8, 9, 10, 11, 12, 13, 14, 15, 16, 17, 18, 19], [0, 1, 2, 3, 4, 5, 6, 7, 8, 9, 10, 11, 12, 13, 14, 15, 16, 17, 18, 19, 20], [0, 1, 2, 3, 4, 5, 6, 7, 8, 9, 10, 11, 12, 13, 14, 15, 16, 17, 18, 19, 20, 21]] j) (fun hc => absurd (memB_mem.1 rfl) hc.2) (fun _ _ h => h)))))) j ⟨hj, hn⟩
   ·intro val fl w1 a hb hfi ha hd hfl
    obtain ⟨hk, hk1, hf⟩ := hb;have hFp : Fam w1 w.heap.size 11 ft (fu (fu (v) 0 (val 8)) 1 (val 12)) (fu (fu ((fX x.b v i i 0)) 0 ((fX x.b v i i 0) 0 ++ [.int .i64 (x.b i)])) 1 ((fX x.b v i i 0) 1 ++ [.slice none 0 0])) := hd 12 (memB_mem.1 rfl) hfi;have e14 : val 14 = _ := hd 14 (memB_mem.1 rfl);obtain ⟨g15_, e15, q15_, h15_⟩ := hd 15 (memB_mem.1 rfl);change val 15 = _ at e15;have ha := ha.s2 (d := 53) (e := 52) rfl e15 rfl e14;have hown := hFp.own 2 (by omega)
    rw [fu_ne (by omega), fu_ne (by omega), fu_ne (by omega), fu_ne (by omega)] at hown
    rw [show ft 2 = 22 from rfl] at hown;refine ts_push rr_elem ha rfl rfl rfl hown (rd_one (l := [.slice none 0 0]) q15_ rfl) (by intro u hu; simp only [List.mem_cons, List.not_mem_nil, or_false] at hu; subst hu; rfl) (by rw [fX_len2]; omega) rfl (Nat.le_trans hbw.size hk.size) ?_
    intro v' w' ho' hgr hat;have hFn := Fam.turn (y := (fX x.b v i i 0) 2 ++ [.slice none 0 0]) hFp (show 2 < 11 by omega) (by rw [List.length_append, show ft 2 = 22 from rfl]; exact ho') (by rw [fu_ne (by omega), fu_ne (by omega)]; exact hgr) (by rw [fu_ne (by omega), fu_ne (by omega)]; exact hat)
    refine ⟨v', rfl, hgr.size, ⟨hk.trans (Kp.own (S := [3, 22]) hown rfl (Nat.le_refl _) (Nat.le_trans hbw.size hk.size) hgr), (fun (h : fset fl 16 16 = false) => absurd h (by rw [fset_eq]; decide)), fun hc => absurd hc.2.2 (by rw [fset_eq]; decide)⟩, hFn, fun j _ hj hn hA => ?_⟩
    exact phiS_cons_st (C := fun j => j ≠ 16 ∧ 16 ∉ clsAt [[], [0], [], [], [2, 3], [2, 3, 4], [2, 3, 4, 5], [2, 3, 4, 5, 6], [0, 1, 2, 3, 4, 5, 6, 7], [], [9], [], [0, 1, 2, 3, 4, 5, 6, 7, 8, 9, 10, 11], [], [13], [], [0, 1, 2, 3, 4, 5, 6, 7, 8, 9, 10, 11, 12, 13, 14, 15], [0, 1, 2, 3, 4, 5, 6, 7, 8, 9, 10, 13, 14], [0, 1, 2, 3, 4, 5, 6, 7, 8, 9, 10, 11, 12, 13, 14, 15, 16, 17], [0, 1, 2, 3, 4, 5, 6, 7, 8, 9, 10, 11, 12, 13, 14, 15, 16, 17, 18], [0, 1, 2, 3, 4, 5, 6, 7, 8, 9, 10, 11, 12, 13, 14, 15, 16, 17, 18, 19], [0, 1, 2, 3, 4, 5, 6, 7, 8, 9, 10, 11, 12, 13, 14, 15, 16, 17, 18, 19, 20], [0, 1, 2, 3, 4, 5, 6, 7, 8, 9, 10, 11, 12, 13, 14, 15, 16, 17, 18, 19, 20, 21]] j) (fun _ ⟨g, h1, h2, h3⟩ => ⟨g, h1, h2.grown hgr (fun h => by have := ((hF.own 2 (by omega)).lt _ h.symm).2; omega), h3⟩) (phiS_cons_st (C := fun j => j ≠ 16 ∧ 16 ∉ clsAt [[], [0], [], [], [2, 3], [2, 3, 4], [2, 3, 4, 5], [2, 3, 4, 5, 6], [0, 1, 2, 3, 4, 5, 6, 7], [], [9], [], [0, 1, 2, 3, 4, 5, 6, 7, 8, 9, 10, 11], [], [13], [], [0, 1, 2, 3, 4, 5, 6, 7, 8, 9, 10, 11, 12, 13, 14, 15], [0, 1, 2, 3, 4, 5, 6, 7, 8, 9, 10, 13, 14], [0, 1, 2, 3, 4, 5, 6, 7, 8, 9, 10, 11, 12, 13, 14, 15, 16, 17], [0, 1, 2, 3, 4, 5, 6, 7, 8, 9, 10, 11, 12, 13, 14, 15, 16, 17, 18], [0, 1, 2, 3, 4, 5, 6, 7, 8, 9, 10, 11, 12, 13, 14, 15, 16, 17, 18, 19], [0, 1, 2, 3, 4, 5, 6, 7, 8, 9, 10, 11, 12, 13, 14, 15, 16, 17, 18, 19, 20], [0, 1, 2, 3, 4, 5, 6, 7, 8, 9, 10, 11, 12, 13, 14, 15, 16, 17, 18, 19, 20, 21]] j) (fun _ h c0 c1 => absurd c1 (by rw [fset_eq]; decide)) (phiS_cons_st (C := fun j => j ≠ 16 ∧ 16 ∉ clsAt [[], [0], [], [], [2, 3], [2, 3, 4], [2, 3, 4, 5], [2, 3, 4, 5, 6], [0, 1, 2, 3, 4, 5, 6, 7], [], [9], [], [0, 1, 2, 3, 4, 5, 6, 7, 8, 9, 10, 11], [], [13], [], [0, 1, 2, 3, 4, 5, 6, 7, 8, 9, 10, 11, 12, 13, 14, 15], [0, 1, 2, 3, 4, 5, 6, 7, 8, 9, 10, 13, 14], [0, 1, 2, 3, 4, 5, 6, 7, 8, 9, 10, 11, 12, 13, 14, 15, 16, 17], [0, 1, 2, 3, 4, 5, 6, 7, 8, 9, 10, 11, 12, 13, 14, 15, 16, 17, 18], [0, 1, 2, 3, 4, 5, 6, 7, 8, 9, 10, 11, 12, 13, 14, 15, 16, 17, 18, 19], [0, 1, 2, 3, 4, 5, 6, 7, 8, 9, 10, 11, 12, 13, 14, 15, 16, 17, 18, 19, 20], [0, 1, 2, 3, 4, 5, 6, 7, 8, 9, 10, 11, 12, 13, 14, 15, 16, 17, 18, 19, 20, 21]] j) (fun _ ⟨g, h1, h2, h3⟩ => ⟨g, h1, h2.grown hgr (fun h => by have := ((hF.own 2 (by omega)).lt _ h.symm).2; omega), h3⟩) (phiS_cons_st (C := fun j => j ≠ 16 ∧ 16 ∉ clsAt [[], [0], [], [], [2, 3], [2, 3, 4], [2, 3, 4, 5], [2, 3, 4, 5, 6], [0, 1, 2, 3, 4, 5, 6, 7], [], [9], [], [0, 1, 2, 3, 4, 5, 6, 7, 8, 9, 10, 11], [], [13], [], [0, 1, 2, 3, 4, 5, 6, 7, 8, 9, 10, 11, 12, 13, 14, 15], [0, 1, 2, 3, 4, 5, 6, 7, 8, 9, 10, 13, 14], [0, 1, 2, 3, 4, 5, 6, 7, 8, 9, 10, 11, 12, 13, 14, 15, 16, 17], [0, 1, 2, 3, 4, 5, 6, 7, 8, 9, 10, 11, 12, 13, 14, 15, 16, 17, 18], [0, 1, 2, 3, 4, 5, 6, 7, 8, 9, 10, 11, 12, 13, 14, 15, 16, 17, 18, 19], [0, 1, 2, 3, 4, 5, 6, 7, 8, 9, 10, 11, 12, 13, 14, 15, 16, 17, 18, 19, 20], [0, 1, 2, 3, 4, 5, 6, 7, 8, 9, 10, 11, 12, 13, 14, 15, 16, 17, 18, 19, 20, 21]] j) (fun _ h c0 => absurd c0 (by rw [fset_eq]; decide)) (phiS_cons_st (C := fun j => j ≠ 16 ∧ 16 ∉ clsAt [[], [0], [], [], [2, 3], [2, 3, 4], [2, 3, 4, 5], [2, 3, 4, 5, 6], [0, 1, 2, 3, 4, 5, 6, 7], [], [9], [], [0, 1, 2, 3, 4, 5, 6, 7, 8, 9, 10, 11], [], [13], [], [0, 1, 2, 3, 4, 5, 6, 7, 8, 9, 10, 11, 12, 13, 14, 15], [0, 1, 2, 3, 4, 5, 6, 7, 8, 9, 10, 13, 14], [0, 1, 2, 3, 4, 5, 6, 7, 8, 9, 10, 11, 12, 13, 14, 15, 16, 17], [0, 1, 2, 3, 4, 5, 6, 7, 8, 9, 10, 11, 12, 13, 14, 15, 16, 17, 18], [0, 1, 2, 3, 4, 5, 6, 7, 8, 9, 10, 11, 12, 13, 14, 15, 16, 17, 18, 19], [0, 1, 2, 3, 4, 5, 6, 7, 8, 9, 10, 11, 12, 13, 14, 15, 16, 17, 18, 19, 20], [0, 1, 2, 3, 4, 5, 6, 7, 8, 9, 10, 11, 12, 13, 14, 15, 16, 17, 18, 19, 20, 21]] j) (fun _ ⟨g, h1, h2, h3⟩ => ⟨g, h1, h2.grown hgr (fun h => by have := ((hF.own 2 (by omega)).lt _ h.symm).2; omega), h3⟩) (phiS_cons_st (C := fun j => j ≠ 16 ∧ 16 ∉ clsAt [[], [0], [], [], [2, 3], [2, 3, 4], [2, 3, 4, 5], [2, 3, 4, 5, 6], [0, 1, 2, 3, 4, 5, 6, 7], [], [9], [], [0, 1, 2, 3, 4, 5, 6, 7, 8, 9, 10, 11], [], [13], [], [0, 1, 2, 3, 4, 5, 6, 7, 8, 9, 10, 11, 12, 13, 14, 15], [0, 1, 2, 3, 4, 5, 6, 7, 8, 9, 10, 13, 14], [0, 1, 2, 3, 4, 5, 6, 7, 8, 9, 10, 11, 12, 13, 14, 15, 16, 17], [0, 1, 2, 3, 4, 5, 6, 7, 8, 9, 10, 11, 12, 13, 14, 15, 16, 17, 18], [0, 1, 2, 3, 4, 5, 6, 7, 8, 9, 10, 11, 12, 13, 14, 15, 16, 17, 18, 19], [0, 1, 2, 3, 4, 5, 6, 7, 8, 9, 10, 11, 12, 13, 14, 15, 16, 17, 18, 19, 20], [0, 1, 2, 3, 4, 5, 6, 7, 8, 9, 10, 11, 12, 13, 14, 15, 16, 17, 18, 19, 20, 21]] j) (fun hc => absurd rfl hc.1) (fun _ _ h => h)))))) j ⟨hj, hn⟩
  ·intro val fl w' hfl hb halc hd
   obtain ⟨hk, _, _⟩ := hb;have e0 : val 0 = _ := hd 0 (by omega)
   have e1 : val 1 = _ := hd 1 (by omega)
   have e2 : val 2 = _ := hd 2 (by omega)
   have e3 : val 3 = _ := hd 3 (by omega)
   have e4 : val 4 = _ := hd 4 (by omega)
   have e5 : val 5 = _ := hd 5 (by omega)
   have e6 : val 6 = _ := hd 6 (by omega)
   obtain ⟨ga7, e7, _, _⟩ := hd 7 (by omega)
   change val 7 = _ at e7;have e9 : val 9 = _ := hd 9 (by omega)
   have e10 : val 10 = _ := hd 10 (by omega)
   obtain ⟨ga11, e11, _, _⟩ := hd 11 (by omega)
   change val 11 = _ at e11;have e13 : val 13 = _ := hd 13 (by omega)
   have e14 : val 14 = _ := hd 14 (by omega)
   obtain ⟨ga15, e15, _, _⟩ := hd 15 (by omega)
   change val 15 = _ at e15;have e17 : val 17 = _ := hd 17 (by omega)
   have hF2 : Fam w' w.heap.size 11 ft (fu (fu (fu (v) 0 (val 8)) 1 (val 12)) 2 (val 16)) (fu (fu (fu ((fX x.b v i i 0)) 0 ((fX x.b v i i 0) 0 ++ [.int .i64 (x.b i)])) 1 ((fX x.b v i i 0) 1 ++ [.slice none 0 0])) 2 ((fX x.b v i i 0) 2 ++ [.slice none 0 0])) := hd 16 (by omega)
   refine EL.ends (cs := [_, _, _, _, _, _, _, _, val 8, _, _, _, val 12, _, _, _, val 16, _]) ⟨e0, e1, e2, e3, e4, e5, e6, e7, rfl, e9, e10, e11, rfl, e13, e14, e15, rfl, e17, trivial⟩ rfl ?_
   generalize val 8 = nv0 at hF2 ⊢
   generalize val 12 = nv1 at hF2 ⊢
   generalize val 16 = nv2 at hF2 ⊢
   clear hF halc hd e0 e1 e2 e3 e4 e5 e6 e7 e9 e10 e11 e13 e14 e15 e17;replace q1 := hk.blk _ _ _ q1 rfl;replace q2 := hk.blk _ _ _ q2 rfl;replace q3 := hk.blk _ _ _ q3 rfl;replace hbw := hbw.trans hk.below;clear hk hfl;obtain ⟨v1, rfl, rfl, rfl, hnil1, hF⟩ : ∃ v1 : Nat → Value, nv0 = v1 0 ∧ nv1 = v1 1 ∧ nv2 = v1 2 ∧ (∀ r, i ≤ r → v1 (3 + 2 * r) = .slice none 0 0 ∧ v1 (4 + 2 * r) = .slice none 0 0) ∧ Fam w' w.heap.size 11 ft v1 (fX x.b v1 (i + 1) i 0) := ⟨fu (fu (fu v 0 nv0) 1 nv1) 2 nv2, by rw [fu_ne (by omega), fu_ne (by omega), fu_eq], by rw [fu_ne (by omega), fu_eq], by rw [fu_eq], fun r hr => by rw [fu_ne (by omega), fu_ne (by omega), fu_ne (by omega), fu_ne (by omega), fu_ne (by omega), fu_ne (by omega)]; exact hnil r hr, hF2.same fun j _ => fX_more (hnil i (Nat.le_refl _)).1 (hnil i (Nat.le_refl _)).2 j⟩
   clear hF2 hnil;obtain ⟨A0_, c0_, hsh0⟩ := own_sl (hF.own 0 (by omega))
   obtain ⟨A1_, c1_, hsh1⟩ := own_sl (hF.own 1 (by omega))
   obtain ⟨A2_, c2_, hsh2⟩ := own_sl (hF.own 2 (by omega))
   refine EL.store (l' := [v1 0]) rfl rfl q3 sz_22 (by rw [hsh0]; rfl) rfl rfl (by rw [hsh0]; rfl) ?_
   intro w6 hq6 hg6;replace q1 := q1.gr hg6 n1_3;replace q2 := q2.gr hg6 n2_3;replace hF := hF.box q3 (fun _ _ => ft_box rfl rfl _) hg6
   replace hbw := below_store hbw hg6 bhbw_3;replace q3 := hq6;clear hg6 hq6;refine EL.val (fa_28_2 rfl) rfl ?_;refine EL.store (l' := [v1 1]) rfl rfl q3 sz_25 (by rw [hsh1]; rfl) rfl rfl (by rw [hsh1]; rfl) ?_
   intro w7 hq7 hg7;replace q1 := q1.gr hg7 n1_3;replace q2 := q2.gr hg7 n2_3;replace hF := hF.box q3 (fun _ _ => ft_box rfl rfl _) hg7
   replace hbw := below_store hbw hg7 bhbw_3;replace q3 := hq7;clear hg7 hq7;refine EL.val (fa_28_3 rfl) rfl ?_;refine EL.store (l' := [v1 2]) rfl rfl q3 sz_25 (by rw [hsh2]; rfl) rfl rfl (by rw [hsh2]; rfl) ?_
   intro w8 hq8 hg8;replace q1 := q1.gr hg8 n1_3;replace q2 := q2.gr hg8 n2_3;replace hF := hF.box q3 (fun _ _ => ft_box rfl rfl _) hg8
   replace hbw := below_store hbw hg8 bhbw_3;replace q3 := hq8;clear hg8 hq8;refine EL.nil (EX.seq (EC.seq (EC.region (EL.as rfl rfl (EL.nil (EX.seq (EC.block ?_)))))));refine EC.loopD [5, 58, 59, 60, 61, 62, 63, 64, 65, 66, 67, 68, 69, 70, 71, 72, 73, 74, 75, 76, 77, 78, 79, 80, 81, 82, 83, 84, 85, 86, 87, 88, 89, 90, 91, 92, 93, 94, 95, 96, 97, 98] (fun x_ : Nat × (Nat → Value) => [(5, .int .i64 (x_.1 : Nat))]) (fun x_ W => x_.1 ≤ 4 ∧ (x_.2 0 = v1 0 ∧ x_.2 1 = v1 1 ∧ x_.2 2 = v1 2) ∧ (∀ r, i + 1 ≤ r → x_.2 (3 + 2 * r) = .slice none 0 0 ∧ x_.2 (4 + 2 * r) = .slice none 0 0) ∧ Fam W w.heap.size 11 ft x_.2 (fX x.b x_.2 (i + 1) i x_.1) ∧ Blk W g1 78 (smC x.b (.slice Ak x.kinds.length ck) ves).toArray ∧ Blk W g2 28 #[.slice none 0 0, .int .i64 0, .int .i64 0, .slice none 0 0, .slice none 0 0, .slice none 0 0] ∧ Blk W g3 28 #[v1 0, .int .i64 ((min (x.b 36) (x.b 37)).tmod 40), .int .i64 (((min (x.b 36) (x.b 37)).tmod 40) + (max (x.b 36) (x.b 37)).tmod 20), v1 1, v1 2, .slice none 0 0] ∧ Below w.heap.size w W) (fun x_ => 4 - x_.1) (0, v1) ⟨Nat.zero_le _, ⟨rfl, rfl, rfl⟩, (fun r hr => hnil1 r (by omega)), hF, q1, q2, q3, hbw⟩ ⟨rfl, trivial⟩ ?_
   clear hF q1 q2 q3 hbw hnil1
   rintro ⟨k, v2⟩ wy ⟨hk4, ⟨hs0, hs1, hs2⟩, hnil2, hF, q1, q2, q3, hbw⟩
   dsimp only at hk4 hs0 hs1 hs2 hnil2 hF
   by_cases hlk : k < 4
   ·
    refine EC.seq (EC.seq (EC.region (EL.mv rfl rfl ?_)));refine EL.val (x_lss rfl rfl (decide_eq_true (show (((k : Nat) : Int) < ((4 : Nat) : Int)) by omega))) rfl ?_
    refine EL.nil (EX.seq (EC.yes rfl (EC.skip (EX.seq (EC.seq (EC.block ?_))))));have ho1 := hF.own 1 (by omega)
    have ho2 := hF.own 2 (by omega)
    rw [fX_len1] at ho1;rw [fX_len2] at ho2;obtain ⟨ga, ca, hva, _, _⟩ := own_shape ho1 (by omega)
    obtain ⟨gb, cb, hvb, _, _⟩ := own_shape ho2 (by omega)
    rw [hva] at ho1;rw [hvb] at ho2;rw [← hs1, ← hs2, hva, hvb] at q3;change wy.ownsRow w.heap.size 22 1 _ _ _ at ho1;change wy.ownsRow w.heap.size 22 1 _ _ _ at ho2;have lt_1 := q1.lt;have lt_2 := q2.lt;have lt_3 := q3.lt;refine EC.regionS [[], [0], [], [], [3], [], [], [6], [], [6, 7, 8], [6, 7, 8, 9], [], [], [], [11, 13], [11, 12, 13, 14], [11, 12, 13, 14, 15], [11, 12, 13, 14, 15, 16], [11, 12, 13, 14, 15, 16, 17], [6, 7, 8, 9, 10, 11, 12, 13, 14, 15, 16, 17, 18], [], [20], [], [20, 21, 22], [20, 21, 22, 23], [], [], [], [25, 27], [25, 26, 27, 28], [25, 26, 27, 28, 29], [25, 26, 27, 28, 29, 30], [25, 26, 27, 28, 29, 30, 31], [25, 26, 27, 28, 29, 30, 31, 32], [6, 7, 8, 9, 10, 11, 12, 13, 14, 15, 16, 17, 18, 19, 20, 21, 22, 23, 24, 25, 26, 27, 28, 29, 30, 31, 32, 33], [0, 1, 2, 6, 7, 8, 9, 10, 11, 12, 13, 14, 15, 16, 17, 18, 19, 20, 21, 22, 23, 24, 25, 26, 27, 28, 29, 30, 31, 32, 33, 34], [0, 1, 2, 6, 7, 8, 9, 10, 11, 12, 13, 14, 15, 16, 17, 18, 19, 20, 21, 22, 23, 24, 25, 26, 27, 28, 29, 30, 31, 32, 33, 34, 35], [0, 1, 2, 3, 4, 5, 6, 7, 8, 9, 10, 11, 12, 13, 14, 15, 16, 17, 18, 19, 20, 21, 22, 23, 24, 25, 26, 27, 28, 29, 30, 31, 32, 33, 34, 35, 36], [0, 1, 2, 3, 4, 5, 6, 7, 8, 9, 10, 11, 12, 13, 14, 15, 16, 17, 18, 19, 20, 21, 22, 23, 24, 25, 26, 27, 28, 29, 30, 31, 32, 33, 34, 35, 36, 37]] 37 [] [19, 34, 36] (fun fl w_ => Kp w.heap.size [3, 22] wy w_ ∧ ((fun fl => fl 36 = false) fl → Kp w.heap.size [3] wy w_) ∧ ((fun fl => fl 19 = false ∧ fl 34 = false ∧ fl 36 = false) fl → Fam w_ w.heap.size 11 ft v2 (fX x.b v2 (i + 1) i k))) (phiS (fun i_ r => match i_ with | 0 => r 0 = .pointer (some ⟨g3, 3, none⟩) | 1 => r 1 = .slice (some ⟨ga, 0, none⟩) (i + 1) ca | 2 => r 2 = .int .i64 (i : Nat) | 3 => r 3 = .pointer (some ⟨g3, 4, none⟩) | 4 => r 4 = .slice (some ⟨gb, 0, none⟩) (i + 1) cb | 5 => r 5 = .int .i64 (i : Nat) | 6 => r 6 = .pointer (some ⟨g3, 3, none⟩) | 7 => r 7 = .slice (some ⟨ga, 0, none⟩) (i + 1) ca | 8 => r 8 = .int .i64 (i : Nat) | 9 => r 9 = .pointer (some ⟨ga, 0 + i, none⟩) | 10 => r 10 = (v2 (3 + 2 * i)) | 11 => r 11 = .int .i64 (i : Nat) | 12 => r 12 = .int .i64 (k : Nat) | 13 => r 13 = .pointer (some ⟨g1, 4, none⟩) | 14 => r 14 = .pointer (some ⟨g1, 4 + i * 4, none⟩) | 15 => r 15 = .pointer (some ⟨g1, 4 + i * 4 + k, none⟩) | 16 => r 16 = .int .u8 (x.b (4 + 4 * i + k)) | 17 => r 17 = .int .i64 (x.b (4 + 4 * i + k)) | 20 => r 20 = .pointer (some ⟨g3, 4, none⟩) | 21 => r 21 = .slice (some ⟨gb, 0, none⟩) (i + 1) cb | 22 => r 22 = .int .i64 (i : Nat) | 23 => r 23 = .pointer (some ⟨gb, 0 + i, none⟩) | 24 => r 24 = (v2 (4 + 2 * i)) | 25 => r 25 = .int .i64 (i : Nat) | 26 => r 26 = .int .i64 (k : Nat) | 27 => r 27 = .pointer (some ⟨g1, 20, none⟩) | 28 => r 28 = .pointer (some ⟨g1, 20 + i * 4, none⟩) | 29 => r 29 = .pointer (some ⟨g1, 20 + i * 4 + k, none⟩) | 30 => r 30 = .int .u8 (x.b (20 + 4 * i + k)) | 31 => r 31 = .int .i64 (x.b (20 + 4 * i + k)) | 32 => r 32 = .int .i64 ((x.b (20 + 4 * i + k)).tmod 3) | 35 => r 35 = .pointer (some ⟨ga, 0 + i, none⟩) | _ => True) [(18, fun _ r w_ => ∃ g_, r 18 = .slice (some ⟨g_, 0, none⟩) 1 1 ∧ Blk w_ g_ 3 #[.int .i64 (x.b (4 + 4 * i + k))] ∧ wy.heap.size ≤ g_), (19, fun fl r w_ => fl 34 = false → fl 36 = false → Fam w_ w.heap.size 11 ft (fu (v2) (3 + 2 * i) (r 19)) (fu ((fX x.b v2 (i + 1) i k)) (3 + 2 * i) ((fX x.b v2 (i + 1) i k) (3 + 2 * i) ++ [.int .i64 (x.b (4 + 4 * i + k))]))), (33, fun _ r w_ => ∃ g_, r 33 = .slice (some ⟨g_, 0, none⟩) 1 1 ∧ Blk w_ g_ 3 #[.int .i64 ((x.b (20 + 4 * i + k)).tmod 3)] ∧ wy.heap.size ≤ g_), (34, fun fl r w_ => fl 36 = false → Fam w_ w.heap.size 11 ft (fu (fu (v2) (3 + 2 * i) (r 19)) (4 + 2 * i) (r 34)) (fu (fu ((fX x.b v2 (i + 1) i k)) (3 + 2 * i) ((fX x.b v2 (i + 1) i k) (3 + 2 * i) ++ [.int .i64 (x.b (4 + 4 * i + k))])) (4 + 2 * i) ((fX x.b v2 (i + 1) i k) (4 + 2 * i) ++ [.int .i64 ((x.b (20 + 4 * i + k)).tmod 3)]))), (36, fun fl r w_ => Fam w_ w.heap.size 11 ft (fu (fu (fu (v2) (3 + 2 * i) (r 19)) (4 + 2 * i) (r 34)) 1 (.slice (some ⟨ga, 0, none⟩) (i + 1) ca)) (fu (fu (fu ((fX x.b v2 (i + 1) i k)) (3 + 2 * i) ((fX x.b v2 (i + 1) i k) (3 + 2 * i) ++ [.int .i64 (x.b (4 + 4 * i + k))])) (4 + 2 * i) ((fX x.b v2 (i + 1) i k) (4 + 2 * i) ++ [.int .i64 ((x.b (20 + 4 * i + k)).tmod 3)])) 1 (((fX x.b v2 (i + 1) i k) 1).set i (r 19))))]) (by kernel_rfl) rfl rfl (by intro i hi; simp at hi; rcases hi with rfl | rfl | rfl <;> exact ⟨by simp, by omega⟩) (base_fam hF hbw.size) (phiS_cons monoS_bs (phiS_cons (fun fl r w1 w2 hb h c0 c1 => (h c0 c1).below hb) (phiS_cons monoS_bs (phiS_cons (fun fl r w1 w2 hb h c0 => (h c0).below hb) (phiS_cons (fun fl r w1 w2 hb h  => (h ).below hb) (phiS_nil)))))) (fun i_ hi_ hs_ => ?_) (fun i_ hi_ => ?_) ?_
    ·match i_, hi_ with
     | 0, _ =>
      intro val fl w1 a hb ha hd hfl;obtain ⟨hk, hk1, hf⟩ := hb;have ha := ha.s0 (d := 3) rfl
      exact ss_val ha rfl rfl (fa_28_2 rfl) rfl rfl
     | 1, _ =>
      intro val fl w1 a hb ha hd hfl;obtain ⟨hk, hk1, hf⟩ := hb;have e0 : val 0 = _ := hd 0 (memB_mem.1 rfl);have ha := ha.s1 (d := 62) rfl e0
      exact ss_val ha rfl rfl (ld_25 rfl ((hk.blk _ _ _ q3 rfl).at (j := 3) rfl)) rfl rfl
     | 2, _ =>
      intro val fl w1 a hb ha hd hfl;obtain ⟨hk, hk1, hf⟩ := hb;have ha := ha.s0 (d := 4) rfl
      exact ss_val ha rfl rfl (x_move rfl) rfl rfl
     | 3, _ =>
      intro val fl w1 a hb ha hd hfl;obtain ⟨hk, hk1, hf⟩ := hb;have ha := ha.s0 (d := 3) rfl
      exact ss_val ha rfl rfl (fa_28_3 rfl) rfl rfl
     | 4, _ =>
      intro val fl w1 a hb ha hd hfl;obtain ⟨hk, hk1, hf⟩ := hb;have e3 : val 3 = _ := hd 3 (memB_mem.1 rfl);have ha := ha.s1 (d := 65) rfl e3
      exact ss_val ha rfl rfl (ld_25 rfl ((hk.blk _ _ _ q3 rfl).at (j := 4) rfl)) rfl rfl
     | 5, _ =>
      intro val fl w1 a hb ha hd hfl;obtain ⟨hk, hk1, hf⟩ := hb;have ha := ha.s0 (d := 4) rfl
      exact ss_val ha rfl rfl (x_move rfl) rfl rfl
     | 6, _ =>
      intro val fl w1 a hb ha hd hfl;obtain ⟨hk, hk1, hf⟩ := hb;have ha := ha.s0 (d := 3) rfl
      exact ss_val ha rfl rfl (fa_28_2 rfl) rfl rfl
     | 7, _ =>
      intro val fl w1 a hb ha hd hfl;obtain ⟨hk, hk1, hf⟩ := hb;have e6 : val 6 = _ := hd 6 (memB_mem.1 rfl);have ha := ha.s1 (d := 68) rfl e6
      exact ss_val ha rfl rfl (ld_25 rfl ((hk.blk _ _ _ q3 rfl).at (j := 3) rfl)) rfl rfl
     | 8, _ =>
      intro val fl w1 a hb ha hd hfl;obtain ⟨hk, hk1, hf⟩ := hb;have ha := ha.s0 (d := 4) rfl
      exact ss_val ha rfl rfl (x_move rfl) rfl rfl
     | 9, _ =>
      intro val fl w1 a hb ha hd hfl;obtain ⟨hk, hk1, hf⟩ := hb;have e7 : val 7 = _ := hd 7 (memB_mem.1 rfl);have e8 : val 8 = _ := hd 8 (memB_mem.1 rfl);have ha := ha.s2 (d := 70) (e := 69) rfl e8 rfl e7
      exact ss_val ha rfl rfl (ix_25 rfl rfl (by omega)) rfl rfl
     | 10, _ =>
      intro val fl w1 a hb ha hd hfl;obtain ⟨hk, hk1, hf⟩ := hb;have e9 : val 9 = _ := hd 9 (memB_mem.1 rfl);have ha := ha.s1 (d := 71) rfl e9
      exact ss_val ha rfl rfl (ld_22 rfl (own_cell ((hk1 (hfl 36 (by simp) (memB_mem.1 rfl))).row ho1 rfl) (fX_at1 _ _ (Nat.lt_succ_self i)))) rfl rfl
     | 11, _ =>
      intro val fl w1 a hb ha hd hfl;obtain ⟨hk, hk1, hf⟩ := hb;have ha := ha.s0 (d := 4) rfl
      exact ss_val ha rfl rfl (x_move rfl) rfl rfl
     | 12, _ =>
      intro val fl w1 a hb ha hd hfl;obtain ⟨hk, hk1, hf⟩ := hb;have ha := ha.s0 (d := 5) rfl
      exact ss_val ha rfl rfl (x_move rfl) rfl rfl
     | 13, _ =>
      intro val fl w1 a hb ha hd hfl;obtain ⟨hk, hk1, hf⟩ := hb;have ha := ha.s0 (d := 1) rfl
      exact ss_val ha rfl rfl (fa_78_1 rfl) rfl rfl
     | 14, _ =>
      intro val fl w1 a hb ha hd hfl;obtain ⟨hk, hk1, hf⟩ := hb;have e13 : val 13 = _ := hd 13 (memB_mem.1 rfl);have e11 : val 11 = _ := hd 11 (memB_mem.1 rfl);have ha := ha.s2 (d := 73) (e := 75) rfl e11 rfl e13
      exact ss_val ha rfl rfl (ixa_73 rfl rfl hlt) rfl rfl
     | 15, _ =>
      intro val fl w1 a hb ha hd hfl;obtain ⟨hk, hk1, hf⟩ := hb;have e14 : val 14 = _ := hd 14 (memB_mem.1 rfl);have e12 : val 12 = _ := hd 12 (memB_mem.1 rfl);have ha := ha.s2 (d := 74) (e := 76) rfl e12 rfl e14
      exact ss_val ha rfl rfl (ixa_72 rfl rfl hlk) rfl rfl
     | 16, _ =>
      intro val fl w1 a hb ha hd hfl;obtain ⟨hk, hk1, hf⟩ := hb;have e15 : val 15 = _ := hd 15 (memB_mem.1 rfl);have ha := ha.s1 (d := 77) rfl e15
      exact ss_val ha rfl rfl (ld_5 rfl ((hk.blk _ _ _ q1 rfl).cellA (smC_at2 _ _ _ (j := 4 + 4 * i + k) (by omega) (by omega)))) rfl rfl
     | 17, _ =>
      intro val fl w1 a hb ha hd hfl;obtain ⟨hk, hk1, hf⟩ := hb;have e16 : val 16 = _ := hd 16 (memB_mem.1 rfl);have ha := ha.s1 (d := 78) rfl e16
      exact ss_val ha rfl rfl (cv_5_3 rfl (wrap_byte (hok.b _ (by omega)))) rfl rfl
     | 18, _ =>
      intro val fl w1 a hb ha hd hfl;obtain ⟨hk, hk1, hf⟩ := hb;have e17 : val 17 = _ := hd 17 (memB_mem.1 rfl);have ha := ha.s1 (d := 79) rfl e17
      exact ss_newS ha rfl rfl (bs_22_1 rfl) rfl (fun g w' hq _ hge => ⟨g, rfl, hq, Nat.le_trans hk.size hge⟩)
     | 19, _ =>
      exact absurd (by simp) hs_
     | 20, _ =>
      intro val fl w1 a hb ha hd hfl;obtain ⟨hk, hk1, hf⟩ := hb;have ha := ha.s0 (d := 3) rfl
      exact ss_val ha rfl rfl (fa_28_3 rfl) rfl rfl
     | 21, _ =>
      intro val fl w1 a hb ha hd hfl;obtain ⟨hk, hk1, hf⟩ := hb;have e20 : val 20 = _ := hd 20 (memB_mem.1 rfl);have ha := ha.s1 (d := 82) rfl e20
      exact ss_val ha rfl rfl (ld_25 rfl ((hk.blk _ _ _ q3 rfl).at (j := 4) rfl)) rfl rfl
     | 22, _ =>
      intro val fl w1 a hb ha hd hfl;obtain ⟨hk, hk1, hf⟩ := hb;have ha := ha.s0 (d := 4) rfl
      exact ss_val ha rfl rfl (x_move rfl) rfl rfl
     | 23, _ =>
      intro val fl w1 a hb ha hd hfl;obtain ⟨hk, hk1, hf⟩ := hb;have e21 : val 21 = _ := hd 21 (memB_mem.1 rfl);have e22 : val 22 = _ := hd 22 (memB_mem.1 rfl);have ha := ha.s2 (d := 84) (e := 83) rfl e22 rfl e21
      exact ss_val ha rfl rfl (ix_25 rfl rfl (by omega)) rfl rfl
     | 24, _ =>
      intro val fl w1 a hb ha hd hfl;obtain ⟨hk, hk1, hf⟩ := hb;have e23 : val 23 = _ := hd 23 (memB_mem.1 rfl);have ha := ha.s1 (d := 85) rfl e23
      exact ss_val ha rfl rfl (ld_22 rfl (own_cell ((hk1 (hfl 36 (by simp) (memB_mem.1 rfl))).row ho2 rfl) (fX_at2 _ _ (Nat.lt_succ_self i)))) rfl rfl
     | 25, _ =>
      intro val fl w1 a hb ha hd hfl;obtain ⟨hk, hk1, hf⟩ := hb;have ha := ha.s0 (d := 4) rfl
      exact ss_val ha rfl rfl (x_move rfl) rfl rfl
     | 26, _ =>
      intro val fl w1 a hb ha hd hfl;obtain ⟨hk, hk1, hf⟩ := hb;have ha := ha.s0 (d := 5) rfl
      exact ss_val ha rfl rfl (x_move rfl) rfl rfl
     | 27, _ =>
      intro val fl w1 a hb ha hd hfl;obtain ⟨hk, hk1, hf⟩ := hb;have ha := ha.s0 (d := 1) rfl
      exact ss_val ha rfl rfl (fa_78_2 rfl) rfl rfl
     | 28, _ =>
      intro val fl w1 a hb ha hd hfl;obtain ⟨hk, hk1, hf⟩ := hb;have e27 : val 27 = _ := hd 27 (memB_mem.1 rfl);have e25 : val 25 = _ := hd 25 (memB_mem.1 rfl);have ha := ha.s2 (d := 87) (e := 89) rfl e25 rfl e27
      exact ss_val ha rfl rfl (ixa_73 rfl rfl hlt) rfl rfl
     | 29, _ =>
      intro val fl w1 a hb ha hd hfl;obtain ⟨hk, hk1, hf⟩ := hb;have e28 : val 28 = _ := hd 28 (memB_mem.1 rfl);have e26 : val 26 = _ := hd 26 (memB_mem.1 rfl);have ha := ha.s2 (d := 88) (e := 90) rfl e26 rfl e28
      exact ss_val ha rfl rfl (ixa_72 rfl rfl hlk) rfl rfl
     | 30, _ =>
      intro val fl w1 a hb ha hd hfl;obtain ⟨hk, hk1, hf⟩ := hb;have e29 : val 29 = _ := hd 29 (memB_mem.1 rfl);have ha := ha.s1 (d := 91) rfl e29
      exact ss_val ha rfl rfl (ld_5 rfl ((hk.blk _ _ _ q1 rfl).cellA (smC_at2 _ _ _ (j := 20 + 4 * i + k) (by omega) (by omega)))) rfl rfl
     | 31, _ =>
      intro val fl w1 a hb ha hd hfl;obtain ⟨hk, hk1, hf⟩ := hb;have e30 : val 30 = _ := hd 30 (memB_mem.1 rfl);have ha := ha.s1 (d := 92) rfl e30
      exact ss_val ha rfl rfl (cv_5_3 rfl (wrap_byte (hok.b _ (by omega)))) rfl rfl
     | 32, _ =>
      intro val fl w1 a hb ha hd hfl;obtain ⟨hk, hk1, hf⟩ := hb;have e31 : val 31 = _ := hd 31 (memB_mem.1 rfl);have ha := ha.s1 (d := 93) rfl e31
      exact ss_val ha rfl rfl (x_rem rfl rfl (by decide) rfl) rfl rfl
     | 33, _ =>
      intro val fl w1 a hb ha hd hfl;obtain ⟨hk, hk1, hf⟩ := hb;have e32 : val 32 = _ := hd 32 (memB_mem.1 rfl);have ha := ha.s1 (d := 94) rfl e32
      exact ss_newS ha rfl rfl (bs_22_1 rfl) rfl (fun g w' hq _ hge => ⟨g, rfl, hq, Nat.le_trans hk.size hge⟩)
     | 34, _ =>
      exact absurd (by simp) hs_
     | 35, _ =>
      intro val fl w1 a hb ha hd hfl;obtain ⟨hk, hk1, hf⟩ := hb;have e1 : val 1 = _ := hd 1 (memB_mem.1 rfl);have e2 : val 2 = _ := hd 2 (memB_mem.1 rfl);have ha := ha.s2 (d := 64) (e := 63) rfl e2 rfl e1
      exact ss_val ha rfl rfl (ix_25 rfl rfl (by omega)) rfl rfl
     | 36, _ =>
      exact absurd (by simp) hs_
     | k + 37, h => exact absurd h (by omega)
    ·simp only [List.mem_cons, List.not_mem_nil, or_false] at hi_
     rcases hi_ with rfl | rfl | rfl
     ·intro val fl w1 a hb hfi ha hd hfl
      obtain ⟨hk, hk1, hf⟩ := hb;have hn34 : fl 34 = false := hfl 34 (by simp) (memB_mem.1 rfl)
      have hn36 : fl 36 = false := hfl 36 (by simp) (memB_mem.1 rfl)
      have hFp := hf ⟨hfi, hn34, hn36⟩;have e10 : val 10 = _ := hd 10 (memB_mem.1 rfl);obtain ⟨g18_, e18, q18_, h18_⟩ := hd 18 (memB_mem.1 rfl);change val 18 = _ at e18;have ha := ha.s2 (d := 80) (e := 72) rfl e18 rfl e10;have hown := hFp.own (3 + 2 * i) (by omega)
      rw [show ft (3 + 2 * i) = 3 from ft_row (by omega)] at hown
      refine ts_push ir_elem ha rfl rfl rfl hown (rd_one (l := [.int .i64 (x.b (4 + 4 * i + k))]) q18_ rfl) (by intro u hu; simp only [List.mem_cons, List.not_mem_nil, or_false] at hu; subst hu; rfl) (by rw [fX_lenA]; omega) rfl (Nat.le_trans hbw.size hk.size) ?_
      intro v' w' ho' hgr hat;have hFn := Fam.turn (y := (fX x.b v2 (i + 1) i k) (3 + 2 * i) ++ [.int .i64 (x.b (4 + 4 * i + k))]) hFp (show (3 + 2 * i) < 11 by omega) (by rw [List.length_append, show ft (3 + 2 * i) = 3 from ft_row (by omega)]; exact ho') (by exact hgr) (by exact hat)
      refine ⟨v', rfl, hgr.size, ⟨hk.trans (Kp.own (S := [3, 22]) hown rfl (Nat.le_refl _) (Nat.le_trans hbw.size hk.size) hgr), (fun (h : fset fl 19 36 = false) => (hk1 (by rw [fset_ne rfl] at h; exact h)).trans (Kp.own (S := [3]) hown rfl (Nat.le_refl _) (Nat.le_trans hbw.size hk.size) hgr)), fun hc => absurd hc.1 (by rw [fset_eq]; decide)⟩, (fun _ _ => hFn), fun j _ hj hn hA => ?_⟩
      exact phiS_cons_st (C := fun j => j ≠ 19 ∧ 19 ∉ clsAt [[], [0], [], [], [3], [], [], [6], [], [6, 7, 8], [6, 7, 8, 9], [], [], [], [11, 13], [11, 12, 13, 14], [11, 12, 13, 14, 15], [11, 12, 13, 14, 15, 16], [11, 12, 13, 14, 15, 16, 17], [6, 7, 8, 9, 10, 11, 12, 13, 14, 15, 16, 17, 18], [], [20], [], [20, 21, 22], [20, 21, 22, 23], [], [], [], [25, 27], [25, 26, 27, 28], [25, 26, 27, 28, 29], [25, 26, 27, 28, 29, 30], [25, 26, 27, 28, 29, 30, 31], [25, 26, 27, 28, 29, 30, 31, 32], [6, 7, 8, 9, 10, 11, 12, 13, 14, 15, 16, 17, 18, 19, 20, 21, 22, 23, 24, 25, 26, 27, 28, 29, 30, 31, 32, 33], [0, 1, 2, 6, 7, 8, 9, 10, 11, 12, 13, 14, 15, 16, 17, 18, 19, 20, 21, 22, 23, 24, 25, 26, 27, 28, 29, 30, 31, 32, 33, 34], [0, 1, 2, 6, 7, 8, 9, 10, 11, 12, 13, 14, 15, 16, 17, 18, 19, 20, 21, 22, 23, 24, 25, 26, 27, 28, 29, 30, 31, 32, 33, 34, 35], [0, 1, 2, 3, 4, 5, 6, 7, 8, 9, 10, 11, 12, 13, 14, 15, 16, 17, 18, 19, 20, 21, 22, 23, 24, 25, 26, 27, 28, 29, 30, 31, 32, 33, 34, 35, 36], [0, 1, 2, 3, 4, 5, 6, 7, 8, 9, 10, 11, 12, 13, 14, 15, 16, 17, 18, 19, 20, 21, 22, 23, 24, 25, 26, 27, 28, 29, 30, 31, 32, 33, 34, 35, 36, 37]] j) (fun _ ⟨g, h1, h2, h3⟩ => ⟨g, h1, h2.grown hgr (fun h => by have := ((hF.own (3 + 2 * i) (by omega)).lt _ h.symm).2; omega), h3⟩) (phiS_cons_st (C := fun j => j ≠ 19 ∧ 19 ∉ clsAt [[], [0], [], [], [3], [], [], [6], [], [6, 7, 8], [6, 7, 8, 9], [], [], [], [11, 13], [11, 12, 13, 14], [11, 12, 13, 14, 15], [11, 12, 13, 14, 15, 16], [11, 12, 13, 14, 15, 16, 17], [6, 7, 8, 9, 10, 11, 12, 13, 14, 15, 16, 17, 18], [], [20], [], [20, 21, 22], [20, 21, 22, 23], [], [], [], [25, 27], [25, 26, 27, 28], [25, 26, 27, 28, 29], [25, 26, 27, 28, 29, 30], [25, 26, 27, 28, 29, 30, 31], [25, 26, 27, 28, 29, 30, 31, 32], [6, 7, 8, 9, 10, 11, 12, 13, 14, 15, 16, 17, 18, 19, 20, 21, 22, 23, 24, 25, 26, 27, 28, 29, 30, 31, 32, 33], [0, 1, 2, 6, 7, 8, 9, 10, 11, 12, 13, 14, 15, 16, 17, 18, 19, 20, 21, 22, 23, 24, 25, 26, 27, 28, 29, 30, 31, 32, 33, 34], [0, 1, 2, 6, 7, 8, 9, 10, 11, 12, 13, 14, 15, 16, 17, 18, 19, 20, 21, 22, 23, 24, 25, 26, 27, 28, 29, 30, 31, 32, 33, 34, 35], [0, 1, 2, 3, 4, 5, 6, 7, 8, 9, 10, 11, 12, 13, 14, 15, 16, 17, 18, 19, 20, 21, 22, 23, 24, 25, 26, 27, 28, 29, 30, 31, 32, 33, 34, 35, 36], [0, 1, 2, 3, 4, 5, 6, 7, 8, 9, 10, 11, 12, 13, 14, 15, 16, 17, 18, 19, 20, 21, 22, 23, 24, 25, 26, 27, 28, 29, 30, 31, 32, 33, 34, 35, 36, 37]] j) (fun hc => absurd rfl hc.1) (phiS_cons_st (C := fun j => j ≠ 19 ∧ 19 ∉ clsAt [[], [0], [], [], [3], [], [], [6], [], [6, 7, 8], [6, 7, 8, 9], [], [], [], [11, 13], [11, 12, 13, 14], [11, 12, 13, 14, 15], [11, 12, 13, 14, 15, 16], [11, 12, 13, 14, 15, 16, 17], [6, 7, 8, 9, 10, 11, 12, 13, 14, 15, 16, 17, 18], [], [20], [], [20, 21, 22], [20, 21, 22, 23], [], [], [], [25, 27], [25, 26, 27, 28], [25, 26, 27, 28, 29], [25, 26, 27, 28, 29, 30], [25, 26, 27, 28, 29, 30, 31], [25, 26, 27, 28, 29, 30, 31, 32], [6, 7, 8, 9, 10, 11, 12, 13, 14, 15, 16, 17, 18, 19, 20, 21, 22, 23, 24, 25, 26, 27, 28, 29, 30, 31, 32, 33], [0, 1, 2, 6, 7, 8, 9, 10, 11, 12, 13, 14, 15, 16, 17, 18, 19, 20, 21, 22, 23, 24, 25, 26, 27, 28, 29, 30, 31, 32, 33, 34], [0, 1, 2, 6, 7, 8, 9, 10, 11, 12, 13, 14, 15, 16, 17, 18, 19, 20, 21, 22, 23, 24, 25, 26, 27, 28, 29, 30, 31, 32, 33, 34, 35], [0, 1, 2, 3, 4, 5, 6, 7, 8, 9, 10, 11, 12, 13, 14, 15, 16, 17, 18, 19, 20, 21, 22, 23, 24, 25, 26, 27, 28, 29, 30, 31, 32, 33, 34, 35, 36], [0, 1, 2, 3, 4, 5, 6, 7, 8, 9, 10, 11, 12, 13, 14, 15, 16, 17, 18, 19, 20, 21, 22, 23, 24, 25, 26, 27, 28, 29, 30, 31, 32, 33, 34, 35, 36, 37]] j) (fun _ ⟨g, h1, h2, h3⟩ => ⟨g, h1, h2.grown hgr (fun h => by have := ((hF.own (3 + 2 * i) (by omega)).lt _ h.symm).2; omega), h3⟩) (phiS_cons_st (C := fun j => j ≠ 19 ∧ 19 ∉ clsAt [[], [0], [], [], [3], [], [], [6], [], [6, 7, 8], [6, 7, 8, 9], [], [], [], [11, 13], [11, 12, 13, 14], [11, 12, 13, 14, 15], [11, 12, 13, 14, 15, 16], [11, 12, 13, 14, 15, 16, 17], [6, 7, 8, 9, 10, 11, 12, 13, 14, 15, 16, 17, 18], [], [20], [], [20, 21, 22], [20, 21, 22, 23], [], [], [], [25, 27], [25, 26, 27, 28], [25, 26, 27, 28, 29], [25, 26, 27, 28, 29, 30], [25, 26, 27, 28, 29, 30, 31], [25, 26, 27, 28, 29, 30, 31, 32], [6, 7, 8, 9, 10, 11, 12, 13, 14, 15, 16, 17, 18, 19, 20, 21, 22, 23, 24, 25, 26, 27, 28, 29, 30, 31, 32, 33], [0, 1, 2, 6, 7, 8, 9, 10, 11, 12, 13, 14, 15, 16, 17, 18, 19, 20, 21, 22, 23, 24, 25, 26, 27, 28, 29, 30, 31, 32, 33, 34], [0, 1, 2, 6, 7, 8, 9, 10, 11, 12, 13, 14, 15, 16, 17, 18, 19, 20, 21, 22, 23, 24, 25, 26, 27, 28, 29, 30, 31, 32, 33, 34, 35], [0, 1, 2, 3, 4, 5, 6, 7, 8, 9, 10, 11, 12, 13, 14, 15, 16, 17, 18, 19, 20, 21, 22, 23, 24, 25, 26, 27, 28, 29, 30, 31, 32, 33, 34, 35, 36], [0, 1, 2, 3, 4, 5, 6, 7, 8, 9, 10, 11, 12, 13, 14, 15, 16, 17, 18, 19, 20, 21, 22, 23, 24, 25, 26, 27, 28, 29, 30, 31, 32, 33, 34, 35, 36, 37]] j) (fun hc => absurd (memB_mem.1 rfl) hc.2) (phiS_cons_st (C := fun j => j ≠ 19 ∧ 19 ∉ clsAt [[], [0], [], [], [3], [], [], [6], [], [6, 7, 8], [6, 7, 8, 9], [], [], [], [11, 13], [11, 12, 13, 14], [11, 12, 13, 14, 15], [11, 12, 13, 14, 15, 16], [11, 12, 13, 14, 15, 16, 17], [6, 7, 8, 9, 10, 11, 12, 13, 14, 15, 16, 17, 18], [], [20], [], [20, 21, 22], [20, 21, 22, 23], [], [], [], [25, 27], [25, 26, 27, 28], [25, 26, 27, 28, 29], [25, 26, 27, 28, 29, 30], [25, 26, 27, 28, 29, 30, 31], [25, 26, 27, 28, 29, 30, 31, 32], [6, 7, 8, 9, 10, 11, 12, 13, 14, 15, 16, 17, 18, 19, 20, 21, 22, 23, 24, 25, 26, 27, 28, 29, 30, 31, 32, 33], [0, 1, 2, 6, 7, 8, 9, 10, 11, 12, 13, 14, 15, 16, 17, 18, 19, 20, 21, 22, 23, 24, 25, 26, 27, 28, 29, 30, 31, 32, 33, 34], [0, 1, 2, 6, 7, 8, 9, 10, 11, 12, 13, 14, 15, 16, 17, 18, 19, 20, 21, 22, 23, 24, 25, 26, 27, 28, 29, 30, 31, 32, 33, 34, 35], [0, 1, 2, 3, 4, 5, 6, 7, 8, 9, 10, 11, 12, 13, 14, 15, 16, 17, 18, 19, 20, 21, 22, 23, 24, 25, 26, 27, 28, 29, 30, 31, 32, 33, 34, 35, 36], [0, 1, 2, 3, 4, 5, 6, 7, 8, 9, 10, 11, 12, 13, 14, 15, 16, 17, 18, 19, 20, 21, 22, 23, 24, 25, 26, 27, 28, 29, 30, 31, 32, 33, 34, 35, 36, 37]] j) (fun hc => absurd (memB_mem.1 rfl) hc.2) (fun _ _ h => h))))) j ⟨hj, hn⟩
     ·intro val fl w1 a hb hfi ha hd hfl
      obtain ⟨hk, hk1, hf⟩ := hb;have hn36 : fl 36 = false := hfl 36 (by simp) (memB_mem.1 rfl)
      have hFp : Fam w1 w.heap.size 11 ft (fu (v2) (3 + 2 * i) (val 19)) (fu ((fX x.b v2 (i + 1) i k)) (3 + 2 * i) ((fX x.b v2 (i + 1) i k) (3 + 2 * i) ++ [.int .i64 (x.b (4 + 4 * i + k))])) := hd 19 (memB_mem.1 rfl) hfi hn36;have e24 : val 24 = _ := hd 24 (memB_mem.1 rfl);obtain ⟨g33_, e33, q33_, h33_⟩ := hd 33 (memB_mem.1 rfl);change val 33 = _ at e33;have ha := ha.s2 (d := 95) (e := 86) rfl e33 rfl e24;have hown := hFp.own (4 + 2 * i) (by omega)
      rw [fu_ne (by omega), fu_ne (by omega)] at hown
      rw [show ft (4 + 2 * i) = 3 from ft_row (by omega)] at hown
      refine ts_push ir_elem ha rfl rfl rfl hown (rd_one (l := [.int .i64 ((x.b (20 + 4 * i + k)).tmod 3)]) q33_ rfl) (by intro u hu; simp only [List.mem_cons, List.not_mem_nil, or_false] at hu; subst hu; rfl) (by rw [fX_lenP]; omega) rfl (Nat.le_trans hbw.size hk.size) ?_
      intro v' w' ho' hgr hat;have hFn := Fam.turn (y := (fX x.b v2 (i + 1) i k) (4 + 2 * i) ++ [.int .i64 ((x.b (20 + 4 * i + k)).tmod 3)]) hFp (show (4 + 2 * i) < 11 by omega) (by rw [List.length_append, show ft (4 + 2 * i) = 3 from ft_row (by omega)]; exact ho') (by rw [fu_ne (by omega)]; exact hgr) (by rw [fu_ne (by omega)]; exact hat)
      refine ⟨v', rfl, hgr.size, ⟨hk.trans (Kp.own (S := [3, 22]) hown rfl (Nat.le_refl _) (Nat.le_trans hbw.size hk.size) hgr), (fun (h : fset fl 34 36 = false) => (hk1 (by rw [fset_ne rfl] at h; exact h)).trans (Kp.own (S := [3]) hown rfl (Nat.le_refl _) (Nat.le_trans hbw.size hk.size) hgr)), fun hc => absurd hc.2.1 (by rw [fset_eq]; decide)⟩, (fun _ => hFn), fun j _ hj hn hA => ?_⟩
      exact phiS_cons_st (C := fun j => j ≠ 34 ∧ 34 ∉ clsAt [[], [0], [], [], [3], [], [], [6], [], [6, 7, 8], [6, 7, 8, 9], [], [], [], [11, 13], [11, 12, 13, 14], [11, 12, 13, 14, 15], [11, 12, 13, 14, 15, 16], [11, 12, 13, 14, 15, 16, 17], [6, 7, 8, 9, 10, 11, 12, 13, 14, 15, 16, 17, 18], [], [20], [], [20, 21, 22], [20, 21, 22, 23], [], [], [], [25, 27], [25, 26, 27, 28], [25, 26, 27, 28, 29], [25, 26, 27, 28, 29, 30], [25, 26, 27, 28, 29, 30, 31], [25, 26, 27, 28, 29, 30, 31, 32], [6, 7, 8, 9, 10, 11, 12, 13, 14, 15, 16, 17, 18, 19, 20, 21, 22, 23, 24, 25, 26, 27, 28, 29, 30, 31, 32, 33], [0, 1, 2, 6, 7, 8, 9, 10, 11, 12, 13, 14, 15, 16, 17, 18, 19, 20, 21, 22, 23, 24, 25, 26, 27, 28, 29, 30, 31, 32, 33, 34], [0, 1, 2, 6, 7, 8, 9, 10, 11, 12, 13, 14, 15, 16, 17, 18, 19, 20, 21, 22, 23, 24, 25, 26, 27, 28, 29, 30, 31, 32, 33, 34, 35], [0, 1, 2, 3, 4, 5, 6, 7, 8, 9, 10, 11, 12, 13, 14, 15, 16, 17, 18, 19, 20, 21, 22, 23, 24, 25, 26, 27, 28, 29, 30, 31, 32, 33, 34, 35, 36], [0, 1, 2, 3, 4, 5, 6, 7, 8, 9, 10, 11, 12, 13, 14, 15, 16, 17, 18, 19, 20, 21, 22, 23, 24, 25, 26, 27, 28, 29, 30, 31, 32, 33, 34, 35, 36, 37]] j) (fun _ ⟨g, h1, h2, h3⟩ => ⟨g, h1, h2.grown hgr (fun h => by have := ((hF.own (4 + 2 * i) (by omega)).lt _ h.symm).2; omega), h3⟩) (phiS_cons_st (C := fun j => j ≠ 34 ∧ 34 ∉ clsAt [[], [0], [], [], [3], [], [], [6], [], [6, 7, 8], [6, 7, 8, 9], [], [], [], [11, 13], [11, 12, 13, 14], [11, 12, 13, 14, 15], [11, 12, 13, 14, 15, 16], [11, 12, 13, 14, 15, 16, 17], [6, 7, 8, 9, 10, 11, 12, 13, 14, 15, 16, 17, 18], [], [20], [], [20, 21, 22], [20, 21, 22, 23], [], [], [], [25, 27], [25, 26, 27, 28], [25, 26, 27, 28, 29], [25, 26, 27, 28, 29, 30], [25, 26, 27, 28, 29, 30, 31], [25, 26, 27, 28, 29, 30, 31, 32], [6, 7, 8, 9, 10, 11, 12, 13, 14, 15, 16, 17, 18, 19, 20, 21, 22, 23, 24, 25, 26, 27, 28, 29, 30, 31, 32, 33], [0, 1, 2, 6, 7, 8, 9, 10, 11, 12, 13, 14, 15, 16, 17, 18, 19, 20, 21, 22, 23, 24, 25, 26, 27, 28, 29, 30, 31, 32, 33, 34], [0, 1, 2, 6, 7, 8, 9, 10, 11, 12, 13, 14, 15, 16, 17, 18, 19, 20, 21, 22, 23, 24, 25, 26, 27, 28, 29, 30, 31, 32, 33, 34, 35], [0, 1, 2, 3, 4, 5, 6, 7, 8, 9, 10, 11, 12, 13, 14, 15, 16, 17, 18, 19, 20, 21, 22, 23, 24, 25, 26, 27, 28, 29, 30, 31, 32, 33, 34, 35, 36], [0, 1, 2, 3, 4, 5, 6, 7, 8, 9, 10, 11, 12, 13, 14, 15, 16, 17, 18, 19, 20, 21, 22, 23, 24, 25, 26, 27, 28, 29, 30, 31, 32, 33, 34, 35, 36, 37]] j) (fun _ h c0 c1 => absurd c0 (by rw [fset_eq]; decide)) (phiS_cons_st (C := fun j => j ≠ 34 ∧ 34 ∉ clsAt [[], [0], [], [], [3], [], [], [6], [], [6, 7, 8], [6, 7, 8, 9], [], [], [], [11, 13], [11, 12, 13, 14], [11, 12, 13, 14, 15], [11, 12, 13, 14, 15, 16], [11, 12, 13, 14, 15, 16, 17], [6, 7, 8, 9, 10, 11, 12, 13, 14, 15, 16, 17, 18], [], [20], [], [20, 21, 22], [20, 21, 22, 23], [], [], [], [25, 27], [25, 26, 27, 28], [25, 26, 27, 28, 29], [25, 26, 27, 28, 29, 30], [25, 26, 27, 28, 29, 30, 31], [25, 26, 27, 28, 29, 30, 31, 32], [6, 7, 8, 9, 10, 11, 12, 13, 14, 15, 16, 17, 18, 19, 20, 21, 22, 23, 24, 25, 26, 27, 28, 29, 30, 31, 32, 33], [0, 1, 2, 6, 7, 8, 9, 10, 11, 12, 13, 14, 15, 16, 17, 18, 19, 20, 21, 22, 23, 24, 25, 26, 27, 28, 29, 30, 31, 32, 33, 34], [0, 1, 2, 6, 7, 8, 9, 10, 11, 12, 13, 14, 15, 16, 17, 18, 19, 20, 21, 22, 23, 24, 25, 26, 27, 28, 29, 30, 31, 32, 33, 34, 35], [0, 1, 2, 3, 4, 5, 6, 7, 8, 9, 10, 11, 12, 13, 14, 15, 16, 17, 18, 19, 20, 21, 22, 23, 24, 25, 26, 27, 28, 29, 30, 31, 32, 33, 34, 35, 36], [0, 1, 2, 3, 4, 5, 6, 7, 8, 9, 10, 11, 12, 13, 14, 15, 16, 17, 18, 19, 20, 21, 22, 23, 24, 25, 26, 27, 28, 29, 30, 31, 32, 33, 34, 35, 36, 37]] j) (fun _ ⟨g, h1, h2, h3⟩ => ⟨g, h1, h2.grown hgr (fun h => by have := ((hF.own (4 + 2 * i) (by omega)).lt _ h.symm).2; omega), h3⟩) (phiS_cons_st (C := fun j => j ≠ 34 ∧ 34 ∉ clsAt [[], [0], [], [], [3], [], [], [6], [], [6, 7, 8], [6, 7, 8, 9], [], [], [], [11, 13], [11, 12, 13, 14], [11, 12, 13, 14, 15], [11, 12, 13, 14, 15, 16], [11, 12, 13, 14, 15, 16, 17], [6, 7, 8, 9, 10, 11, 12, 13, 14, 15, 16, 17, 18], [], [20], [], [20, 21, 22], [20, 21, 22, 23], [], [], [], [25, 27], [25, 26, 27, 28], [25, 26, 27, 28, 29], [25, 26, 27, 28, 29, 30], [25, 26, 27, 28, 29, 30, 31], [25, 26, 27, 28, 29, 30, 31, 32], [6, 7, 8, 9, 10, 11, 12, 13, 14, 15, 16, 17, 18, 19, 20, 21, 22, 23, 24, 25, 26, 27, 28, 29, 30, 31, 32, 33], [0, 1, 2, 6, 7, 8, 9, 10, 11, 12, 13, 14, 15, 16, 17, 18, 19, 20, 21, 22, 23, 24, 25, 26, 27, 28, 29, 30, 31, 32, 33, 34], [0, 1, 2, 6, 7, 8, 9, 10, 11, 12, 13, 14, 15, 16, 17, 18, 19, 20, 21, 22, 23, 24, 25, 26, 27, 28, 29, 30, 31, 32, 33, 34, 35], [0, 1, 2, 3, 4, 5, 6, 7, 8, 9, 10, 11, 12, 13, 14, 15, 16, 17, 18, 19, 20, 21, 22, 23, 24, 25, 26, 27, 28, 29, 30, 31, 32, 33, 34, 35, 36], [0, 1, 2, 3, 4, 5, 6, 7, 8, 9, 10, 11, 12, 13, 14, 15, 16, 17, 18, 19, 20, 21, 22, 23, 24, 25, 26, 27, 28, 29, 30, 31, 32, 33, 34, 35, 36, 37]] j) (fun hc => absurd rfl hc.1) (phiS_cons_st (C := fun j => j ≠ 34 ∧ 34 ∉ clsAt [[], [0], [], [], [3], [], [], [6], [], [6, 7, 8], [6, 7, 8, 9], [], [], [], [11, 13], [11, 12, 13, 14], [11, 12, 13, 14, 15], [11, 12, 13, 14, 15, 16], [11, 12, 13, 14, 15, 16, 17], [6, 7, 8, 9, 10, 11, 12, 13, 14, 15, 16, 17, 18], [], [20], [], [20, 21, 22], [20, 21, 22, 23], [], [], [], [25, 27], [25, 26, 27, 28], [25, 26, 27, 28, 29], [25, 26, 27, 28, 29, 30], [25, 26, 27, 28, 29, 30, 31], [25, 26, 27, 28, 29, 30, 31, 32], [6, 7, 8, 9, 10, 11, 12, 13, 14, 15, 16, 17, 18, 19, 20, 21, 22, 23, 24, 25, 26, 27, 28, 29, 30, 31, 32, 33], [0, 1, 2, 6, 7, 8, 9, 10, 11, 12, 13, 14, 15, 16, 17, 18, 19, 20, 21, 22, 23, 24, 25, 26, 27, 28, 29, 30, 31, 32, 33, 34], [0, 1, 2, 6, 7, 8, 9, 10, 11, 12, 13, 14, 15, 16, 17, 18, 19, 20, 21, 22, 23, 24, 25, 26, 27, 28, 29, 30, 31, 32, 33, 34, 35], [0, 1, 2, 3, 4, 5, 6, 7, 8, 9, 10, 11, 12, 13, 14, 15, 16, 17, 18, 19, 20, 21, 22, 23, 24, 25, 26, 27, 28, 29, 30, 31, 32, 33, 34, 35, 36], [0, 1, 2, 3, 4, 5, 6, 7, 8, 9, 10, 11, 12, 13, 14, 15, 16, 17, 18, 19, 20, 21, 22, 23, 24, 25, 26, 27, 28, 29, 30, 31, 32, 33, 34, 35, 36, 37]] j) (fun hc => absurd (memB_mem.1 rfl) hc.2) (fun _ _ h => h))))) j ⟨hj, hn⟩
     ·intro val fl w1 a hb hfi ha hd hfl
      obtain ⟨hk, hk1, hf⟩ := hb;have hFp : Fam w1 w.heap.size 11 ft (fu (fu (v2) (3 + 2 * i) (val 19)) (4 + 2 * i) (val 34)) (fu (fu ((fX x.b v2 (i + 1) i k)) (3 + 2 * i) ((fX x.b v2 (i + 1) i k) (3 + 2 * i) ++ [.int .i64 (x.b (4 + 4 * i + k))])) (4 + 2 * i) ((fX x.b v2 (i + 1) i k) (4 + 2 * i) ++ [.int .i64 ((x.b (20 + 4 * i + k)).tmod 3)])) := hd 34 (memB_mem.1 rfl) hfi;have e35 : val 35 = _ := hd 35 (memB_mem.1 rfl);have e19 : val 19 = val 19 := rfl;have ha := ha.s2 (d := 81) (e := 97) rfl e19 rfl e35;have hown := hFp.own 1 (by omega)
      rw [fu_ne (by omega), fu_ne (by omega), fu_ne (by omega), fu_ne (by omega)] at hown
      rw [show ft 1 = 22 from rfl] at hown;obtain ⟨As_, cs_, hsv⟩ : ∃ A_ c_, val 19 = .slice A_ ((fX x.b v2 (i + 1) i k) (3 + 2 * i) ++ [(.int .i64 (x.b (4 + 4 * i + k)) : Value)]).length c_ := own_sl (by have h := hFp.own (3 + 2 * i) (by omega); rw [fu_ne (by omega), fu_eq, fu_ne (by omega), fu_eq] at h; exact h)
      rw [hva, fX_len1] at hown;refine ts_storeRow (l' := [val 19]) ha rfl rfl rfl hown sz_22 (by rw [hsv]; rfl) rfl (by rw [fX_len1]; omega) (by rw [hsv]; rfl) ?_
      intro w' ho' hgr;rw [spl_one _ _ _ (by rw [fX_len1]; omega), Nat.zero_add] at ho'
      have hFn := Fam.turn (y := ((fX x.b v2 (i + 1) i k) 1).set i (val 19)) hFp (show 1 < 11 by omega) (by rw [List.length_set, fX_len1, show ft 1 = 22 from rfl]; exact ho') (by rw [fu_ne (by omega), fu_ne (by omega)]; rw [hva]; exact hgr) (.inl (by rw [fu_ne (by omega), fu_ne (by omega)]; rw [hva]))
      refine ⟨undef, rfl, hgr.size, ⟨hk.trans (Kp.own (S := [3, 22]) hown rfl (Nat.le_refl _) (Nat.le_trans hbw.size hk.size) hgr), (fun (h : fset fl 36 36 = false) => absurd h (by rw [fset_eq]; decide)), fun hc => absurd hc.2.2 (by rw [fset_eq]; decide)⟩, hFn, fun j _ hj hn hA => ?_⟩
      exact phiS_cons_st (C := fun j => j ≠ 36 ∧ 36 ∉ clsAt [[], [0], [], [], [3], [], [], [6], [], [6, 7, 8], [6, 7, 8, 9], [], [], [], [11, 13], [11, 12, 13, 14], [11, 12, 13, 14, 15], [11, 12, 13, 14, 15, 16], [11, 12, 13, 14, 15, 16, 17], [6, 7, 8, 9, 10, 11, 12, 13, 14, 15, 16, 17, 18], [], [20], [], [20, 21, 22], [20, 21, 22, 23], [], [], [], [25, 27], [25, 26, 27, 28], [25, 26, 27, 28, 29], [25, 26, 27, 28, 29, 30], [25, 26, 27, 28, 29, 30, 31], [25, 26, 27, 28, 29, 30, 31, 32], [6, 7, 8, 9, 10, 11, 12, 13, 14, 15, 16, 17, 18, 19, 20, 21, 22, 23, 24, 25, 26, 27, 28, 29, 30, 31, 32, 33], [0, 1, 2, 6, 7, 8, 9, 10, 11, 12, 13, 14, 15, 16, 17, 18, 19, 20, 21, 22, 23, 24, 25, 26, 27, 28, 29, 30, 31, 32, 33, 34], [0, 1, 2, 6, 7, 8, 9, 10, 11, 12, 13, 14, 15, 16, 17, 18, 19, 20, 21, 22, 23, 24, 25, 26, 27, 28, 29, 30, 31, 32, 33, 34, 35], [0, 1, 2, 3, 4, 5, 6, 7, 8, 9, 10, 11, 12, 13, 14, 15, 16, 17, 18, 19, 20, 21, 22, 23, 24, 25, 26, 27, 28, 29, 30, 31, 32, 33, 34, 35, 36], [0, 1, 2, 3, 4, 5, 6, 7, 8, 9, 10, 11, 12, 13, 14, 15, 16, 17, 18, 19, 20, 21, 22, 23, 24, 25, 26, 27, 28, 29, 30, 31, 32, 33, 34, 35, 36, 37]] j) (fun _ ⟨g, h1, h2, h3⟩ => ⟨g, h1, h2.grown hgr (fun h => by have := ((hF.own 1 (by omega)).lt _ (by rw [hva]; exact h.symm)).2; omega), h3⟩) (phiS_cons_st (C := fun j => j ≠ 36 ∧ 36 ∉ clsAt [[], [0], [], [], [3], [], [], [6], [], [6, 7, 8], [6, 7, 8, 9], [], [], [], [11, 13], [11, 12, 13, 14], [11, 12, 13, 14, 15], [11, 12, 13, 14, 15, 16], [11, 12, 13, 14, 15, 16, 17], [6, 7, 8, 9, 10, 11, 12, 13, 14, 15, 16, 17, 18], [], [20], [], [20, 21, 22], [20, 21, 22, 23], [], [], [], [25, 27], [25, 26, 27, 28], [25, 26, 27, 28, 29], [25, 26, 27, 28, 29, 30], [25, 26, 27, 28, 29, 30, 31], [25, 26, 27, 28, 29, 30, 31, 32], [6, 7, 8, 9, 10, 11, 12, 13, 14, 15, 16, 17, 18, 19, 20, 21, 22, 23, 24, 25, 26, 27, 28, 29, 30, 31, 32, 33], [0, 1, 2, 6, 7, 8, 9, 10, 11, 12, 13, 14, 15, 16, 17, 18, 19, 20, 21, 22, 23, 24, 25, 26, 27, 28, 29, 30, 31, 32, 33, 34], [0, 1, 2, 6, 7, 8, 9, 10, 11, 12, 13, 14, 15, 16, 17, 18, 19, 20, 21, 22, 23, 24, 25, 26, 27, 28, 29, 30, 31, 32, 33, 34, 35], [0, 1, 2, 3, 4, 5, 6, 7, 8, 9, 10, 11, 12, 13, 14, 15, 16, 17, 18, 19, 20, 21, 22, 23, 24, 25, 26, 27, 28, 29, 30, 31, 32, 33, 34, 35, 36], [0, 1, 2, 3, 4, 5, 6, 7, 8, 9, 10, 11, 12, 13, 14, 15, 16, 17, 18, 19, 20, 21, 22, 23, 24, 25, 26, 27, 28, 29, 30, 31, 32, 33, 34, 35, 36, 37]] j) (fun _ h c0 c1 => absurd c1 (by rw [fset_eq]; decide)) (phiS_cons_st (C := fun j => j ≠ 36 ∧ 36 ∉ clsAt [[], [0], [], [], [3], [], [], [6], [], [6, 7, 8], [6, 7, 8, 9], [], [], [], [11, 13], [11, 12, 13, 14], [11, 12, 13, 14, 15], [11, 12, 13, 14, 15, 16], [11, 12, 13, 14, 15, 16, 17], [6, 7, 8, 9, 10, 11, 12, 13, 14, 15, 16, 17, 18], [], [20], [], [20, 21, 22], [20, 21, 22, 23], [], [], [], [25, 27], [25, 26, 27, 28], [25, 26, 27, 28, 29], [25, 26, 27, 28, 29, 30], [25, 26, 27, 28, 29, 30, 31], [25, 26, 27, 28, 29, 30, 31, 32], [6, 7, 8, 9, 10, 11, 12, 13, 14, 15, 16, 17, 18, 19, 20, 21, 22, 23, 24, 25, 26, 27, 28, 29, 30, 31, 32, 33], [0, 1, 2, 6, 7, 8, 9, 10, 11, 12, 13, 14, 15, 16, 17, 18, 19, 20, 21, 22, 23, 24, 25, 26, 27, 28, 29, 30, 31, 32, 33, 34], [0, 1, 2, 6, 7, 8, 9, 10, 11, 12, 13, 14, 15, 16, 17, 18, 19, 20, 21, 22, 23, 24, 25, 26, 27, 28, 29, 30, 31, 32, 33, 34, 35], [0, 1, 2, 3, 4, 5, 6, 7, 8, 9, 10, 11, 12, 13, 14, 15, 16, 17, 18, 19, 20, 21, 22, 23, 24, 25, 26, 27, 28, 29, 30, 31, 32, 33, 34, 35, 36], [0, 1, 2, 3, 4, 5, 6, 7, 8, 9, 10, 11, 12, 13, 14, 15, 16, 17, 18, 19, 20, 21, 22, 23, 24, 25, 26, 27, 28, 29, 30, 31, 32, 33, 34, 35, 36, 37]] j) (fun _ ⟨g, h1, h2, h3⟩ => ⟨g, h1, h2.grown hgr (fun h => by have := ((hF.own 1 (by omega)).lt _ (by rw [hva]; exact h.symm)).2; omega), h3⟩) (phiS_cons_st (C := fun j => j ≠ 36 ∧ 36 ∉ clsAt [[], [0], [], [], [3], [], [], [6], [], [6, 7, 8], [6, 7, 8, 9], [], [], [], [11, 13], [11, 12, 13, 14], [11, 12, 13, 14, 15], [11, 12, 13, 14, 15, 16], [11, 12, 13, 14, 15, 16, 17], [6, 7, 8, 9, 10, 11, 12, 13, 14, 15, 16, 17, 18], [], [20], [], [20, 21, 22], [20, 21, 22, 23], [], [], [], [25, 27], [25, 26, 27, 28], [25, 26, 27, 28, 29], [25, 26, 27, 28, 29, 30], [25, 26, 27, 28, 29, 30, 31], [25, 26, 27, 28, 29, 30, 31, 32], [6, 7, 8, 9, 10, 11, 12, 13, 14, 15, 16, 17, 18, 19, 20, 21, 22, 23, 24, 25, 26, 27, 28, 29, 30, 31, 32, 33], [0, 1, 2, 6, 7, 8, 9, 10, 11, 12, 13, 14, 15, 16, 17, 18, 19, 20, 21, 22, 23, 24, 25, 26, 27, 28, 29, 30, 31, 32, 33, 34], [0, 1, 2, 6, 7, 8, 9, 10, 11, 12, 13, 14, 15, 16, 17, 18, 19, 20, 21, 22, 23, 24, 25, 26, 27, 28, 29, 30, 31, 32, 33, 34, 35], [0, 1, 2, 3, 4, 5, 6, 7, 8, 9, 10, 11, 12, 13, 14, 15, 16, 17, 18, 19, 20, 21, 22, 23, 24, 25, 26, 27, 28, 29, 30, 31, 32, 33, 34, 35, 36], [0, 1, 2, 3, 4, 5, 6, 7, 8, 9, 10, 11, 12, 13, 14, 15, 16, 17, 18, 19, 20, 21, 22, 23, 24, 25, 26, 27, 28, 29, 30, 31, 32, 33, 34, 35, 36, 37]] j) (fun _ h c0 => absurd c0 (by rw [fset_eq]; decide)) (phiS_cons_st (C := fun j => j ≠ 36 ∧ 36 ∉ clsAt [[], [0], [], [], [3], [], [], [6], [], [6, 7, 8], [6, 7, 8, 9], [], [], [], [11, 13], [11, 12, 13, 14], [11, 12, 13, 14, 15], [11, 12, 13, 14, 15, 16], [11, 12, 13, 14, 15, 16, 17], [6, 7, 8, 9, 10, 11, 12, 13, 14, 15, 16, 17, 18], [], [20], [], [20, 21, 22], [20, 21, 22, 23], [], [], [], [25, 27], [25, 26, 27, 28], [25, 26, 27, 28, 29], [25, 26, 27, 28, 29, 30], [25, 26, 27, 28, 29, 30, 31], [25, 26, 27, 28, 29, 30, 31, 32], [6, 7, 8, 9, 10, 11, 12, 13, 14, 15, 16, 17, 18, 19, 20, 21, 22, 23, 24, 25, 26, 27, 28, 29, 30, 31, 32, 33], [0, 1, 2, 6, 7, 8, 9, 10, 11, 12, 13, 14, 15, 16, 17, 18, 19, 20, 21, 22, 23, 24, 25, 26, 27, 28, 29, 30, 31, 32, 33, 34], [0, 1, 2, 6, 7, 8, 9, 10, 11, 12, 13, 14, 15, 16, 17, 18, 19, 20, 21, 22, 23, 24, 25, 26, 27, 28, 29, 30, 31, 32, 33, 34, 35], [0, 1, 2, 3, 4, 5, 6, 7, 8, 9, 10, 11, 12, 13, 14, 15, 16, 17, 18, 19, 20, 21, 22, 23, 24, 25, 26, 27, 28, 29, 30, 31, 32, 33, 34, 35, 36], [0, 1, 2, 3, 4, 5, 6, 7, 8, 9, 10, 11, 12, 13, 14, 15, 16, 17, 18, 19, 20, 21, 22, 23, 24, 25, 26, 27, 28, 29, 30, 31, 32, 33, 34, 35, 36, 37]] j) (fun hc => absurd rfl hc.1) (fun _ _ h => h))))) j ⟨hj, hn⟩
    ·intro val fl w' hfl hb halc hd
     obtain ⟨hk, _, _⟩ := hb;have e0 : val 0 = _ := hd 0 (by omega)
     have e1 : val 1 = _ := hd 1 (by omega)
     have e2 : val 2 = _ := hd 2 (by omega)
     have e3 : val 3 = _ := hd 3 (by omega)
     have e4 : val 4 = _ := hd 4 (by omega)
     have e5 : val 5 = _ := hd 5 (by omega)
     have e6 : val 6 = _ := hd 6 (by omega)
     have e7 : val 7 = _ := hd 7 (by omega)
     have e8 : val 8 = _ := hd 8 (by omega)
     have e9 : val 9 = _ := hd 9 (by omega)
     have e10 : val 10 = _ := hd 10 (by omega)
     have e11 : val 11 = _ := hd 11 (by omega)
     have e12 : val 12 = _ := hd 12 (by omega)
     have e13 : val 13 = _ := hd 13 (by omega)
     have e14 : val 14 = _ := hd 14 (by omega)
     have e15 : val 15 = _ := hd 15 (by omega)
     have e16 : val 16 = _ := hd 16 (by omega)
     have e17 : val 17 = _ := hd 17 (by omega)
     obtain ⟨ga18, e18, _, _⟩ := hd 18 (by omega)
     change val 18 = _ at e18;have e20 : val 20 = _ := hd 20 (by omega)
     have e21 : val 21 = _ := hd 21 (by omega)
     have e22 : val 22 = _ := hd 22 (by omega)
     have e23 : val 23 = _ := hd 23 (by omega)
     have e24 : val 24 = _ := hd 24 (by omega)
     have e25 : val 25 = _ := hd 25 (by omega)
     have e26 : val 26 = _ := hd 26 (by omega)
     have e27 : val 27 = _ := hd 27 (by omega)
     have e28 : val 28 = _ := hd 28 (by omega)
     have e29 : val 29 = _ := hd 29 (by omega)
     have e30 : val 30 = _ := hd 30 (by omega)
     have e31 : val 31 = _ := hd 31 (by omega)
     have e32 : val 32 = _ := hd 32 (by omega)
     obtain ⟨ga33, e33, _, _⟩ := hd 33 (by omega)
     change val 33 = _ at e33;have e35 : val 35 = _ := hd 35 (by omega)
     have hF2 : Fam w' w.heap.size 11 ft (fu (fu (fu (v2) (3 + 2 * i) (val 19)) (4 + 2 * i) (val 34)) 1 (.slice (some ⟨ga, 0, none⟩) (i + 1) ca)) (fu (fu (fu ((fX x.b v2 (i + 1) i k)) (3 + 2 * i) ((fX x.b v2 (i + 1) i k) (3 + 2 * i) ++ [.int .i64 (x.b (4 + 4 * i + k))])) (4 + 2 * i) ((fX x.b v2 (i + 1) i k) (4 + 2 * i) ++ [.int .i64 ((x.b (20 + 4 * i + k)).tmod 3)])) 1 (((fX x.b v2 (i + 1) i k) 1).set i (val 19))) := hd 36 (by omega)
     refine EL.ends (cs := [_, _, _, _, _, _, _, _, _, _, _, _, _, _, _, _, _, _, _, val 19, _, _, _, _, _, _, _, _, _, _, _, _, _, _, val 34, _, val 36]) ⟨e0, e1, e2, e3, e4, e5, e6, e7, e8, e9, e10, e11, e12, e13, e14, e15, e16, e17, e18, rfl, e20, e21, e22, e23, e24, e25, e26, e27, e28, e29, e30, e31, e32, e33, rfl, e35, rfl, trivial⟩ rfl ?_
     generalize val 19 = nv0 at hF2 ⊢
     generalize val 34 = nv1 at hF2 ⊢
     clear hF halc hd e0 e1 e2 e3 e4 e5 e6 e7 e8 e9 e10 e11 e12 e13 e14 e15 e16 e17 e18 e20 e21 e22 e23 e24 e25 e26 e27 e28 e29 e30 e31 e32 e33 e35;replace q1 := hk.blk _ _ _ q1 rfl;replace q2 := hk.blk _ _ _ q2 rfl;replace q3 := hk.blk _ _ _ q3 rfl;replace hbw := hbw.trans hk.below;clear hk hfl;refine EL.val (ix_25 rfl rfl (by omega)) rfl ?_
     have hw2 := hF2.own 2 (by omega)
     rw [fu_ne (by omega), fu_ne (by omega), fu_ne (by omega), fu_ne (by omega), fu_ne (by omega), fu_ne (by omega), fX_len2, hvb] at hw2
     change w'.ownsRow w.heap.size 22 1 _ _ _ at hw2;have hsv2 := own_sl (hF2.own (4 + 2 * i) (by omega))
     rw [fu_ne (by omega), fu_eq] at hsv2
     obtain ⟨As_, cs_, hsv2⟩ := hsv2;refine EL.storeRow (l' := [nv1]) rfl rfl hw2 sz_22 (by rw [hsv2]; rfl) rfl (by rw [fX_len2]; omega) (by rw [hsv2]; rfl) ?_
     intro ws2 hy2 hgs2;rw [spl_one _ _ _ (by rw [fX_len2]; omega), Nat.zero_add] at hy2
     have hF4 := Fam.turn (y := (fX x.b v2 (i + 1) i k 2).set i nv1) hF2 (show 2 < 11 by omega) (by rw [List.length_set, fX_len2]; exact hy2) (by rw [fu_ne (by omega), fu_ne (by omega), fu_ne (by omega), hvb]; exact hgs2) (.inl (by rw [fu_ne (by omega), fu_ne (by omega), fu_ne (by omega), hvb]))
     replace q1 := blk_grown q1 hw2 rfl hgs2;replace q2 := blk_grown q2 hw2 rfl hgs2;replace q3 := blk_grown q3 hw2 rfl hgs2;replace hbw := hbw.trans (Kp.own (S := [22]) hw2 rfl (Nat.le_refl _) hbw.size hgs2).below;clear hw2 hgs2 hy2 hF2;obtain ⟨v3, hz0, hz1, hz2, hnil3, hF⟩ : ∃ v3 : Nat → Value, v3 0 = v1 0 ∧ v3 1 = v1 1 ∧ v3 2 = v1 2 ∧ (∀ r, i + 1 ≤ r → v3 (3 + 2 * r) = .slice none 0 0 ∧ v3 (4 + 2 * r) = .slice none 0 0) ∧ Fam ws2 w.heap.size 11 ft v3 (fX x.b v3 (i + 1) i (k + 1)) := ⟨fu (fu v2 (3 + 2 * i) nv0) (4 + 2 * i) nv1, by rw [fu_ne (by omega), fu_ne (by omega)]; exact hs0, by rw [fu_ne (by omega), fu_ne (by omega)]; exact hs1, by rw [fu_ne (by omega), fu_ne (by omega)]; exact hs2, fun r hr => by rw [fu_ne (by omega), fu_ne (by omega), fu_ne (by omega), fu_ne (by omega)]; exact hnil2 r hr, (hF4.val (fun j _ => fu_back hva hvb j)).same fun j _ => fX_num (Nat.lt_succ_self i) hlk j⟩
     clear hF4;refine EL.nil (EX.blk (EX.seq (EC.region (EL.mv rfl rfl ?_))));refine EL.val (x_add rfl rfl (c := ((k + 1 : Nat) : Int)) ((IntWalk.i64_in _ ⟨by first | omega | (simp only; omega), by first | omega | (simp only; omega)⟩).trans (by first | omega | (simp only; omega)))) rfl ?_
     refine EL.as rfl rfl (EL.nil ?_);refine EX.roundD (k + 1, v3) ⟨rfl, trivial⟩ (by repeat first | with_reducible exact .refl _ | refine sp_ rfl ?_ | exact .refl _ | refine sd_ rfl ?_ | refine sn_ ?_) ⟨hlk, ⟨hz0, hz1, hz2⟩, hnil3, hF, q1, q2, (by rw [← hs1, ← hs2, hva, hvb]; exact q3), hbw⟩ (by simp only; omega)
   ·
    obtain rfl : k = 4 := by omega
    rw [← hs0, ← hs1, ← hs2] at q3;replace hF := hF.same fun j _ => fX_end x.b v2 (i + 1) i j
    refine EC.seq (EC.seq (EC.region (EL.mv rfl rfl ?_)));refine EL.val (x_lss rfl rfl (decide_eq_false (show ¬(((4 : Nat) : Int) < ((4 : Nat) : Int)) by omega))) rfl ?_
    refine EL.nil (EX.seq (EC.no rfl (EC.exit (EX.seq_exit (EX.seq_exit (EX.blk_here (EX.blk (EX.seq (EC.region ?_)))))))));refine EL.mv rfl rfl ?_;refine EL.val (x_add rfl rfl (c := ((i + 1 : Nat) : Int)) ((IntWalk.i64_in _ ⟨by first | omega | (simp only; omega), by first | omega | (simp only; omega)⟩).trans (by first | omega | (simp only; omega)))) rfl ?_
    refine EL.as rfl rfl (EL.nil ?_);refine EX.roundD (i + 1, v2) ⟨rfl, trivial⟩ (by repeat first | with_reducible exact .refl _ | refine sp_ rfl ?_ | exact .refl _ | refine sd_ rfl ?_ | refine sn_ ?_) ⟨hlt, hnil2, hF, q1, q2, q3, hbw⟩ (by simp only; omega)
 ·
  obtain rfl : i = 4 := by omega
  refine EC.seq (EC.seq (EC.region (EL.mv rfl rfl ?_)));refine EL.val (x_lss rfl rfl (decide_eq_false (show ¬(((4 : Nat) : Int) < ((4 : Nat) : Int)) by omega))) rfl ?_
  refine EL.nil (EX.seq (EC.no rfl (EC.exit (EX.seq_exit (EX.seq_exit (EX.blk_here (EX.seq (EC.seq (EC.seq ?_)))))))));refine EC.region (EL.as rfl rfl (EL.nil (EX.seq (EC.block ?_))));refine EC.loopD [6, 7, 99, 100, 101, 102, 103, 104, 105, 106, 107, 108, 109, 110, 111, 112, 113, 114, 115, 116, 117, 118, 119, 120, 121, 122, 123, 124, 125, 126, 127, 128, 129, 130, 131, 132, 133, 134, 135, 136, 137, 138, 139, 140, 141, 142] (fun x_ : Nat × Value => [(6, .int .i64 (x_.1 : Nat))]) (fun x_ W => (x_.1 ≤ x.kinds.length ∧ x_.1 ≤ 4) ∧ W.ownsRow w.heap.size 52 5 x_.2 x_.1 (kdsC ((x.kinds.take x_.1).map smKd)) ∧ Fam W w.heap.size 11 ft v (fX x.b v 4 4 0) ∧ Blk W g1 78 (smC x.b (.slice Ak x.kinds.length ck) ves).toArray ∧ Blk W g2 28 #[.slice none 0 0, .int .i64 0, .int .i64 0, .slice none 0 0, .slice none 0 0, .slice none 0 0] ∧ Blk W g3 28 #[v 0, .int .i64 ((min (x.b 36) (x.b 37)).tmod 40), .int .i64 (((min (x.b 36) (x.b 37)).tmod 40) + (max (x.b 36) (x.b 37)).tmod 20), v 1, v 2, x_.2] ∧ Below w.heap.size w W) (fun x_ => x.kinds.length - x_.1) (0, .slice none 0 0) ⟨⟨Nat.zero_le _, Nat.zero_le _⟩, World.ownsRow_nil _ _ _ _, hF, q1, q2, q3, hbw⟩ ⟨rfl, trivial⟩ ?_
  clear hF q1 q2 q3 hbw hnil
  rintro ⟨i, vk⟩ wx ⟨⟨hi1, hi2⟩, hO, hF, q1, q2, q3, hbw⟩
  dsimp only at hi1 hi2 hO
  by_cases hlt : i < x.kinds.length
  ·
   by_cases hlm : i < 4
   ·
    obtain ⟨bx, ox, ebx, _, x0, x1, x2⟩ := k3s_cells x.kinds i hlt wx B _ _ _ (hkr.below (hbw.mono hB));obtain ⟨hy0, hy1, hy2⟩ := hok.k _ (getD_mem hlt (0, 0, 0));have hm1 := byte_rem hy1 (m := 40) (by omega)
    have hy0_ := hy0;have hy2_ := hy2
    unfold byte at hy0_ hy2_
    refine EC.seq (EC.seq (EC.region (EL.mv rfl rfl (EL.val (fa_78_4 rfl) rfl (EL.val (ld_75 rfl (q1.cellA (smC_k _ _ _))) rfl (EL.val (ln_75 rfl) rfl ?_))))));refine EL.val (x_lss rfl rfl (decide_eq_true (show (((i : Nat) : Int) < ((x.kinds.length : Nat) : Int)) by omega))) rfl ?_
    refine EL.mv rfl rfl (EL.mg rfl rfl rfl rfl ?_);refine EL.valg rfl rfl (x_lss rfl rfl (decide_eq_true (show (((i : Nat) : Int) < ((4 : Nat) : Int)) by omega))) rfl ?_
    refine EL.pt rfl rfl rfl (EL.nil (EX.seq (EC.yes rfl (EC.skip (EX.seq (EC.seq (EC.block (EC.seq (EC.region ?_)))))))));refine EL.val (fa_78_4 rfl) rfl (EL.val (ld_75 rfl (q1.cellA (smC_k _ _ _))) rfl (EL.mv rfl rfl ?_));refine EL.val (ix_75 (by show some (Value.slice Ak _ _) = _; rw [ebx]) rfl hlt) rfl ?_
    refine EL.val (ld_140 rfl x0 x1 x2) rfl (EL.newP al_140 rfl ?_);intro g9 w9 q9 hb9 hg9 hl9;have n1_9 := q1.na hg9;have n2_9 := q2.na hg9;have n3_9 := q3.na hg9;have bhbw_9 := Nat.le_trans hbw.size hg9;replace q1 := q1.bl hb9;replace q2 := q2.bl hb9;replace q3 := q3.bl hb9;replace hF := hF.below hb9;replace hO := own_below hO hb9 (Nat.le_refl _);replace hbw := bo_ hbw hb9;clear hb9 hg9 hl9;refine EL.store rfl rfl q9 sz_140 rfl rfl rfl rfl ?_;intro w10 hq10 hg10;replace q1 := q1.gr hg10 n1_9;replace q2 := q2.gr hg10 n2_9;replace q3 := q3.gr hg10 n3_9;replace hF := hF.box q9 (fun _ _ => ft_box rfl rfl _) hg10
    replace hO := own_type hO q9 rfl hg10;replace hbw := below_store hbw hg10 bhbw_9;replace q9 := hq10;clear hg10 hq10;refine EL.nil (EX.seq (EC.region (EL.val (fa_28_4 rfl) rfl (EL.val (ld_26 rfl (q3.at (j := 5) rfl)) rfl ?_))));refine EL.val (ixa_140 (k := 0) rfl rfl (by omega)) rfl ?_
    refine EL.val (ld_5 rfl (q9.at (j := 0) rfl)) rfl (EL.val (cv_5_3 rfl (wrap_byte hy0)) rfl ?_);refine EL.val (ixa_140 (k := 0) rfl rfl (by omega)) rfl ?_
    refine EL.val (ld_5 rfl (q9.at (j := 0) rfl)) rfl (EL.val (cv_5_3 rfl (wrap_byte hy0)) rfl ?_);refine EL.val (ixa_140 (k := 1) rfl rfl (by omega)) rfl ?_
    refine EL.val (ld_5 rfl (q9.at (j := 1) rfl)) rfl (EL.val (cv_5_3 rfl (wrap_byte hy1)) rfl ?_);refine EL.val (x_rem rfl rfl (by decide) rfl) rfl ?_
    refine EL.val (x_add rfl rfl (IntWalk.i64_in _ ⟨by omega, by omega⟩)) rfl ?_
    refine EL.val (bd_24_0_1 rfl rfl) rfl ?_;refine EL.val (ixa_140 (k := 1) rfl rfl (by omega)) rfl ?_
    refine EL.val (ld_5 rfl (q9.at (j := 1) rfl)) rfl (EL.val (cv_5_3 rfl (wrap_byte hy1)) rfl ?_);refine EL.val (ixa_140 (k := 2) rfl rfl (by omega)) rfl ?_
    refine EL.val (ld_5 rfl (q9.at (j := 2) rfl)) rfl (EL.val (cv_5_3 rfl (wrap_byte hy2)) rfl ?_);refine EL.val (ixa_140 (k := 2) rfl rfl (by omega)) rfl ?_
    refine EL.val (ld_5 rfl (q9.at (j := 2) rfl)) rfl (EL.val (cv_5_3 rfl (wrap_byte hy2)) rfl ?_);refine EL.val (x_mul rfl rfl (IntWalk.i64_in _ ⟨by omega, by omega⟩)) rfl ?_
    refine EL.val (bd_52_0_1_2_3 rfl rfl rfl rfl) rfl (EL.newS (bs_26_1 rfl) rfl ?_);intro g11 w11 q11 hb11 hg11 hl11;have n1_11 := q1.na hg11;have n2_11 := q2.na hg11;have n3_11 := q3.na hg11;have n9_11 := q9.na hg11;have bhbw_11 := Nat.le_trans hbw.size hg11;replace q1 := q1.bl hb11;replace q2 := q2.bl hb11;replace q3 := q3.bl hb11;replace q9 := q9.bl hb11;replace hF := hF.below hb11;replace hO := own_below hO hb11 (Nat.le_refl _);replace hbw := bo_ hbw hb11;clear hb11 hg11 hl11;refine EL.push kd_elem rfl rfl hO (rd_one (l := kdC (smKd (x.kinds.getD i (0, 0, 0)))) q11 rfl) (kdsC_one [smKd (x.kinds.getD i (0, 0, 0))]) (by omega) rfl hbw.size rfl ?_
    intro v9 w9 ho9 hgr hb_ hat;replace hbw := hbw.trans hb_;replace hF := hF.pushed hO (fun _ _ => ft_box rfl rfl _) hgr
    replace q1 := blk_grown q1 hO rfl hgr;replace q2 := blk_grown q2 hO rfl hgr;replace q3 := blk_grown q3 hO rfl hgr;replace q9 := blk_grown q9 hO rfl hgr;clear hO hgr hb_ hat;obtain ⟨A9, c9, rfl, _⟩ := (Rd.of_own ho9).shape;refine EL.val (fa_28_4 rfl) rfl (EL.store rfl rfl q3 sz_26 rfl rfl rfl rfl ?_);intro w12 hq12 hg12;replace q1 := q1.gr hg12 n1_3;replace q2 := q2.gr hg12 n2_3;replace q9 := q9.gr hg12 n3_9.symm;replace hF := hF.box q3 (fun _ _ => ft_box rfl rfl _) hg12
    replace ho9 := own_type ho9 q3 rfl hg12;replace hbw := below_store hbw hg12 bhbw_3;replace q3 := hq12;clear hg12 hq12;refine EL.nil (EX.blk (EX.seq (EC.region (EL.mv rfl rfl ?_))));refine EL.val (x_add rfl rfl (c := ((i + 1 : Nat) : Int)) ((IntWalk.i64_in _ ⟨by first | omega | (simp only; omega), by first | omega | (simp only; omega)⟩).trans (by first | omega | (simp only; omega)))) rfl ?_
    refine EL.as rfl rfl (EL.nil ?_);refine EX.roundD (i + 1, .slice A9 (i + 1) c9) ⟨rfl, trivial⟩ (by repeat first | with_reducible exact .refl _ | refine sp_ rfl ?_ | exact .refl _ | refine sd_ rfl ?_ | refine sn_ ?_) ⟨⟨hlt, hlm⟩, by simp only; rw [take_map_succ _ _ (0, 0, 0) hlt, kdsC_app]; exact ho9, hF, q1, q2, q3, hbw⟩ (by simp only; omega)
   ·
    have hxe : i = min x.kinds.length 4 := by omega
    obtain ⟨A0_, c0_, hsh0⟩ := own_sl (hF.own 0 (by omega))
    obtain ⟨A1_, c1_, hsh1⟩ := own_sl (hF.own 1 (by omega))
    obtain ⟨A2_, c2_, hsh2⟩ := own_sl (hF.own 2 (by omega))
    obtain ⟨A9, c9, rfl, _⟩ := (Rd.of_own hO).shape;rw [hsh0, hsh1, hsh2] at q3;refine EC.seq (EC.seq (EC.region (EL.mv rfl rfl (EL.val (fa_78_4 rfl) rfl (EL.val (ld_75 rfl (q1.cellA (smC_k _ _ _))) rfl (EL.val (ln_75 rfl) rfl ?_))))));refine EL.val (x_lss rfl rfl (decide_eq_true (show (((i : Nat) : Int) < ((x.kinds.length : Nat) : Int)) by omega))) rfl ?_
    refine EL.mv rfl rfl (EL.mg rfl rfl rfl rfl ?_);refine EL.valg rfl rfl (x_lss rfl rfl (decide_eq_false (show ¬(((i : Nat) : Int) < ((4 : Nat) : Int)) by omega))) rfl ?_
    refine EL.pt rfl rfl rfl (EL.nil (EX.seq (EC.no rfl (EC.exit (EX.seq_exit (EX.seq_exit (EX.blk_here (EX.seq (EC.seq ?_)))))))));refine EC.region (EL.val (ld_28 rfl (q3.at (j := 0) rfl) (q3.at (j := 1) rfl) (q3.at (j := 2) rfl) (q3.at (j := 3) rfl) (q3.at (j := 4) rfl) (q3.at (j := 5) rfl)) rfl (EL.store rfl rfl q2 sz_28 rfl rfl rfl rfl ?_));intro w13 hq13 hg13;replace q1 := q1.gr hg13 n1_2;replace q3 := q3.gr hg13 n2_3.symm;replace hF := hF.box q2 (fun _ _ => ft_box rfl rfl _) hg13
    replace hO := own_type hO q2 rfl hg13;replace hbw := below_store hbw hg13 bhbw_2;replace q2 := hq13;clear hg13 hq13;refine EL.nil (EX.seq (EC.ret ?_))
    exact EX.done (resc1 rfl rfl (lv_28 (q2.at (j := 0) rfl) (q2.at (j := 1) rfl) (q2.at (j := 2) rfl) (q2.at (j := 3) rfl) (q2.at (j := 4) rfl) (q2.at (j := 5) rfl))) ⟨⟨_, _, _, _, _, _, rfl, by rw [← hsh0, ← hsh1, ← hsh2]; exact (rules_end hxe hF hO).2⟩, hbw⟩
  ·
   have hxe : i = min x.kinds.length 4 := by omega
   obtain ⟨A0_, c0_, hsh0⟩ := own_sl (hF.own 0 (by omega))
   obtain ⟨A1_, c1_, hsh1⟩ := own_sl (hF.own 1 (by omega))
   obtain ⟨A2_, c2_, hsh2⟩ := own_sl (hF.own 2 (by omega))
   obtain ⟨A9, c9, rfl, _⟩ := (Rd.of_own hO).shape;rw [hsh0, hsh1, hsh2] at q3;refine EC.seq (EC.seq (EC.region (EL.mv rfl rfl (EL.val (fa_78_4 rfl) rfl (EL.val (ld_75 rfl (q1.cellA (smC_k _ _ _))) rfl (EL.val (ln_75 rfl) rfl ?_))))));refine EL.val (x_lss rfl rfl (decide_eq_false (show ¬(((i : Nat) : Int) < ((x.kinds.length : Nat) : Int)) by omega))) rfl ?_
   refine EL.mv rfl rfl (EL.skip rfl rfl rfl rfl (EL.skip rfl rfl rfl rfl (EL.pf rfl rfl rfl (EL.nil (EX.seq (EC.no rfl (EC.exit (EX.seq_exit (EX.seq_exit ?_)))))))));refine EX.blk_here (EX.seq (EC.seq (EC.region (EL.val (ld_28 rfl (q3.at (j := 0) rfl) (q3.at (j := 1) rfl) (q3.at (j := 2) rfl) (q3.at (j := 3) rfl) (q3.at (j := 4) rfl) (q3.at (j := 5) rfl)) rfl (EL.store rfl rfl q2 sz_28 rfl rfl rfl rfl ?_)))));intro w14 hq14 hg14;replace q1 := q1.gr hg14 n1_2;replace q3 := q3.gr hg14 n2_3.symm;replace hF := hF.box q2 (fun _ _ => ft_box rfl rfl _) hg14
   replace hO := own_type hO q2 rfl hg14;replace hbw := below_store hbw hg14 bhbw_2;replace q2 := hq14;clear hg14 hq14;refine EL.nil (EX.seq (EC.ret ?_))
   exact EX.done (resc1 rfl rfl (lv_28 (q2.at (j := 0) rfl) (q2.at (j := 1) rfl) (q2.at (j := 2) rfl) (q2.at (j := 3) rfl) (q2.at (j := 4) rfl) (q2.at (j := 5) rfl))) ⟨⟨_, _, _, _, _, _, rfl, by rw [← hsh0, ← hsh1, ← hsh2]; exact (rules_end hxe hF hO).2⟩, hbw⟩
end Go.Proofs.Ytdkedhcbdbpccaa
namespace Go.Proofs.Ytdkedhcbdbpccaa
open Go Go.ChangeShapes Go.WideShapes Go.Deep Go.RowKit Go.Joins
theorem cell_spot {w : World} {x : Addr} {u : Value} (h : w.cell? x = some u) : x.spot = none ∧ x.block < w.heap.size := by
 unfold World.cell? at h
 split at h
 ·rename_i c e f hg
  split at h
  ·cases h
  ·rename_i hs
   refine ⟨by simpa using hs, ?_⟩
   rcases Nat.lt_or_ge x.block w.heap.size with hlt | hge
   ·exact hlt
   ·rw [Array.getElem?_eq_none hge] at hg; cases hg
 ·cases h
section
variable {H : Type} {enc : TypeId × Value → H} {P : Program} {w : World} {base : Nat} {spare : Nat → Bool} {held : Bool}
/-- rows of cells, one behind the other -/
theorem rd_of_cells {b off n c s : Nat} {B : Nat} (row : Nat → List Value) (hlen : ∀ i, (row i).length = s) (hs : 0 < s) (hB : b < B) (hnc : n ≤ c)
  (hcell : ∀ i, i < n → ∀ j u, (row i)[j]? = some u → w.cell? ⟨b, off + (i * s + j), none⟩ = some u) :
  Rd w B s (.slice (some ⟨b, off, none⟩) n c) n ((List.range n).flatMap row) := by
 refine ⟨by rw [flat_len hlen, List.length_range], _, _, rfl, hnc, fun _ => ⟨b, off, rfl, hB, fun q u hu => ?_⟩⟩
 have hq : q < n * s := by
  have := (List.getElem?_eq_some_iff.1 hu).1
  rwa [flat_len hlen, List.length_range] at this
 have hk : q / s < n := by
  rw [Nat.div_lt_iff_lt_mul hs]
  exact hq
 have e : q = q / s * s + q % s := by rw [Nat.mul_comm]; exact (Nat.div_add_mod q s).symm
 have hg := flat_get hlen (List.range n) (q / s) (by simpa using hk) (q % s) (Nat.mod_lt _ hs)
 rw [← e, List.getElem_range] at hg;rw [hg] at hu;have := hcell (q / s) hk (q % s) u hu
 rwa [← e] at this
theorem add_lit_more (x : Addr) (n : Nat) (h : x.spot = none) : x.add n = ⟨x.block, x.off + n, none⟩ := by
 obtain ⟨b, o, s⟩ := x;subst h;rw [Addr.add_lit]
/-- a slice, opened to its elements -/
theorem rd_list {α : Type} [Inhabited α] {f : α → List Value} {s : Nat} {Good : α → Prop} (hf : ∀ x, (f x).length = s) (hs : 0 < s) {t e : TypeId} {fuel : Nat} {v : Value} {x : DataW H × List MemPlace} (ht : P.underlying t = some (.slice e)) (hC : P.cellsOf e = s)
  (hE : ∀ (fuel : Nat) (cs : List Value) (x : DataW H × List MemPlace), cs.length = s → DataW.trod enc P w base spare held fuel e cs = some x → ∃ y : α, cs = f y ∧ Good y) (h : DataW.trod enc P w base spare held fuel t [v] = some x) :
  ∃ l : List α, Rd w w.heap.size s v l.length (l.flatMap f) ∧ (∀ y ∈ l, Good y) ∧ l.length ≤ maxLen := by
 rcases open_slice ht h with ⟨hcs, _⟩ | ⟨a, len, cap, m, n, D, Pl, hcs, _, hl, hcap, hm, _, hi⟩
 ·injection hcs with hcs
  subst hcs
  exact ⟨[], Rd.nil_ _ _ _, by simp, Nat.zero_le _⟩
 ·injection hcs with hcs
  subst hcs;have hcell : ∀ i, i < len → ∃ y : α, (∀ j u, (f y)[j]? = some u → w.cell? (a.add (i * s + j)) = some u) ∧ Good y := by
   intro i hi';obtain ⟨cs', hc, ht'⟩ := hi i (by rw [hm]; split <;> omega)
   rw [hC] at hc;obtain ⟨_, hcl, hat⟩ := World.cells?_some hc;obtain ⟨y, hy, hg⟩ := hE _ cs' _ hcl ht';subst hy;refine ⟨y, fun j u hu => ?_, hg⟩
   have hj : j < s := by
    have := (List.getElem?_eq_some_iff.1 hu).1
    rwa [hf] at this
   have h1 := hat j hj;rw [Go.Deep.add_add] at h1;rw [h1, hu]
  let pick : Nat → α := fun i => if h : i < len then Classical.choose (hcell i h) else default
  have hpick : ∀ i, (h : i < len) → (∀ j u, (f (pick i))[j]? = some u → w.cell? (a.add (i * s + j)) = some u) ∧ Good (pick i) := fun i h => by
   have := Classical.choose_spec (hcell i h)
   simp only [pick, dif_pos h]
   exact this
  refine ⟨(List.range len).map pick, ?_, ?_, by simp; omega⟩
  ·rw [List.length_map, List.length_range]
   rcases Nat.eq_zero_or_pos len with hz | hz
   ·subst hz
    exact ⟨by simp, _, _, rfl, hl, fun h => absurd h (by omega)⟩
   ·have h0 := (hpick 0 hz).1 0 _ (List.getElem?_eq_getElem (by rw [hf]; exact hs))
    obtain ⟨hsp, hb⟩ := cell_spot h0;have e0 : a.add (0 * s + 0) = a := by simp [Addr.add]
    rw [e0] at hsp hb;have hx : a = ⟨a.block, a.off, none⟩ := by obtain ⟨b, o, s⟩ := a; subst hsp; rfl
    rw [hx, List.flatMap_map];refine rd_of_cells _ (fun i => hf _) hs hb hl fun i hi' j u hu => ?_
    have h1 := (hpick i hi').1 j u hu;rw [add_lit_more a _ hsp] at h1
    exact h1
  ·intro y hy
   obtain ⟨i, hi', rfl⟩ := List.mem_map.1 hy
   exact (hpick i (by simpa using hi')).2
theorem fld_of {fs : Array Field} {n : Nat} {cs : List Value} {ys : List (DataW H × List MemPlace)} (hf : ∀ (i : Nat) (f : Field), fs[i]? = some f → DataW.trod enc P w base spare held n f.type ((cs.drop f.offset).take (P.cellsOf f.type)) = ys[i]?)
  {j ft off z : Nat} {f : Field} (hj : fs[j]? = some f) (h1 : f.type = ft) (h2 : f.offset = off) (h3 : P.cellsOf ft = z) : DataW.trod enc P w base spare held n ft ((cs.drop off).take z) = ys[j]? := by
 subst h1 h2 h3
 exact hf j f hj
end
section
variable {H : Type} {enc : TypeId × Value → H} {w : World} {base : Nat} {spare : Nat → Bool} {held : Bool}
theorem co_5 : Try.prog.cellsOf 5 = 1 := by kernel_rfl
theorem co_74 : Try.prog.cellsOf 74 = 2 := by kernel_rfl
theorem co_140 : Try.prog.cellsOf 140 = 3 := by kernel_rfl
theorem co_72 : Try.prog.cellsOf 72 = 4 := by kernel_rfl
theorem co_73 : Try.prog.cellsOf 73 = 16 := by kernel_rfl
theorem co_76 : Try.prog.cellsOf 76 = 1 := by kernel_rfl
theorem co_75 : Try.prog.cellsOf 75 = 1 := by kernel_rfl
theorem co_78 : Try.prog.cellsOf 78 = 40 := by kernel_rfl
theorem cells_len_78 {fuel : Nat} {v : Value} {x : DataW H × List MemPlace} (h : DataW.trod enc Try.prog w base spare held fuel 78 v.cells.toList = some x) : v.cells.toList.length = 40 := by
 obtain ⟨_, _, _, _, hlen, _, _⟩ := DataW.trod_struct Try.underlying78 h;rw [hlen]
 exact co_78
theorem wf_u8 {n : Int} (h : (Lit.int .u8 n).wf = true) : byte n := by
 simp [Lit.wf, IntKind.min, IntKind.max, IntKind.signed, IntKind.bits] at h
 unfold byte
 omega
theorem flat_u8s : ∀ l : List Int, l.flatMap (fun x => [Value.int .u8 x]) = u8s l
 | [] => rfl
 | x :: l => by
  have := flat_u8s l
  simp only [u8s, List.flatMap_cons, List.map_cons, List.singleton_append] at this ⊢
  rw [this]
theorem byte_of {fuel : Nat} {u : Value} {x : DataW H × List MemPlace} (h : DataW.trod enc Try.prog w base spare held fuel 5 [u] = some x) : ∃ z, u = .int .u8 z ∧ byte z := by
 obtain ⟨z, hz, _, wf⟩ := DataW.trod_int Try.underlying5 h
 injection hz with hz
 exact ⟨z, hz, wf_u8 wf⟩
theorem rd_u8s {fuel : Nat} {v : Value} {x : DataW H × List MemPlace} (h : DataW.trod enc Try.prog w base spare held fuel 79 [v] = some x) : ∃ l : List Int, Rd w w.heap.size 1 v l.length (u8s l) ∧ (∀ i, i < l.length → byte (l.getD i 0)) ∧ l.length ≤ maxLen := by
 obtain ⟨l, h1, h3, h2⟩ := rd_list (α := Int) (s := 1) (f := fun x => [Value.int .u8 x]) (Good := byte) (fun _ => rfl) (by omega) Try.underlying79 co_5 (fun _ cs _ hl ht => by
  match cs, hl with
  | [u], _ =>
   obtain ⟨z, hz, wf⟩ := byte_of ht;subst hz
   exact ⟨z, rfl, wf⟩) h
 rw [flat_u8s] at h1
 exact ⟨l, h1, fun i hi => h3 _ (getD_mem hi 0), h2⟩
/-- an array of bytes -/
theorem arr_u8 {fuel n t : Nat} {cs : List Value} {x : DataW H × List MemPlace} (ht : Try.prog.underlying t = some (.array n 5)) (hc : Try.prog.cellsOf t = n) (h : DataW.trod enc Try.prog w base spare held fuel t cs = some x) : cs.length = n ∧ ∀ i, i < n → ∃ z, cs[i]? = some (.int .u8 z) ∧ byte z := by
 obtain ⟨xs, m, _, _, hl, hx, hi⟩ := DataW.trod_array ht h;rw [hc] at hl;refine ⟨hl, fun i hi' => ?_⟩
 have h1 := hi i hi';rw [co_5, Nat.mul_one] at h1;have hlt : i < cs.length := by omega
 have e : (cs.drop i).take 1 = [cs[i]] := by rw [List.drop_eq_getElem_cons hlt]; rfl
 rw [e, List.getElem?_eq_getElem (by omega)] at h1
 obtain ⟨z, hz, wf⟩ := byte_of h1
 exact ⟨z, by rw [List.getElem?_eq_getElem hlt, hz], wf⟩
theorem arr_arr {fuel : Nat} {cs : List Value} {x : DataW H × List MemPlace} (h : DataW.trod enc Try.prog w base spare held fuel 73 cs = some x) : ∀ j, j < 16 → ∃ z, cs[j]? = some (.int .u8 z) ∧ byte z := by
 obtain ⟨xs, m, _, _, hl, hx, hi⟩ := DataW.trod_array Try.underlying73 h;intro j hj;have h1 := hi (j / 4) (by omega)
 rw [co_72, List.getElem?_eq_getElem (by omega)] at h1
 obtain ⟨z, hz, hb⟩ := (arr_u8 Try.underlying72 co_72 h1).2 (j % 4) (by omega)
 refine ⟨z, ?_, hb⟩;rw [List.getElem?_take, if_pos (by omega), List.getElem?_drop] at hz
 rw [← hz]
 congr 1
 omega
theorem two_of {fuel : Nat} {cs : List Value} {x : DataW H × List MemPlace} (h : DataW.trod enc Try.prog w base spare held fuel 74 cs = some x) : ∃ p : Int × Int, cs = e2C p ∧ (byte p.1 ∧ byte p.2) := by
 obtain ⟨hl, hi⟩ := arr_u8 Try.underlying74 co_74 h;obtain ⟨a, ha, ba⟩ := hi 0 (by omega)
 obtain ⟨b, hb, bb⟩ := hi 1 (by omega)
 match cs, hl, ha, hb with
 | [u, v], _, ha, hb =>
  simp at ha hb
  subst ha hb
  exact ⟨(a, b), rfl, ba, bb⟩
theorem three_of {fuel : Nat} {cs : List Value} {x : DataW H × List MemPlace} (h : DataW.trod enc Try.prog w base spare held fuel 140 cs = some x) : ∃ p : Int × Int × Int, cs = k3C p ∧ (byte p.1 ∧ byte p.2.1 ∧ byte p.2.2) := by
 obtain ⟨hl, hi⟩ := arr_u8 Try.underlying140 co_140 h;obtain ⟨a, ha, ba⟩ := hi 0 (by omega)
 obtain ⟨b, hb, bb⟩ := hi 1 (by omega)
 obtain ⟨c, hc, bc⟩ := hi 2 (by omega)
 match cs, hl, ha, hb, hc with
 | [u, v, y], _, ha, hb, hc =>
  simp at ha hb hc
  subst ha hb hc
  exact ⟨(a, b, c), rfl, ba, bb, bc⟩
theorem rd_e2s {fuel : Nat} {v : Value} {x : DataW H × List MemPlace} (h : DataW.trod enc Try.prog w base spare held fuel 76 [v] = some x) : ∃ l : List (Int × Int), Rd w w.heap.size 2 v l.length (e2s l) ∧ (∀ p ∈ l, byte p.1 ∧ byte p.2) ∧ l.length ≤ maxLen := by
 obtain ⟨l, h1, h3, h2⟩ := rd_list (α := Int × Int) (s := 2) (f := e2C) (Good := fun p => byte p.1 ∧ byte p.2) (fun _ => rfl) (by omega) Try.underlying76 co_74 (fun _ cs _ hl ht => two_of ht) h
 exact ⟨l, h1, h3, h2⟩
theorem rd_k3s {fuel : Nat} {v : Value} {x : DataW H × List MemPlace} (h : DataW.trod enc Try.prog w base spare held fuel 75 [v] = some x) : ∃ l : List (Int × Int × Int), Rd w w.heap.size 3 v l.length (k3s l) ∧ (∀ p ∈ l, byte p.1 ∧ byte p.2.1 ∧ byte p.2.2) ∧ l.length ≤ maxLen := by
 obtain ⟨l, h1, h3, h2⟩ := rd_list (α := Int × Int × Int) (s := 3) (f := k3C) (Good := fun p => byte p.1 ∧ byte p.2.1 ∧ byte p.2.2) (fun _ => rfl) (by omega) Try.underlying75 co_140 (fun _ cs _ hl ht => three_of ht) h
 exact ⟨l, h1, h3, h2⟩
theorem small_of {v : Value} {d : DataW H} {p : List MemPlace} (h : DataW.Trod enc Try.prog w base spare held 78 v d p) : ∃ (x : Sml) (vks ves : Value), v = .agg (smC x.b vks ves).toArray ∧ SmlOk x ∧ Rd w w.heap.size 3 vks x.kinds.length (k3s x.kinds) ∧ Rd w w.heap.size 2 ves x.events.length (e2s x.events) ∧ x.kinds.length ≤ maxLen ∧ x.events.length ≤ maxLen := by
 obtain ⟨fuel, hf⟩ := h;have hlen := cells_len_78 hf;obtain ⟨ys, n, _, _, _, hyl, hF⟩ := DataW.trod_struct Try.underlying78 hf
 generalize hcs : v.cells.toList = cs at hF hlen
 have hy : ∀ j, j < 6 → ys[j]? = some (ys.getD j (.nil, [])) := fun j hj => by
  have : j < ys.length := by rw [hyl]; exact hj
  simp [this]
 have q0 : DataW.trod enc Try.prog w base spare held n 72 ((cs.drop 0).take 4) = ys[0]? := fld_of hF (j := 0) rfl rfl rfl co_72;have q1 : DataW.trod enc Try.prog w base spare held n 73 ((cs.drop 4).take 16) = ys[1]? := fld_of hF (j := 1) rfl rfl rfl co_73;have q2 : DataW.trod enc Try.prog w base spare held n 73 ((cs.drop 20).take 16) = ys[2]? := fld_of hF (j := 2) rfl rfl rfl co_73;have q3 : DataW.trod enc Try.prog w base spare held n 74 ((cs.drop 36).take 2) = ys[3]? := fld_of hF (j := 3) rfl rfl rfl co_74;have q4 : DataW.trod enc Try.prog w base spare held n 75 ((cs.drop 38).take 1) = ys[4]? := fld_of hF (j := 4) rfl rfl rfl co_75;have q5 : DataW.trod enc Try.prog w base spare held n 76 ((cs.drop 39).take 1) = ys[5]? := fld_of hF (j := 5) rfl rfl rfl co_76;rw [hy _ (by omega)] at q0 q1 q2 q3 q4 q5
 have hb : ∀ j, j < 38 → ∃ z, cs[j]? = some (.int .u8 z) ∧ byte z := fun j hj => by
  rcases (by omega : j < 4 ∨ (4 ≤ j ∧ j < 20) ∨ (20 ≤ j ∧ j < 36) ∨ 36 ≤ j) with h0 | h0 | h0 | h0
  ·obtain ⟨z, hz, b⟩ := (arr_u8 Try.underlying72 co_72 q0).2 j h0
   rw [List.getElem?_take, if_pos h0, List.getElem?_drop, Nat.zero_add] at hz
   exact ⟨z, hz, b⟩
  ·obtain ⟨z, hz, b⟩ := arr_arr q1 (j - 4) (by omega)
   rw [List.getElem?_take, if_pos (by omega), List.getElem?_drop, show 4 + (j - 4) = j by omega] at hz
   exact ⟨z, hz, b⟩
  ·obtain ⟨z, hz, b⟩ := arr_arr q2 (j - 20) (by omega)
   rw [List.getElem?_take, if_pos (by omega), List.getElem?_drop, show 20 + (j - 20) = j by omega] at hz
   exact ⟨z, hz, b⟩
  ·obtain ⟨z, hz, b⟩ := (arr_u8 Try.underlying74 co_74 q3).2 (j - 36) (by omega)
   rw [List.getElem?_take, if_pos (by omega), List.getElem?_drop, show 36 + (j - 36) = j by omega] at hz
   exact ⟨z, hz, b⟩
 have e38 : (cs.drop 38).take 1 = [cs.getD 38 undef] := by rw [List.drop_eq_getElem_cons (by omega), getD_in (by omega)]; rfl
 have e39 : (cs.drop 39).take 1 = [cs.getD 39 undef] := by rw [List.drop_eq_getElem_cons (by omega), getD_in (by omega)]; rfl
 rw [e38] at q4;rw [e39] at q5;obtain ⟨ks, k1, k2, k3⟩ := rd_k3s q4;obtain ⟨es, e1, e2, e3⟩ := rd_e2s q5
 let b : Nat → Int := fun j => if h : j < 38 then Classical.choose (hb j h) else 0
 have hbs : ∀ j, j < 38 → cs[j]? = some (.int .u8 (b j)) ∧ byte (b j) := fun j hj => by
  have := Classical.choose_spec (hb j hj)
  simp only [b, dif_pos hj]
  exact this
 have hc : cs = smC b (cs.getD 38 undef) (cs.getD 39 undef) := by
  apply List.ext_getElem?
  intro j
  rcases (by omega : j < 38 ∨ j = 38 ∨ j = 39 ∨ 40 ≤ j) with h0 | h0 | h0 | h0
  ·rw [(hbs j h0).1, smC_at _ _ _ h0]
  ·subst h0
   rw [smC_k, List.getElem?_eq_getElem (by omega), getD_in (by omega)]
  ·subst h0
   rw [smC_e, List.getElem?_eq_getElem (by omega), getD_in (by omega)]
  ·rw [List.getElem?_eq_none (by omega), List.getElem?_eq_none (by rw [smC_len]; omega)]
 refine ⟨⟨b, ks, es⟩, _, _, ?_, ⟨fun j hj => (hbs j hj).2, k2, e2⟩, k1, e1, k3, e3⟩
 show v = .agg (smC b (cs.getD 38 undef) (cs.getD 39 undef)).toArray
 rw [← hc]
 cases v with
 | agg a =>
  have : a = cs.toArray := by
   rw [← hcs]
   simp [Value.cells]
  rw [this]
 | _ =>
  exfalso
  rw [← hcs] at hlen
  simp [Value.cells] at hlen
end
end Go.Proofs.Ytdkedhcbdbpccaa
namespace Go.Proofs.Ytdkedhcbdbpccaa
open Go Go.RowKit Go.ChangeShapes Go.WideShapes
theorem co4_y4 : Try.prog.cellsOf 72 = 4 := by kernel_rfl
theorem four_of {H : Type} {enc : TypeId × Value → H} {w : World} {base : Nat} {spare : Nat → Bool} {held : Bool} {v : Value} {d : DataW H} {p : List MemPlace} (h : DataW.Trod enc Try.prog w base spare held 72 v d p) : ∃ a b c d : Int, v = .agg #[.int .u8 a, .int .u8 b, .int .u8 c, .int .u8 d] ∧ byte a ∧ byte b ∧ byte c ∧ byte d := by
 obtain ⟨fuel, hf⟩ := h;obtain ⟨hl, hi⟩ := arr_u8 Try.underlying72 co4_y4 hf
 generalize hcs : v.cells.toList = cs at hl hi
 obtain ⟨a, ha, ba⟩ := hi 0 (by omega)
 obtain ⟨b, hb, bb⟩ := hi 1 (by omega)
 obtain ⟨c, hc, bc⟩ := hi 2 (by omega)
 obtain ⟨e, he, be⟩ := hi 3 (by omega)
 match cs, hl, ha, hb, hc, he with
 | [x0, x1, x2, x3], _, ha, hb, hc, he =>
  simp at ha hb hc he
  subst ha hb hc he;refine ⟨a, b, c, e, ?_, ba, bb, bc, be⟩
  cases v with
  | agg z =>
   have : z = [Value.int .u8 a, .int .u8 b, .int .u8 c, .int .u8 e].toArray := by
    rw [← hcs]
    simp [Value.cells]
   rw [this]
  | _ =>
   exfalso
   simp [Value.cells] at hcs
end Go.Proofs.Ytdkedhcbdbpccaa
namespace Go.Proofs.Ytdkedhcbdbpccaa
open Go Go.RowKit
theorem all_range4 {f : Nat → Int} {p : Int → Bool} (h : ∀ k, k < 4 → p (f k) = true) : ((List.range 4).map f).all p = true := by
 simp only [List.all_map, List.all_eq_true, List.mem_range]
 exact h
/-- small rules are valid -/
theorem sm_rules {x : Sml} (hok : SmlOk x) : rulesB (smRules x) = true := by
 have b36 := hok.b 36 (by omega)
 have b37 := hok.b 37 (by omega)
 have m1 := byte_rem (byte_min b36 b37) (m := 40) (by omega)
 have m2 := byte_rem (byte_max b36 b37) (m := 20) (by omega)
 unfold rulesB
 simp only [Bool.and_eq_true]
 refine ⟨rfl, ?_, ?_, ?_, ?_, ?_, ?_⟩
 ·exact all_range4 fun k hk => inB_iff.2 (by have := hok.b k (by omega); unfold byte at this; omega)
 ·refine bdB_iff.2 ?_
  simp only [smRules]
  omega
 ·unfold sqB
  simp only [Bool.and_eq_true, decide_eq_true_eq]
  refine ⟨rfl, ?_⟩
  simp only [smRules, List.all_map, List.all_eq_true, List.mem_range]
  intro r hr
  simp only [Function.comp, Bool.and_eq_true, decide_eq_true_eq]
  exact ⟨rfl, all_range4 fun k hk => inB_iff.2 (by have := hok.b (4 + 4 * r + k) (by omega); unfold byte at this; omega)⟩
 ·unfold sqB
  simp only [Bool.and_eq_true, decide_eq_true_eq]
  refine ⟨rfl, ?_⟩
  simp only [smRules, List.all_map, List.all_eq_true, List.mem_range]
  intro r hr
  simp only [Function.comp, Bool.and_eq_true, decide_eq_true_eq]
  exact ⟨rfl, all_range4 fun k hk => inB_iff.2 (by have := byte_rem (hok.b (20 + 4 * r + k) (by omega)) (m := 3) (by omega); omega)⟩
 ·simp only [decide_eq_true_eq, smRules, List.length_map, List.length_take]
  omega
 ·simp only [smRules, List.all_map, List.all_eq_true]
  intro p hp;obtain ⟨h1, h2, h3⟩ := hok.k p (List.mem_of_mem_take hp);have h4 := byte_rem h2 (m := 40) (by omega)
  unfold byte at h1 h2 h3
  simp only [Function.comp, smKd, kdB, Bool.and_eq_true, bdB_iff, inB_iff]
  omega
theorem sm_hist {x : Sml} (hok : SmlOk x) : (smHist (smRules x).kinds.length x.events).length ≤ 30 ∧ (smHist (smRules x).kinds.length x.events).all (evB (smRules x)) = true := by
 refine ⟨by simp only [smHist, List.length_map, List.length_take]; omega, ?_⟩
 simp only [smHist, List.all_map, List.all_eq_true]
 intro p hp;obtain ⟨h1, h2⟩ := hok.e p (List.mem_of_mem_take hp)
 simp only [Function.comp, smEv]
 split
 ·rename_i h
  have h3 := byte_rem h2 (m := ((smRules x).kinds.length : Int)) (by omega)
  simp only [evB, Bool.or_eq_true, Bool.and_eq_true, decide_eq_true_eq, inB_iff]
  exact .inr ⟨trivial, h3.1, by have := h3.2; omega⟩
 ·have h3 := byte_rem h2 (m := 4) (by omega)
  have h4 : (smRules x).levels.length = 4 := rfl
  simp only [evB, Bool.or_eq_true, Bool.and_eq_true, decide_eq_true_eq, inB_iff, h4]
  exact .inl ⟨trivial, h3.1, by have := h3.2; omega⟩
theorem sm_ref {x : Sml} (hok : SmlOk x) : refE (smRules x) (smHist (smRules x).kinds.length x.events) = 0 := by
 have h := sm_hist hok;rw [refE, if_pos (sm_rules hok), histE, if_neg (by omega), if_pos h.2]
theorem sm_short {x : Sml} (hok : SmlOk x) : Short (smRules x) := by
 have h := (rules_ok (sm_rules hok))
 exact ⟨by have := h.n8; omega, by have := h.al; have := h.n8; omega, by have := h.pl; have := h.n8; omega, by have := h.k4; omega⟩
structure TruthAt (i : Nat) (way : Nat) (t : List Tr) (tr af : List Int) : Prop where
 len : t.length = 8
 lt : tr.length = 4
 la : af.length = 4
 lo : ∀ k, k < 4 → (t.getD k tr0).lo ≤ tr.getD k 0
 hi : ∀ k, k < 4 → tr.getD k 0 ≤ (t.getD k tr0).hi
 w0 : way = 0 → ∀ k, k < 4 → tr.getD k 0 = (t.getD k tr0).hi
 w1 : way = 1 → ∀ k, k < 4 → tr.getD k 0 = (t.getD k tr0).lo
 ca : ∀ k, k < 4 → ((t.getD k tr0).carried = true ↔ 0 ≤ af.getD k 0)
 aft : ∀ k, k < 4 → 0 ≤ af.getD k 0 → (t.getD k tr0).after = min (af.getD k 0) 10
 ab : ∀ k, k < 4 → -1 ≤ af.getD k 0 ∧ af.getD k 0 ≤ i
/-- of one cargo -/
structure TruthK (i : Nat) (way : Nat) (t : Tr) (tv av : Int) : Prop where
 lo : t.lo ≤ tv
 hi : tv ≤ t.hi
 w0 : way = 0 → tv = t.hi
 w1 : way = 1 → tv = t.lo
 ca : t.carried = true ↔ 0 ≤ av
 aft : 0 ≤ av → t.after = min av 10
 a0 : -1 ≤ av
 a1 : av ≤ i
/-- what the law's step makes of a truth -/
structure TruthStep (r : Rules) (x : Ev) (n : Int) (tr af tr' af' : List Int) : Prop where
 lt : tr'.length = 4
 la : af'.length = 4
 tr : ∀ k, k < 4 → tr'.getD k 0 = if x.kind = 1 ∧ (k : Int) = x.number then r.levels.getD k 0 else max 0 (tr.getD k 0 - n)
 af : ∀ k, k < 4 → af'.getD k 0 = if x.kind = 1 then (if (k : Int) = x.number then 0 else if 0 ≤ af.getD k 0 then af.getD k 0 + 1 else af.getD k 0) else af.getD k 0
section
variable {P : Program} {n : Nat} {σ : Sg} {w : World} {Q : Exit → Act → World → Prop} {L : List Oper}
/-- what stands in the way of operation i of the head -/
def HStepI (P : Program) (n : Nat) (L : List Oper) (Q : Exit → Act → World → Prop) (cls : List (List Nat)) (m : Nat) (alc : List Nat) (σ : Sg) (w : World) (Φ : Nat → (Nat → Value) → World → Prop) (Θ : Nat → Value → Nat → Nat → World → Prop) (i : Nat) : Prop :=
 ∀ (val : Nat → Value) (w1 : World) (a : Act), Below w.heap.size w w1 → Env n (sgAt L cls m σ val i) a → (∀ j, j ∈ clsAt cls i → Φ j (res val j (clsAt cls j)) w1) →
  wpOp P L.toArray Q i (fun a' w' => ∃ v, a' = a.put (dstOf L i) v ∧ Below w1.heap.size w1 w' ∧ Φ i (res (upd val i v) i (clsAt cls i)) w' ∧ (i ∈ alc → Θ i v w1.heap.size w'.heap.size w')) a w1
/-- the blocks that were made here are apart -/
def AlcI (alc : List Nat) (m : Nat) (Θ : Nat → Value → Nat → Nat → World → Prop) (val : Nat → Value) (w w' : World) : Prop :=
 ∀ i ∈ alc, ∀ j ∈ alc, i < m → j < m → i ≠ j → ∃ lo hi lo' hi', Θ i (val i) lo hi w' ∧ Θ j (val j) lo' hi' w' ∧ w.heap.size ≤ lo ∧ w.heap.size ≤ lo' ∧ (hi ≤ lo' ∨ hi' ≤ lo)
/-- when some of the head have come up -/
structure HInvI (n : Nat) (L : List Oper) (cls : List (List Nat)) (m : Nat) (alc : List Nat) (σ : Sg) (w : World) (Φ : Nat → (Nat → Value) → World → Prop) (Θ : Nat → Value → Nat → Nat → World → Prop) (D : Array Bool) (val : Nat → Value) (a : Act) (w' : World) : Prop where
 below : Below w.heap.size w w'
 size : a.tmps.size = n
 defers : a.defers = []
 new : ∀ i d, i < m → D.getD i false = true → dstOf L i = some d → a.tmps[d]? = some (val i)
 old : ∀ t v, σ t = some v → (∀ k, k < m → D.getD k false = true → dstOf L k ≠ some t) → a.tmps[t]? = some v
 says : ∀ i, i < m → D.getD i false = true → Φ i (res val i (clsAt cls i)) w'
 down : ∀ i, D.getD i false = true → ∀ j ∈ clsAt cls i, D.getD j false = true
 alc1 : ∀ i ∈ alc, i < m → D.getD i false = true → ∃ lo hi, Θ i (val i) lo hi w' ∧ w.heap.size ≤ lo ∧ hi ≤ w'.heap.size
 alc2 : ∀ i ∈ alc, ∀ j ∈ alc, i < m → j < m → D.getD i false = true → D.getD j false = true → i ≠ j → ∃ lo hi lo' hi', Θ i (val i) lo hi w' ∧ Θ j (val j) lo' hi' w' ∧ w.heap.size ≤ lo ∧ w.heap.size ≤ lo' ∧ (hi ≤ lo' ∨ hi' ≤ lo)
 high : ∀ i, m ≤ i → D.getD i false = false
theorem EC.regionPI {id : Nat} (cls : List (List Nat)) (m : Nat) (alc : List Nat) (Φ : Nat → (Nat → Value) → World → Prop) (Θ : Nat → Value → Nat → Nat → World → Prop) (hf : P.follows .mixedOrders = true) (hq : headQ n cls m 0 L = true) (hml : Nat.ble m L.length = true)
  (hmono : ∀ i r w1 w2, Below w1.heap.size w1 w2 → Φ i r w1 → Φ i r w2)
  (hΘ : ∀ i v lo hi w1 w2, Below w1.heap.size w1 w2 → Θ i v lo hi w1 → Θ i v lo hi w2)
  (hstep : ∀ i, i < m → HStepI P n L Q cls m alc σ w Φ Θ i)
  (hend : ∀ val w', Below w.heap.size w w' → AlcI alc m Θ val w w' → (∀ i, i < m → Φ i (res val i (clsAt cls i)) w') → EL P n L Q (L.drop m) (sgEnd L σ val m) w') : EC P n (.region id L.toArray true) Q σ w := by
 have hm : m ≤ L.length := by simpa [Nat.ble_eq] using hml
 have H := headQ_ok hq;have hback : backB L.toArray = true := by
  refine List.all_eq_true.2 fun i hi => ?_
  have hi' : i < L.length := by simpa using hi
  have ho : L.toArray[i]? = some L[i] := by simp [hi']
  rw [ho];refine Array.all_eq_true_iff_forall_mem.2 fun e he => ?_
  cases hb : Region.binds .any e with
  | false => rfl
  | true => simpa using H.back i L[i] (by simp [hi']) e he hb
 intro a ha
 -- the tail's part
 have tailDone : ∀ (D : Array Bool) (i : Nat) (o : Oper), (∀ i, D.getD i false = true → ∀ j ∈ clsAt cls i, D.getD j false = true) → L[i]? = some o → (∀ e ∈ o.after, Region.binds .any e = true → D.getD e.on false = true) → ∀ j ∈ clsAt cls i, D.getD j false = true := by
  intro D i o hdown ho hdep j hj;obtain ⟨e, he, hb, h⟩ := H.dep i o ho j hj
  rcases h with rfl | h
  ·exact hdep e he hb
  ·exact hdown _ (hdep e he hb) j h
 have hEnd : ∀ (D : Array Bool) (val : Nat → Value) (a : Act) (w' : World), HInvI n L cls m alc σ w Φ Θ D val a w' → (∀ i, i < m → D.getD i false = true) → wpList P L.toArray Q (L.drop m) a w' := by
  intro D val a w' I hall;refine hend val w' I.below (fun i hi j hj h1 h2 hne => I.alc2 i hi j hj h1 h2 (hall i h1) (hall j h2) hne) (fun i hi => I.says i hi (hall i hi)) a ⟨I.size, I.defers, ?_⟩
  have : ∀ k, k ≤ m → ∀ t v, sgEnd L σ val k t = some v → (∀ j, k ≤ j → j < m → dstOf L j ≠ some t) → a.tmps[t]? = some v := by
   intro k
   induction k with
   | zero => intro _ t v ht hn; exact I.old t v ht fun j hj _ => hn j (Nat.zero_le _) hj
   | succ k ih =>
    intro hk t v ht hn
    unfold sgEnd at ht
    cases hd : dstOf L k with
    | none =>
     simp only [hd] at ht
     exact ih (by omega) t v ht fun j h1 h2 => by
      rcases Nat.lt_or_ge k j with h | h
      ·exact hn j h h2
      ·obtain rfl : j = k := by omega
       rw [hd]; simp
    | some d =>
     simp only [hd] at ht
     unfold ins at ht
     cases e : Nat.beq t d with
     | true =>
      rw [e] at ht;have e' := Nat.eq_of_beq_eq_true e;subst e';rw [I.new k t (by omega) (hall k (by omega)) hd]
      exact ht
     | false =>
      rw [e] at ht
      exact ih (by omega) t v ht fun j h1 h2 => by
       rcases Nat.lt_or_ge k j with h | h
       ·exact hn j h h2
       ·obtain rfl : j = k := by omega
        rw [hd];intro e2
        injection e2 with e2
        exact Nat.ne_of_beq_eq_false e e2.symm
  exact fun t v ht => this m (Nat.le_refl _) t v ht fun j h1 h2 => by omega
 refine wp_region_inv hf hback (fun D a w' => (∃ val, HInvI n L cls m alc σ w Φ Θ D val a w') ∨ ∃ k, m < k ∧ k ≤ L.length ∧ (∀ i, D.getD i false = decide (i < k)) ∧ wpList P L.toArray Q (L.drop k) a w') ?_ ?_ ?_
 ·left
  have hno : ∀ i, (Array.replicate L.toArray.size false).getD i false = false := fun i => by
   by_cases h : i < L.toArray.size
   ·simp [Array.getD]
   ·simp [Array.getD]
  refine ⟨fun _ => undef, ⟨⟨rfl, rfl, rfl, Nat.le_refl _, fun _ _ => rfl⟩, ha.size, ha.defers, ?_, fun t v ht _ => ha.get t v ht, ?_, ?_, ?_, ?_, fun i _ => hno i⟩⟩
  ·intro i d _ h; rw [hno] at h; cases h
  ·intro i _ h; rw [hno] at h; cases h
  ·intro i h; rw [hno] at h; cases h
  ·intro i _ _ h; rw [hno] at h; cases h
  ·intro i _ j _ _ _ h; rw [hno] at h; cases h
 ·intro D a w1 i o hs hI hni ho hdep
  have hs' : D.size = L.length := by simpa using hs
  have ho' : L[i]? = some o := by simpa using ho
  have hil : i < L.length := (List.getElem?_eq_some_iff.1 ho').1;have hnd : D.getD i false = false := getD_false_of (by omega) hni
  have takeTail : ∀ (k : Nat), k = i → m ≤ k → (∀ j, D.getD j false = decide (j < k)) → wpList P L.toArray Q (L.drop k) a w1 →
    wpOp P L.toArray Q i (fun a w' => (∃ val, HInvI n L cls m alc σ w Φ Θ (D.setIfInBounds i true) val a w') ∨ ∃ k, m < k ∧ k ≤ L.length ∧ (∀ j, (D.setIfInBounds i true).getD j false = decide (j < k)) ∧ wpList P L.toArray Q (L.drop k) a w') a w1 := by
   intro k hk hmk hD hw;subst hk;rw [List.drop_eq_getElem_cons hil] at hw;have e : L[k] = o := by rw [List.getElem?_eq_getElem hil] at ho'; injection ho'
   rw [e] at hw
   unfold wpList at hw
   have hnext : ∀ a w', wpList P L.toArray Q (L.drop (k + 1)) a w' → (∃ val, HInvI n L cls m alc σ w Φ Θ (D.setIfInBounds k true) val a w') ∨ ∃ k', m < k' ∧ k' ≤ L.length ∧ (∀ j, (D.setIfInBounds k true).getD j false = decide (j < k')) ∧ wpList P L.toArray Q (L.drop k') a w' := fun a w' h => .inr ⟨k + 1, by omega, by omega, fun j => by
    rw [set_get (by omega)]
    by_cases e : j = k
    ·subst e; simp
    ·rw [if_neg e, hD]
     by_cases h : j < k
     ·simp [h]; omega
     ·simp [h]; omega, h⟩
   unfold wpOp
   simp only [ho]
   split
   ·rename_i hw'
    rw [if_pos hw'] at hw
    rcases hw with h | h
    ·exact .inl (Oper.wp_mono hnext h)
    ·exact .inr h
   ·rename_i hw'
    rw [if_neg hw'] at hw
    exact hnext _ _ hw
  rcases hI with ⟨val, I⟩ | ⟨k, hmk, hkl, hD, hw⟩
  ·have hcd := tailDone D i o I.down ho' hdep
   rcases Nat.lt_or_ge i m with him | him
   ·have henv : Env n (sgAt L cls m σ val i) a := by
     refine ⟨I.size, I.defers, fun t v ht => ?_⟩
     unfold sgAt at ht
     cases hfw : findW L t (clsAt cls i) with
     | some j =>
      simp only [hfw] at ht
      obtain ⟨h1, h2⟩ := findW_spec hfw
      injection ht with ht
      have hj := hcd j h1;have hjm : j < m := by
       rcases Nat.lt_or_ge j m with h | h
       ·exact h
       ·rw [I.high j h] at hj; cases hj
      rw [I.new j t hjm hj h2, ht]
     | none =>
      simp only [hfw] at ht
      cases hob : oldB L cls i t m with
      | false => rw [hob] at ht; cases ht
      | true =>
       rw [hob] at ht;refine I.old t v ht fun k hk hdk hd => ?_
       rcases oldB_spec hob k hk hd with rfl | h
       ·rw [hnd] at hdk; cases hdk
       ·have := I.down k hdk i h
        rw [hnd] at this; cases this
    have hjm : ∀ j, D.getD j false = true → j < m := fun j hj => by
     rcases Nat.lt_or_ge j m with h | h
     ·exact h
     ·rw [I.high j h] at hj; cases hj
    refine wpOp_mono ?_ (hstep i him val w1 a I.below henv fun j hj => I.says j (hjm j (hcd j hj)) (hcd j hj))
    rintro a' w' ⟨v, rfl, hb, hphi, halc⟩
    left
    have hgrow : Below w.heap.size w w' := I.below.trans (hb.mono I.below.size);have hdi : dstOf L i = o.dst := dstOf_at ho';refine ⟨upd val i v, ⟨hgrow, ?_, ?_, ?_, ?_, ?_, ?_, ?_, ?_, ?_⟩⟩
    ·rw [put_size]; exact I.size
    ·cases dstOf L i <;> exact I.defers
    ·intro k d hk hdk hd
     rw [set_get (by omega)] at hdk
     by_cases e : k = i
     ·subst e
      have hdn : d < n := H.small k o d ho' hk (by rw [← hdi]; exact hd)
      rw [hd]
      simp only [Act.put, upd, if_true]
      rw [Array.getElem?_setIfInBounds_self_of_lt (by rw [I.size]; exact hdn)]
     ·rw [if_neg e] at hdk
      have hok : ∃ p, L[k]? = some p := ⟨L[k]'(by omega), by simp [show k < L.length by omega]⟩
      obtain ⟨p, hp⟩ := hok;have hne : dstOf L i ≠ some d := by
       intro h'
       rcases Nat.lt_or_gt_of_ne e with hlt | hgt
       ·exact H.dist k i p o d hp ho' hlt him (by rw [← dstOf_at hp]; exact hd) (by rw [← hdi]; exact h')
       ·exact H.dist i k o p d ho' hp hgt hk (by rw [← hdi]; exact h') (by rw [← dstOf_at hp]; exact hd)
      have := I.new k d hk hdk hd
      simp only [upd, if_neg e]
      cases hdi' : dstOf L i with
      | none => exact this
      | some d' =>
       have : d' ≠ d := fun h => hne (by rw [hdi', h])
       simp only [Act.put, Array.getElem?_setIfInBounds_ne this]
       assumption
    ·intro t u ht hno
     have h1 : a.tmps[t]? = some u := I.old t u ht fun k hk hdk => hno k hk (by rw [set_get (by omega)]; split <;> simp [hdk])
     have h2 : dstOf L i ≠ some t := hno i him (by rw [set_get (by omega), if_pos rfl])
     cases hdi' : dstOf L i with
     | none => exact h1
     | some d' =>
      have : d' ≠ t := fun h => h2 (by rw [hdi', h])
      simp only [Act.put, Array.getElem?_setIfInBounds_ne this]
      exact h1
    ·intro k hk hdk
     rw [set_get (by omega)] at hdk
     by_cases e : k = i
     ·subst e; exact hphi
     ·rw [if_neg e] at hdk
      have hni' : i ∉ clsAt cls k := fun h => by
       have := I.down k hdk i h;rw [hnd] at this; cases this
      rw [res_upd e hni']
      exact hmono k _ w1 w' hb (I.says k hk hdk)
    ·intro k hdk j hj
     rw [set_get (by omega)] at hdk ⊢
     by_cases e : k = i
     ·subst e
      rw [hcd j hj]; simp
     ·rw [if_neg e] at hdk
      rw [I.down k hdk j hj]; simp
    ·intro k hk hkm hdk
     rw [set_get (by omega)] at hdk
     by_cases e : k = i
     ·subst e
      exact ⟨w1.heap.size, _, by simp only [upd, if_true]; exact halc hk, I.below.size, Nat.le_refl _⟩
     ·rw [if_neg e] at hdk
      obtain ⟨lo, hi, h1, h2, h3⟩ := I.alc1 k hk hkm hdk
      exact ⟨lo, hi, by simp only [upd, if_neg e]; exact hΘ _ _ _ _ _ _ hb h1, h2, Nat.le_trans h3 hb.size⟩
    ·intro k hk j hj hkm hjm' hdk hdj hne
     rw [set_get (by omega)] at hdk hdj
     by_cases e : k = i
     ·subst e
      have e2 : j ≠ k := Ne.symm hne;rw [if_neg e2] at hdj;obtain ⟨lo, hi, h1, h2, h3⟩ := I.alc1 j hj hjm' hdj
      exact ⟨w1.heap.size, _, lo, hi, by simp only [upd, if_true]; exact halc hk, by simp only [upd, if_neg e2]; exact hΘ _ _ _ _ _ _ hb h1, I.below.size, h2, .inr h3⟩
     ·rw [if_neg e] at hdk
      by_cases e2 : j = i
      ·subst e2
       obtain ⟨lo, hi, h1, h2, h3⟩ := I.alc1 k hk hkm hdk
       exact ⟨lo, hi, w1.heap.size, _, by simp only [upd, if_neg e]; exact hΘ _ _ _ _ _ _ hb h1, by simp only [upd, if_true]; exact halc hj, h2, I.below.size, .inl h3⟩
      ·rw [if_neg e2] at hdj
       obtain ⟨lo, hi, lo', hi', h1, h2, h3, h4, h5⟩ := I.alc2 k hk j hj hkm hjm' hdk hdj hne
       exact ⟨lo, hi, lo', hi', by simp only [upd, if_neg e]; exact hΘ _ _ _ _ _ _ hb h1, by simp only [upd, if_neg e2]; exact hΘ _ _ _ _ _ _ hb h2, h3, h4, h5⟩
    ·intro k hk
     rw [set_get (by omega), if_neg (by omega)]
     exact I.high k hk
   ·have hall : ∀ j, j < i → D.getD j false = true := fun j hj => hcd j (H.tail i o ho' him j hj)
    have him' : i = m := by
     rcases Nat.lt_or_ge m i with h | h
     ·have := hall m h
      rw [I.high m (Nat.le_refl _)] at this; cases this
     ·omega
    subst him'
    exact takeTail i rfl (Nat.le_refl _) (fun j => by
     by_cases h : j < i
     ·rw [hall j h]; simp [h]
     ·rw [I.high j (by omega)]; simp [h]) (hEnd D val a w1 I hall)
  ·have hcd : ∀ j, j < i → D.getD j false = true := fun j hj => by
    have hmi : m ≤ i := by
     have := hD i;rw [hnd] at this;have : ¬ i < k := by simpa using this.symm
     omega
    have hdn : ∀ i, D.getD i false = true → ∀ j ∈ clsAt cls i, D.getD j false = true := by
     intro x hx y hy;rw [hD] at hx ⊢;have hx' : x < k := by simpa using hx
     obtain ⟨p, hp⟩ : ∃ p, L[x]? = some p := ⟨L[x]'(by omega), by simp [show x < L.length by omega]⟩
     have : ∀ (x : Nat) (p : Oper), L[x]? = some p → ∀ y ∈ clsAt cls x, y < x := by
      intro x
      induction x using Nat.strongRecOn with
      | ind x ih =>
       intro p hp y hy;obtain ⟨e, he, hb, h⟩ := H.dep x p hp y hy;have h1 := H.back x p hp e he hb
       rcases h with rfl | h
       ·exact h1
       ·obtain ⟨q, hq⟩ : ∃ q, L[e.on]? = some q := by
         have : x < L.length := (List.getElem?_eq_some_iff.1 hp).1
         exact ⟨L[e.on]'(by omega), by simp [show e.on < L.length by omega]⟩
        have := ih e.on h1 q hq y h
        omega
     have := this x p hp y hy
     simp
     omega
    exact tailDone D i o hdn ho' hdep j (H.tail i o ho' hmi j hj)
   have hik : k = i := by
    have h1 := hD i;rw [hnd] at h1;have h2 : ¬ i < k := by simpa using h1.symm
    rcases Nat.lt_or_ge k i with h | h
    ·have := hcd k h
     rw [hD] at this
     simp at this
    ·omega
   exact takeTail k hik (by omega) hD hw
 ·intro D a w1 hs hI hall
  have hs' : D.size = L.length := by simpa using hs
  rcases hI with ⟨val, I⟩ | ⟨k, hmk, hkl, hD, hw⟩
  ·have hmL : m = L.length := by
    rcases Nat.lt_or_ge m L.length with h | h
    ·have := hall m (by simpa using h)
     rw [I.high m (Nat.le_refl _)] at this; cases this
    ·omega
   have := hEnd D val a w1 I fun i hi => hall i (by simp; omega)
   rw [hmL, List.drop_length] at this
   exact this
  ·have hk : k = L.length := by
    rcases Nat.lt_or_ge k L.length with h | h
    ·have := hall k (by simpa using h)
     rw [hD] at this
     simp at this
    ·omega
   rw [hk, List.drop_length] at hw
   exact hw
end
section
variable {P : Program} {n : Nat} {σ : Sg} {w : World} {L : List Oper} {cls : List (List Nat)} {alc : List Nat} {val : Nat → Value} {a : Act} {w1 : World} {i m : Nat} {Q : Exit → Act → World → Prop} {Φ : Nat → (Nat → Value) → World → Prop} {Θ : Nat → Value → Nat → Nat → World → Prop}
abbrev HKI (L : List Oper) (cls : List (List Nat)) (alc : List Nat) (Φ : Nat → (Nat → Value) → World → Prop) (Θ : Nat → Value → Nat → Nat → World → Prop) (i : Nat) (val : Nat → Value) (a : Act) (w1 : World) : Act → World → Prop :=
 fun a' w' => ∃ v, a' = a.put (dstOf L i) v ∧ Below w1.heap.size w1 w' ∧ Φ i (res (upd val i v) i (clsAt cls i)) w' ∧ (i ∈ alc → Θ i v w1.heap.size w'.heap.size w')
theorem hki (hn : memB alc i = false) (h : wpOp P L.toArray Q i (HK L cls [] Φ i val a w1) a w1) : wpOp P L.toArray Q i (HKI L cls alc Φ Θ i val a w1) a w1 :=
 wpOp_mono (fun a' w' ⟨v, h1, h2, h3, _⟩ => ⟨v, h1, h2, h3, fun hi => by
  rw [memB_mem.2 hi] at hn
  cases hn⟩) h
theorem hki_call {o : Oper} {f : FuncId} {args : Array Value} {R : Ending → World → Prop} (ha : Env n σ a) (ho : nthO L i = some o) (hg : o.guard = none) (hr : ∀ a, Env n σ a → (execOp a.eval o).run P w1 = .ok (.enter f args) w1) (hc : Calls P f args w1 R)
  (hΦ : ∀ e w', R e w' → ∃ v, e = .returned v ∧ Below w1.heap.size w1 w' ∧ Φ i (res (upd val i v) i (clsAt cls i)) w' ∧ (i ∈ alc → Θ i v w1.heap.size w'.heap.size w')) : wpOp P L.toArray Q i (HKI L cls alc Φ Θ i val a w1) a w1 := by
 obtain ⟨h1, h2⟩ := opL ho
 unfold wpOp
 simp only [h1]
 rw [if_pos (wanted_none hg _)]
 left
 unfold Oper.wp
 rw [hr a ha, Oper.upon_enter];refine hc.mono fun e w' he => ?_
 obtain ⟨v, rfl, hb, hp, hq⟩ := hΦ e w' he
 exact ⟨v, by rw [h2], hb, hp, hq⟩
end
section
variable {n : Nat} {σ : Sg} {w : World} {dst : Option Tmp} {ty : TypeId} {pos : String} {af : Array Edge} {g : Option (Nat × Bool)} {x y z : Operand} {at' : Array TypeId}
theorem sz_78 : (Try.prog.info? 78).map (·.size) = some 40 := by kernel_rfl
theorem cF29 : cF 29 := fun _ _ => by simp [go_sem]
theorem cF30 : cF 30 := fun _ _ => by simp [go_sem]
end
/-- rows that were made one after another -/
def Inc (us : List Value) : Prop := ∀ i j, i < j → j < us.length → ∀ b c, (us.getD i undef).ownBlock = some b → (us.getD j undef).ownBlock = some c → b < c
theorem Inc.nil : Inc [] := fun i j _ h => absurd h (by simp)
theorem Inc.push {us : List Value} {u : Value} {N : Nat} (h : Inc us) (h1 : ∀ i b, i < us.length → (us.getD i undef).ownBlock = some b → b < N) (h2 : ∀ b, u.ownBlock = some b → N ≤ b) : Inc (us ++ [u]) := fun i j hij hj b c hb hc => by
 rw [List.length_append, List.length_singleton] at hj;have hi : i < us.length := by omega
 rw [List.getD_eq_getElem?_getD, List.getElem?_append_left hi, ← List.getD_eq_getElem?_getD] at hb
 by_cases e : j < us.length
 ·rw [List.getD_eq_getElem?_getD, List.getElem?_append_left e, ← List.getD_eq_getElem?_getD] at hc
  exact h i j hij e b c hb hc
 ·obtain rfl : j = us.length := by omega
  have e2 : (us ++ [u]).getD us.length undef = u := by simp
  rw [e2] at hc
  exact Nat.lt_of_lt_of_le (h1 i b hi hb) (h2 c hc)
theorem rows2_any {tt : List (List Int)} {vt : Value} {ut : List Value} {w : World} {B : Nat} (ht : RdLL iC 1 w B vt tt ut) (hB : B ≤ w.heap.size) (htn : tt.length ≤ 1000) (htr : ∀ i, i < tt.length → (tt.getD i []).length ≤ 1048576) :
  Calls Try.prog 51 #[vt] w fun e w' => (∃ v' us, e = .returned v' ∧ OwnLL w' w.heap.size w'.heap.size v' tt us ∧ Inc us) ∧ Below w.heap.size w w' := by
 obtain ⟨At, ct, rfl, _⟩ := ht.rd.shape;have hbw := Below.refl w.heap.size w;refine EC.enter 21 Try.func51 rfl rfl rfl (EC.seq (EC.region (EL.as rfl rfl (EL.nil (EX.seq (EC.seq (EC.region (EL.newS (bs_25_0) rfl ?_))))))));intro g1 w1 q1 hb1 hg1 hl1;have bhbw_1 := Nat.le_trans hbw.size hg1;have hbg1 : w.heap.size ≤ g1 := Nat.le_trans hbw.size hg1;replace hbw := bo_ hbw hb1;clear hb1 hg1 hl1;have hL : OwnLL w1 w.heap.size w1.heap.size (.slice (some ⟨g1, 0, none⟩) 0 0) [] [] := OwnLL.empty q1 hbg1 q1.lt;refine EL.as rfl rfl (EL.nil (EX.seq (EC.seq (EC.seq (EC.region (EL.as rfl rfl (EL.nil (EX.seq (EC.block ?_)))))))));refine EC.loopD [3, 4, 6, 7, 8, 9, 10, 11, 12, 13, 14, 15, 16, 17, 18, 19] (fun x : Nat × Value × List Value => [(4, .int .i64 (x.1 : Nat)), (3, x.2.1)]) (fun x W => x.1 ≤ tt.length ∧ OwnLL W w.heap.size W.heap.size x.2.1 (tt.take x.1) x.2.2 ∧ Inc x.2.2 ∧ Below w.heap.size w W) (fun x => tt.length - x.1) (0, .slice (some ⟨g1, 0, none⟩) 0 0, []) ⟨Nat.zero_le _, hL, Inc.nil, hbw⟩ ⟨rfl, rfl, trivial⟩ ?_
 clear hbw hL
 rintro ⟨i, v3, us⟩ wx ⟨hi, hL, hinc, hbw⟩
 dsimp only at hi hL hinc
 by_cases hlt : i < tt.length
 ·
  obtain ⟨bt, ot, eAt, _, htc⟩ := vals_cells ut i (by rw [ht.len]; exact hlt) wx B _ _ _ (ht.rd.below (hbw.mono hB))
  have hrr := ht.row i hlt;rw [← ints_flat] at hrr;refine EC.seq (EC.seq (EC.region (EL.mv rfl rfl (EL.mv rfl rfl (EL.val (ln_25 rfl) rfl ?_)))));refine EL.val (x_lss rfl rfl (decide_eq_true (show (((i : Nat) : Int) < ((tt.length : Nat) : Int)) by omega))) rfl ?_
  refine EL.nil (EX.seq (EC.yes rfl (EC.skip (EX.seq (EC.seq (EC.block (EC.region (EL.mv rfl rfl (EL.mv rfl rfl ?_)))))))));refine EL.mv rfl rfl ?_;refine EL.val (ix_25 (by show some (Value.slice At _ _) = _; rw [eAt]) rfl hlt) rfl ?_
  refine EL.val (ld_22 rfl htc) rfl ?_;have hlr9 := hL.ltr;refine EL.call (cA1 cF23 rfl) rfl (numbers_any (hrr.below (hbw.mono hB)) (Nat.le_trans hB hbw.size) (htr i hlt)) ?_
  rintro e w2 ⟨⟨v2, rfl, ho⟩, hc2⟩
  refine ⟨_, rfl, ?_⟩;have hge9 := fun b hb => (ho.lt b hb).1
  replace ho := own_less ho hbw.size;replace hL := (hL.below hc2).more hc2.size;replace hbw := bo_ hbw hc2;clear hc2;obtain ⟨Av, cv, rfl, _⟩ := (Rd.of_own ho).shape;refine EL.newS (bs_25_1 rfl) rfl ?_;intro g3 w3 q3 hb3 hg3 hl3;have bhbw_3 := Nat.le_trans hbw.size hg3;have hbg3 : w.heap.size ≤ g3 := Nat.le_trans hbw.size hg3;replace hL := (hL.below hb3).more hb3.size;replace ho := own_below ho hb3 (Nat.le_refl _);replace hbw := bo_ hbw hb3;clear hb3 hg3 hl3;have hinc9 := hinc.push (fun i' b hi' => hlr9 i' b (by rw [← hL.len]; exact hi')) hge9
  refine EL.push rr_elem rfl rfl hL.own (rd_one (l := [.slice Av (tt.getD i []).length cv]) q3 rfl) (by intro u hu; simp only [List.mem_cons, List.not_mem_nil, or_false] at hu; subst hu; rfl) (by rw [List.length_take]; omega) rfl hbw.size rfl ?_
  intro v9 w9 ho9 hgr hb_ hat;have hL9 := hL.push ho9 hgr ho;replace hbw := hbw.trans hb_;clear hL hgr hb_ hat ho ho9;refine EL.as rfl rfl (EL.nil (EX.blk (EX.seq (EC.region (EL.mv rfl rfl ?_)))));refine EL.val (x_add rfl rfl (c := ((i + 1 : Nat) : Int)) ((IntWalk.i64_in _ ⟨by first | omega | (simp only; omega), by first | omega | (simp only; omega)⟩).trans (by first | omega | (simp only; omega)))) rfl ?_
  refine EL.as rfl rfl (EL.nil ?_);refine EX.roundD (i + 1, v9, us ++ [.slice Av (tt.getD i []).length cv]) ⟨rfl, rfl, trivial⟩ (by repeat first | with_reducible exact .refl _ | refine sp_ rfl ?_ | exact .refl _ | refine sd_ rfl ?_ | refine sn_ ?_) ⟨hlt, by simp only; rw [List.take_succ_eq_append_getElem hlt, ← getD_in (d := []) hlt]; exact hL9, hinc9, hbw⟩ (by simp only; omega)
 ·
  have hxe : i = tt.length := by omega
  rw [hxe, List.take_length] at hL;refine EC.seq (EC.seq (EC.region (EL.mv rfl rfl (EL.mv rfl rfl (EL.val (ln_25 rfl) rfl ?_)))));refine EL.val (x_lss rfl rfl (decide_eq_false (show ¬(((i : Nat) : Int) < ((tt.length : Nat) : Int)) by omega))) rfl ?_
  refine EL.nil (EX.seq (EC.no rfl (EC.exit (EX.seq_exit (EX.seq_exit (EX.blk_here (EX.seq (EC.seq (EC.region ?_)))))))));refine EL.mv rfl rfl (EL.as rfl rfl (EL.nil (EX.seq (EC.ret ?_))))
  exact EX.done (res1 rfl rfl) ⟨⟨_, us, rfl, hL, hinc⟩, hbw⟩
def OwnIv (ls : List (List Int)) (v : Value) (lo hi : Nat) (w : World) : Prop := ∃ us, OwnLL w lo hi v ls us ∧ Inc us
theorem OwnIv.below {ls : List (List Int)} {v : Value} {lo hi : Nat} {w w' : World} (h : OwnIv ls v lo hi w) (hb : Below w.heap.size w w') : OwnIv ls v lo hi w' := let ⟨us, h1, h2⟩ := h
 ⟨us, h1.below hb, h2⟩
def thOwn (ru : Rules) (i : Nat) (v : Value) (lo hi : Nat) (w : World) : Prop := OwnIv (match i with | 2 => ru.allow | _ => ru.apart) v lo hi w
theorem thOwn.mk2 {ru : Rules} {v : Value} {lo hi : Nat} {w : World} {us : List Value} (h1 : OwnLL w lo hi v ru.allow us) (h2 : Inc us) : thOwn ru 2 v lo hi w := Exists.intro us ⟨h1, h2⟩
theorem thOwn.mk5 {ru : Rules} {v : Value} {lo hi : Nat} {w : World} {us : List Value} (h1 : OwnLL w lo hi v ru.apart us) (h2 : Inc us) : thOwn ru 5 v lo hi w := Exists.intro us ⟨h1, h2⟩
/-- rules of one's own, all of whose rows are apart -/
structure OwnR (W : World) (base : Nat) (vl va vp vk : Value) (ru : Rules) (ua up : List Value) : Prop where
 lev : W.ownsRow base 3 1 vl ru.levels.length (ints ru.levels)
 kin : W.ownsRow base 52 5 vk ru.kinds.length (kdsC ru.kinds)
 al : OwnLL W base W.heap.size va ru.allow ua
 ap : OwnLL W base W.heap.size vp ru.apart up
 ia : Inc ua
 ip : Inc up
 la : ∀ i b, i < ru.allow.length → vl.ownBlock = some b → (ua.getD i undef).ownBlock ≠ some b
 lp : ∀ i b, i < ru.apart.length → vl.ownBlock = some b → (up.getD i undef).ownBlock ≠ some b
 ab : ∀ i j b, i < ru.allow.length → j < ru.apart.length → (ua.getD i undef).ownBlock = some b → (up.getD j undef).ownBlock ≠ some b
theorem OwnR.mk' {W : World} {base lo2 hi2 lo3 hi3 : Nat} {vl va vp vk : Value} {ru : Rules} {ua up : List Value} (h1 : W.ownsRow base 3 1 vl ru.levels.length (ints ru.levels)) (h4 : W.ownsRow base 52 5 vk ru.kinds.length (kdsC ru.kinds)) (h2 : OwnLL W lo2 hi2 va ru.allow ua) (h3 : OwnLL W lo3 hi3 vp ru.apart up) (ha : Inc ua) (hp : Inc up) (hl2 : ∀ b, vl.ownBlock = some b → b < lo2) (hl3 : ∀ b, vl.ownBlock = some b → b < lo3) (hd : hi2 ≤ lo3 ∨ hi3 ≤ lo2) (hb2 : base ≤ lo2) (hb3 : base ≤ lo3) : OwnR W base vl va vp vk ru ua up := by
 have q2 : OwnLL W base W.heap.size va ru.allow ua := ⟨h2.len, own_less h2.own hb2, fun i hi => own_less (h2.rows i hi) hb2, fun b hb => (h2.own.lt b hb).2, fun i b hi hb => ((h2.rows i hi).lt b hb).2⟩
 have q3 : OwnLL W base W.heap.size vp ru.apart up := ⟨h3.len, own_less h3.own hb3, fun i hi => own_less (h3.rows i hi) hb3, fun b hb => (h3.own.lt b hb).2, fun i b hi hb => ((h3.rows i hi).lt b hb).2⟩
 refine ⟨h1, h4, q2, q3, ha, hp, fun i b hi hb hc => ?_, fun i b hi hb hc => ?_, fun i j b hi hj hb hc => ?_⟩
 ·have e1 := hl2 b hb
  have e2 := ((h2.rows i hi).lt b hc).1
  omega
 ·have e1 := hl3 b hb
  have e2 := ((h3.rows i hi).lt b hc).1
  omega
 ·have e1 := ((h2.rows i hi).lt b hb).1
  have e2 := h2.ltr i b hi hb;have e3 := ((h3.rows j hj).lt b hc).1;have e4 := h3.ltr j b hj hc
  omega
set_option maxHeartbeats 1000000 in
theorem own2_any {ru : Rules} {ua up : List Value} {vl va vp vk : Value} {w : World} {B : Nat} (hr : RdRules w B vl va vp vk ru ua up) (hB : B ≤ w.heap.size) {l : List Ev} (hw_ : Wee ru l) :
  Calls Try.prog 14 #[rulesV vl va vp vk ru] w fun e w' => (∃ vl' va' vp' vk' ua' up', e = .returned (rulesV vl' va' vp' vk' ru) ∧ OwnR w' w.heap.size vl' va' vp' vk' ru ua' up') ∧ Below w.heap.size w w' := by
 obtain ⟨Al, cl, Aa, ca, Ap, cp, Ak, ck, rfl, rfl, rfl, rfl⟩ := hr.sh4;have hbw := Below.refl w.heap.size w
 unfold rulesV
 refine EC.enter 21 Try.func14 rfl rfl rfl (EC.seq (EC.region (EL.newP (bx_28 rfl) rfl ?_)));intro g1 w1 q1 hb1 hg1 hl1;have bhbw_1 := Nat.le_trans hbw.size hg1;replace hbw := bo_ hbw hb1;clear hb1 hg1 hl1;refine EL.newP al_28 rfl ?_;intro g2 w2 q2 hb2 hg2 hl2;have n1_2 := q1.na hg2;have bhbw_2 := Nat.le_trans hbw.size hg2;replace q1 := q1.bl hb2;replace hbw := bo_ hbw hb2;clear hb2 hg2 hl2;refine EL.nil (EX.seq (EC.seq ?_));have lt_1 := q1.lt;have lt_2 := q2.lt;refine EC.regionP [[], [0], [0, 1], [], [], [4], [0, 1, 2, 3, 4, 5], [0, 1, 2, 4, 5], [0, 1, 2, 3, 4, 5, 6, 7], [0, 1, 2, 3, 4, 5, 6, 7, 8], [0, 1, 2, 3, 4, 5, 6, 7, 8, 9]] 8 [] (phi (fun i_ r => match i_ with | 0 => r 0 = .pointer (some ⟨g1, 0, none⟩) | 1 => r 1 = .slice Al ru.levels.length cl | 4 => r 4 = .pointer (some ⟨g1, 5, none⟩) | 5 => r 5 = .slice Ak ru.kinds.length ck | 7 => r 7 = .pointer (some ⟨g1, 0, none⟩) | _ => True) [(2, fun r w_ => ∃ A c, r 2 = .slice A ru.levels.length c ∧ w_.ownsRow w.heap.size 3 1 (.slice A ru.levels.length c) ru.levels.length (ints ru.levels)), (3, fun r w_ => ∃ g_, r 3 = .slice (some ⟨g_, 0, none⟩) 0 0 ∧ Blk w_ g_ 52 #[] ∧ w2.heap.size ≤ g_), (6, fun r w_ => ∃ A c, r 6 = .slice A ru.kinds.length c ∧ w_.ownsRow w.heap.size 52 5 (.slice A ru.kinds.length c) ru.kinds.length (kdsC ru.kinds))]) (by kernel_rfl) rfl rfl (phi_cons (mono_cp (f := fun A c => .slice A ru.levels.length c)) (phi_cons mono_bs (phi_cons (mono_cp (f := fun A c => .slice A ru.kinds.length c)) (phi_nil)))) (fun i_ hi_ => ?_) ?_
 ·match i_, hi_ with
  | 0, _ =>
   intro val w1 a hb ha hd;have ha := ha.s0 (d := 1) rfl
   exact hs_val ha rfl rfl (fa_28_0 rfl) rfl rfl
  | 1, _ =>
   intro val w1 a hb ha hd;have e0 : val 0 = _ := hd 0 (memB_mem.1 rfl);have ha := ha.s1 (d := 3) rfl e0
   exact hs_val ha rfl rfl (ld_22 rfl ((q1.below hb q1.lt).at (j := 0) rfl)) rfl rfl
  | 2, _ =>
   intro val w1 a hb ha hd;have e1 : val 1 = _ := hd 1 (memB_mem.1 rfl);have ha := ha.s1 (d := 4) rfl e1;refine hs_call ha rfl rfl (cA1 cF23 rfl) (numbers_any (hr.levels.below ((hbw.trans (hb.mono hbw.size)).mono hB)) (Nat.le_trans hB (Nat.le_trans hbw.size hb.size)) (by have := hw_.n; omega)) rfl ?_
   rintro e w' ⟨⟨v', rfl, ho⟩, hb'⟩
   obtain ⟨A, c9, rfl, _⟩ := (Rd.of_own ho).shape
   exact ⟨_, rfl, hb', ⟨A, c9, rfl, own_less ho (Nat.le_trans hbw.size hb.size)⟩⟩
  | 3, _ =>
   intro val w1 a hb ha hd;have ha := ha.sub (Sub.nil _)
   exact hs_newS ha rfl rfl (bs_26_0) rfl (fun g w' hq _ hge => ⟨g, rfl, hq, Nat.le_trans hb.size hge⟩)
  | 4, _ =>
   intro val w1 a hb ha hd;have ha := ha.s0 (d := 1) rfl
   exact hs_val ha rfl rfl (fa_28_4 rfl) rfl rfl
  | 5, _ =>
   intro val w1 a hb ha hd;have e4 : val 4 = _ := hd 4 (memB_mem.1 rfl);have ha := ha.s1 (d := 7) rfl e4
   exact hs_val ha rfl rfl (ld_26 rfl ((q1.below hb q1.lt).at (j := 5) rfl)) rfl rfl
  | 6, _ =>
   intro val w1 a hb ha hd;obtain ⟨g3_, e3, q3_, h3_⟩ := hd 3 (memB_mem.1 rfl);change val 3 = _ at e3;have e5 : val 5 = _ := hd 5 (memB_mem.1 rfl);have ha := ha.s2 (d := 8) (e := 6) rfl e5 rfl e3;refine hs_copy kd_elem ha rfl rfl rfl q3_ (Nat.le_trans hbw.size h3_) (hr.kinds.below ((hbw.trans (hb.mono hbw.size)).mono hB)) (kdsC_one _) (by have := hw_.k; omega) rfl (Nat.le_trans hbw.size hb.size) rfl (fun v' w' ho => ?_)
   obtain ⟨A, c9, rfl, _⟩ := (Rd.of_own ho).shape
   exact ⟨A, c9, rfl, ho⟩
  | 7, _ =>
   intro val w1 a hb ha hd;have ha := ha.s0 (d := 1) rfl
   exact hs_val ha rfl rfl (fa_28_0 rfl) rfl rfl
  | k + 8, h => exact absurd h (by omega)
 ·intro val wR1 hb halc hd
  have e0 : val 0 = _ := hd 0 (by omega)
  have e1 : val 1 = _ := hd 1 (by omega)
  obtain ⟨A1, c1, e2, hn1⟩ := hd 2 (by omega)
  obtain ⟨ga3_1, e3, qa3_1, hga3_1⟩ := hd 3 (by omega)
  change val 3 = _ at e3;change Blk wR1 ga3_1 52 #[] at qa3_1;have e4 : val 4 = _ := hd 4 (by omega)
  have e5 : val 5 = _ := hd 5 (by omega)
  obtain ⟨A4, c4, e6, hn4⟩ := hd 6 (by omega)
  have e7 : val 7 = _ := hd 7 (by omega)
  refine EL.ends (cs := [_, _, _, _, _, _, _, _]) ⟨e0, e1, e2, e3, e4, e5, e6, e7, trivial⟩ rfl ?_;replace q1 := q1.bl hb;replace q2 := q2.bl hb;have n1_3 : g1 ≠ ga3_1 := Nat.ne_of_lt (Nat.lt_of_lt_of_le lt_1 hga3_1);have n2_3 : g2 ≠ ga3_1 := Nat.ne_of_lt (Nat.lt_of_lt_of_le lt_2 hga3_1);have bhbw_3 := Nat.le_trans hbw.size hga3_1;replace hbw := bo_ hbw hb;clear hb;refine EL.store rfl rfl q1 sz_22 rfl rfl rfl rfl ?_;intro w4 hq4 hg4;replace q2 := q2.gr hg4 n1_2.symm;replace hn1 := own_type hn1 q1 rfl hg4;replace hn4 := own_type hn4 q1 rfl hg4;replace hbw := below_store hbw hg4 bhbw_1;replace q1 := hq4;clear hg4 hq4;refine EL.val (fa_28_4 rfl) rfl (EL.store rfl rfl q1 sz_26 rfl rfl rfl rfl ?_);intro w5 hq5 hg5;replace q2 := q2.gr hg5 n1_2.symm;replace hn1 := own_type hn1 q1 rfl hg5;replace hn4 := own_type hn4 q1 rfl hg5;replace hbw := below_store hbw hg5 bhbw_1;replace q1 := hq5;clear hg5 hq5;refine EL.nil (EX.seq (EC.seq ?_));have lt_1 := q1.lt;have lt_2 := q2.lt;refine EC.regionPI [[], [0], [0, 1], [], [3], [0, 1, 2, 3, 4], [0, 1, 2, 3, 4], [0, 1, 2, 3, 4, 5, 6], [0, 1, 2, 3, 4, 5, 6, 7], [0, 1, 2, 3, 4, 5, 6, 7, 8]] 7 [2, 5] (phi (fun i_ r => match i_ with | 0 => r 0 = .pointer (some ⟨g1, 3, none⟩) | 1 => r 1 = .slice Aa ru.allow.length ca | 3 => r 3 = .pointer (some ⟨g1, 4, none⟩) | 4 => r 4 = .slice Ap ru.apart.length cp | 6 => r 6 = .pointer (some ⟨g1, 3, none⟩) | _ => True) [(2, fun r w_ => ∃ A c, r 2 = .slice A ru.allow.length c), (5, fun r w_ => ∃ A c, r 5 = .slice A ru.apart.length c)]) (Θ := (thOwn ru)) (by kernel_rfl) rfl rfl (phi_cons (fun _ _ _ _ h => h) (phi_cons (fun _ _ _ _ h => h) (phi_nil))) (hΘ := (fun _ _ _ _ _ _ hb h => OwnIv.below h hb)) (fun i_ hi_ => ?_) ?_
  ·match i_, hi_ with
   | 0, _ =>
    intro val w1 a hb ha hd;refine hki rfl ?_;have ha := ha.s0 (d := 1) rfl
    exact hs_val ha rfl rfl (fa_28_2 rfl) rfl rfl
   | 1, _ =>
    intro val w1 a hb ha hd;refine hki rfl ?_;have e0 : val 0 = _ := hd 0 (memB_mem.1 rfl);have ha := ha.s1 (d := 12) rfl e0
    exact hs_val ha rfl rfl (ld_25 rfl ((q1.below hb q1.lt).at (j := 3) rfl)) rfl rfl
   | 2, _ =>
    intro val w1 a hb ha hd;have e1 : val 1 = _ := hd 1 (memB_mem.1 rfl);have ha := ha.s1 (d := 13) rfl e1;refine hki_call ha rfl rfl (cA1 cF51 rfl) (rows2_any (hr.allow.below ((hbw.trans (hb.mono hbw.size)).mono hB)) (Nat.le_trans hB (Nat.le_trans hbw.size hb.size)) (by have := hw_.a; omega) (fun i hi => by have := hw_.ra i hi; omega)) ?_
    rintro e w' ⟨⟨v', us, rfl, ho, hinc⟩, hb'⟩
    obtain ⟨A, c9, rfl, _⟩ := ho.rd.rd.shape
    exact ⟨_, rfl, hb', ⟨A, c9, rfl⟩, fun _ => thOwn.mk2 ho hinc⟩
   | 3, _ =>
    intro val w1 a hb ha hd;refine hki rfl ?_;have ha := ha.s0 (d := 1) rfl
    exact hs_val ha rfl rfl (fa_28_3 rfl) rfl rfl
   | 4, _ =>
    intro val w1 a hb ha hd;refine hki rfl ?_;have e3 : val 3 = _ := hd 3 (memB_mem.1 rfl);have ha := ha.s1 (d := 15) rfl e3
    exact hs_val ha rfl rfl (ld_25 rfl ((q1.below hb q1.lt).at (j := 4) rfl)) rfl rfl
   | 5, _ =>
    intro val w1 a hb ha hd;have e4 : val 4 = _ := hd 4 (memB_mem.1 rfl);have ha := ha.s1 (d := 16) rfl e4;refine hki_call ha rfl rfl (cA1 cF51 rfl) (rows2_any (hr.apart.below ((hbw.trans (hb.mono hbw.size)).mono hB)) (Nat.le_trans hB (Nat.le_trans hbw.size hb.size)) (by have := hw_.p; omega) (fun i hi => by have := hw_.rp i hi; omega)) ?_
    rintro e w' ⟨⟨v', us, rfl, ho, hinc⟩, hb'⟩
    obtain ⟨A, c9, rfl, _⟩ := ho.rd.rd.shape
    exact ⟨_, rfl, hb', ⟨A, c9, rfl⟩, fun _ => thOwn.mk5 ho hinc⟩
   | 6, _ =>
    intro val w1 a hb ha hd;refine hki rfl ?_;have ha := ha.s0 (d := 1) rfl
    exact hs_val ha rfl rfl (fa_28_2 rfl) rfl rfl
   | k + 7, h => exact absurd h (by omega)
  ·intro val wR2 hb halc hd
   have e0 : val 0 = _ := hd 0 (by omega)
   have e1 : val 1 = _ := hd 1 (by omega)
   obtain ⟨A2, c2, e2⟩ := hd 2 (by omega)
   have e3 : val 3 = _ := hd 3 (by omega)
   have e4 : val 4 = _ := hd 4 (by omega)
   obtain ⟨A3, c3, e5⟩ := hd 5 (by omega)
   have e6 : val 6 = _ := hd 6 (by omega)
   obtain ⟨lo2, hi2, lo3, hi3, ⟨us2, hn2, hj2⟩, ⟨us3, hn3, hj3⟩, hl2, hl3, hdis⟩ := halc 2 (by simp) 5 (by simp) (by omega) (by omega) (by omega)
   change val 2 = _ at e2;rw [e2] at hn2;change val 5 = _ at e5;rw [e5] at hn3;change OwnLL _ _ _ _ ru.allow _ at hn2;change OwnLL _ _ _ _ ru.apart _ at hn3;have hL2 : ∀ b, (Value.slice A1 ru.levels.length c1).ownBlock = some b → b < lo2 := fun b hb => Nat.lt_of_lt_of_le (hn1.lt b hb).2 hl2
   have hL3 : ∀ b, (Value.slice A1 ru.levels.length c1).ownBlock = some b → b < lo3 := fun b hb => Nat.lt_of_lt_of_le (hn1.lt b hb).2 hl3
   have hb2 : w.heap.size ≤ lo2 := Nat.le_trans hbw.size hl2;have hb3 : w.heap.size ≤ lo3 := Nat.le_trans hbw.size hl3;refine EL.ends (cs := [_, _, _, _, _, _, _]) ⟨e0, e1, e2, e3, e4, e5, e6, trivial⟩ rfl ?_;replace q1 := q1.bl hb;replace q2 := q2.bl hb;replace hn1 := own_below hn1 hb (Nat.le_refl _);replace hn4 := own_below hn4 hb (Nat.le_refl _);replace hbw := bo_ hbw hb;clear hb;refine EL.store rfl rfl q1 sz_25 rfl rfl rfl rfl ?_;intro w6 hq6 hg6;replace q2 := q2.gr hg6 n1_2.symm;replace hn1 := own_type hn1 q1 rfl hg6;replace hn4 := own_type hn4 q1 rfl hg6;replace hn2 := hn2.box q1 rfl rfl hg6;replace hn3 := hn3.box q1 rfl rfl hg6;replace hbw := below_store hbw hg6 bhbw_1;replace q1 := hq6;clear hg6 hq6;refine EL.val (fa_28_3 rfl) rfl (EL.store rfl rfl q1 sz_25 rfl rfl rfl rfl ?_);intro w7 hq7 hg7;replace q2 := q2.gr hg7 n1_2.symm;replace hn1 := own_type hn1 q1 rfl hg7;replace hn4 := own_type hn4 q1 rfl hg7;replace hn2 := hn2.box q1 rfl rfl hg7;replace hn3 := hn3.box q1 rfl rfl hg7;replace hbw := below_store hbw hg7 bhbw_1;replace q1 := hq7;clear hg7 hq7;refine EL.nil (EX.seq (EC.seq (EC.region (EL.val (ld_28 rfl (q1.at (j := 0) rfl) (q1.at (j := 1) rfl) (q1.at (j := 2) rfl) (q1.at (j := 3) rfl) (q1.at (j := 4) rfl) (q1.at (j := 5) rfl)) rfl (EL.store rfl rfl q2 sz_28 rfl rfl rfl rfl ?_)))));intro w8 hq8 hg8;replace q1 := q1.gr hg8 n1_2;replace hn1 := own_type hn1 q2 rfl hg8;replace hn4 := own_type hn4 q2 rfl hg8;replace hn2 := hn2.box q2 rfl rfl hg8;replace hn3 := hn3.box q2 rfl rfl hg8;replace hbw := below_store hbw hg8 bhbw_2;replace q2 := hq8;clear hg8 hq8;refine EL.nil (EX.seq (EC.ret ?_))
   exact EX.done (resc1 rfl rfl (lv_28 (q2.at (j := 0) rfl) (q2.at (j := 1) rfl) (q2.at (j := 2) rfl) (q2.at (j := 3) rfl) (q2.at (j := 4) rfl) (q2.at (j := 5) rfl))) ⟨⟨_, _, _, _, us2, us3, rfl, OwnR.mk' hn1 hn4 hn2 hn3 hj2 hj3 hL2 hL3 hdis hb2 hb3⟩, hbw⟩
structure Better (r b : Rules) : Prop where
 lev : b.levels = r.levels
 fade : b.fade = r.fade
 kl : b.kinds.length = r.kinds.length
 klo : ∀ k, (r.kinds.getD k kd0).power.lo ≤ (b.kinds.getD k kd0).power.lo
 khi : ∀ k, (r.kinds.getD k kd0).power.hi ≤ (b.kinds.getD k kd0).power.hi
 kc : ∀ k, (b.kinds.getD k kd0).cost = (r.kinds.getD k kd0).cost
 al : ∀ x y, allowAt r x y ≤ allowAt b x y
 ap : ∀ x y, apartAt b x y ≤ apartAt r x y
/-- tank u is no less clean than tank t -/
structure LeT (t u : List Tr) : Prop where
 len : u.length = t.length
 lo : ∀ k, (u.getD k tr0).lo ≤ (t.getD k tr0).lo
 hi : ∀ k, (u.getD k tr0).hi ≤ (t.getD k tr0).hi
 ca : ∀ k, (u.getD k tr0).carried = (t.getD k tr0).carried
 aft : ∀ k, (u.getD k tr0).after = (t.getD k tr0).after
theorem LeT.refl (t : List Tr) : LeT t t := ⟨rfl, fun _ => Int.le_refl _, fun _ => Int.le_refl _, fun _ => rfl, fun _ => rfl⟩
theorem mapT (f : Tr → Tr) (t : List Tr) (k : Nat) : (t.map f).getD k tr0 = if k < t.length then f (t.getD k tr0) else tr0 := by
 split
 ·rename_i h
  exact map_getD h
 ·rw [List.getD_eq_getElem?_getD, List.getElem?_eq_none (by rw [List.length_map]; omega)]
  rfl
theorem setD {α : Type} (l : List α) (c : Nat) (x d : α) (k : Nat) : (l.set c x).getD k d = if k = c ∧ c < l.length then x else l.getD k d := by
 by_cases e : k = c
 ·subst e
  by_cases h : k < l.length
  ·rw [if_pos ⟨rfl, h⟩, List.getD_eq_getElem?_getD, List.getElem?_set_self h]
   rfl
  ·rw [if_neg (fun q => h q.2), List.set_eq_of_length_le (by omega)]
 ·rw [if_neg (fun q => e q.1), List.getD_eq_getElem?_getD, List.getElem?_set_ne (fun q => e q.symm), ← List.getD_eq_getElem?_getD]
theorem LeT.map {f g : Tr → Tr} {t u : List Tr} (h : LeT t u) (hf : ∀ x y : Tr, y.lo ≤ x.lo → y.hi ≤ x.hi → y.carried = x.carried → y.after = x.after → (g y).lo ≤ (f x).lo ∧ (g y).hi ≤ (f x).hi ∧ (g y).carried = (f x).carried ∧ (g y).after = (f x).after) : LeT (t.map f) (u.map g) := by
 have key : ∀ k, ((u.map g).getD k tr0).lo ≤ ((t.map f).getD k tr0).lo ∧ ((u.map g).getD k tr0).hi ≤ ((t.map f).getD k tr0).hi ∧ ((u.map g).getD k tr0).carried = ((t.map f).getD k tr0).carried ∧ ((u.map g).getD k tr0).after = ((t.map f).getD k tr0).after := fun k => by
  rw [mapT, mapT, h.len]
  split
  ·exact hf _ _ (h.lo k) (h.hi k) (h.ca k) (h.aft k)
  ·exact ⟨Int.le_refl _, Int.le_refl _, rfl, rfl⟩
 exact ⟨by rw [List.length_map, List.length_map, h.len], fun k => (key k).1, fun k => (key k).2.1, fun k => (key k).2.2.1, fun k => (key k).2.2.2⟩
theorem LeT.set {t u : List Tr} (h : LeT t u) (c : Nat) (x : Tr) : LeT (t.set c x) (u.set c x) := by
 have key : ∀ k, (((t.set c x).getD k tr0 = t.getD k tr0 ∧ (u.set c x).getD k tr0 = u.getD k tr0) ∨ ((t.set c x).getD k tr0 = x ∧ (u.set c x).getD k tr0 = x)) := fun k => by
  rw [setD, setD, h.len]
  split
  ·exact .inr ⟨rfl, rfl⟩
  ·exact .inl ⟨rfl, rfl⟩
 refine ⟨by rw [List.length_set, List.length_set, h.len], fun k => ?_, fun k => ?_, fun k => ?_, fun k => ?_⟩
 ·rcases key k with ⟨e1, e2⟩ | ⟨e1, e2⟩
  ·rw [e1, e2]; exact h.lo k
  ·rw [e1, e2]; exact Int.le_refl _
 ·rcases key k with ⟨e1, e2⟩ | ⟨e1, e2⟩
  ·rw [e1, e2]; exact h.hi k
  ·rw [e1, e2]; exact Int.le_refl _
 ·rcases key k with ⟨e1, e2⟩ | ⟨e1, e2⟩
  ·rw [e1, e2]; exact h.ca k
  ·rw [e1, e2]
 ·rcases key k with ⟨e1, e2⟩ | ⟨e1, e2⟩
  ·rw [e1, e2]; exact h.aft k
  ·rw [e1, e2]
section
variable {r b : Rules} {t u : List Tr}
theorem LeT.wash (hb : Better r b) (h : LeT t u) (k : Nat) : LeT (washT r t k) (washT b u k) := by
 have e1 := hb.klo k;have e2 := hb.khi k
 unfold washT
 exact h.map fun x y h1 h2 h3 h4 => ⟨by simp only [redT]; omega, by simp only [redT]; omega, h3, h4⟩
theorem LeT.load (hb : Better r b) (h : LeT t u) (c : Nat) : LeT (loadT r t c) (loadT b u c) := by
 unfold loadT
 rw [hb.lev];refine LeT.set ?_ _ _
 exact h.map fun x y h1 h2 h3 h4 => ⟨by simp only [fadeT, hb.fade]; omega, by simp only [fadeT, hb.fade]; omega, h3, by simp only [fadeT]; rw [h4]⟩
theorem LeT.step (hb : Better r b) (h : LeT t u) (x : Ev) : LeT (stepT r t x) (stepT b u x) := by
 unfold stepT
 split
 ·exact h.wash hb _
 ·exact h.load hb _
theorem LeT.fold (hb : Better r b) : ∀ (l : List Ev) {t u : List Tr}, LeT t u → LeT (l.foldl (stepT r) t) (l.foldl (stepT b) u)
 | [], _, _, h => h
 | x :: l, _, _, h => LeT.fold hb l (h.step hb x)
theorem LeT.aft_ (hb : Better r b) (l : List Ev) : LeT (afterT r l) (afterT b l) := LeT.fold hb l (LeT.refl _)
theorem forb_le (hb : Better r b) (h : LeT t u) {x c : Nat} : ((forbT b u x c).1 = true → (forbT r t x c).1 = true) ∧ ((forbT b u x c).2 = true → (forbT r t x c).2 = true) := by
 have a1 := hb.al x c;have a2 := hb.ap x c;have a3 := h.lo x;have a4 := h.hi x
 unfold forbT
 rw [h.ca x, h.aft x]
 split
 ·simp only [Bool.or_eq_true, decide_eq_true_eq]
  exact ⟨fun q => by omega, fun q => by omega⟩
 ·exact ⟨fun q => q, fun q => q⟩
theorem may_le (hb : Better r b) (h : LeT t u) {c : Nat} : ∀ m, (mayT r t c m).1 = true → (mayT b u c m).1 = true
 | 0, _ => rfl
 | m + 1, hm => by
  unfold mayT at hm ⊢
  simp only [Bool.and_eq_true, Bool.not_eq_true'] at hm ⊢
  refine ⟨may_le hb h m hm.1, ?_⟩
  cases e : (forbT b u m c).1 with
  | false => rfl
  | true =>
   rw [(forb_le hb h).1 e] at hm
   exact absurd hm.2 (by decide)
end
structure LeS (s u : List (List Tr)) : Prop where
 len : u.length = s.length
 at_ : ∀ i, LeT (s.getD i []) (u.getD i [])
theorem LeS.set {s u : List (List Tr)} (h : LeS s u) (i : Nat) {x y : List Tr} (hx : LeT x y) : LeS (s.set i x) (u.set i y) := by
 refine ⟨by rw [List.length_set, List.length_set, h.len], fun j => ?_⟩
 rw [setD, setD, h.len]
 split
 ·exact hx
 ·exact h.at_ j
theorem LeT.way {r b : Rules} {t u : List Tr} (hb : Better r b) (h : LeT t u) (k : Int) : LeT (wayT r t k) (wayT b u k) := by
 unfold wayT
 split
 ·exact h
 ·exact h.wash hb _
theorem gotLe {r b : Rules} {s u s' : List (List Tr)} {c i : Nat} {k : Int} (hb : Better r b) (h : LeS s u) (hg : goT r c s i k = some s') : ∃ u', goT b c u i k = some u' ∧ LeS s' u' := by
 unfold goT at hg ⊢
 split at hg
 ·rename_i hm
  injection hg with hg
  subst hg;have hw := (h.at_ i).way hb k;rw [hb.lev, if_pos (may_le hb hw _ hm)]
  exact ⟨_, rfl, h.set i (hw.load hb c)⟩
 ·cases hg
theorem compl_le {r b : Rules} (hb : Better r b) (m : Nat) : ∀ (js : List Nat) (s u : List (List Tr)) (p : Pl), LeS s u → ∀ y ∈ compl (extY (yardOf r m)) js (s, p), ∃ z ∈ compl (extY (yardOf b m)) js (u, p), z.2 = y.2
 | [], s, u, p, h, y, hy => by
  rw [compl, List.mem_singleton] at hy;subst hy
  exact ⟨(u, p), by rw [compl]; exact List.mem_singleton.2 rfl, rfl⟩
 | c :: js, s, u, p, h, y, hy => by
  rw [compl, List.mem_flatMap] at hy;obtain ⟨x, hx, hy⟩ := hy;obtain ⟨i, k, s', hi, hk, hg, rfl⟩ := extY_mem.1 hx;obtain ⟨u', hg', hs'⟩ := gotLe hb h hg;obtain ⟨z, hz, e⟩ := compl_le hb m js s' u' _ hs' y hy;refine ⟨z, ?_, e⟩;rw [compl, List.mem_flatMap];refine ⟨_, extY_mem.2 ⟨i, k, u', hi, ?_, hg', rfl⟩, ?_⟩
  ·show k ∈ kindsL b.kinds.length
   rw [hb.kl]
   exact hk
  ·have e2 : (yardOf b m).cost k = (yardOf r m).cost k := by
    show kcost b k = kcost r k
    unfold kcost
    rw [hb.kc]
   rw [e2]
   exact hz
theorem cmpP_washes {p q : Pl} (h : cmpP p q ≤ 0) : p.washes ≤ q.washes := by
 unfold cmpP at h
 by_cases e : q.washes < p.washes
 ·have : c3 p.washes q.washes = 1 := by unfold c3; rw [if_neg (by omega), if_pos e]
  rw [this, or3, if_neg (by decide)] at h
  exact absurd h (by decide)
 ·omega
theorem best_le {r b : Rules} {m : Nat} {js : List Nat} {s u : List (List Tr)} {p q : Pl} (hb : Better r b) (h : LeS s u) (hp : IsBest (compl (extY (yardOf r m)) js (s, pl0)) p) (hq : IsBest (compl (extY (yardOf b m)) js (u, pl0)) q) : q.washes ≤ p.washes := by
 obtain ⟨⟨s', hs'⟩, _⟩ := hp;obtain ⟨z, hz, e⟩ := compl_le hb m js s u pl0 h _ hs';have h1 := hq.2 z hz;rw [e] at h1
 exact cmpP_washes h1
theorem three_le {r b : Rules} (hb : Better r b) {l : List Ev} (h1 : refE r l = 0) (h2 : refE b l = 0) : LeS [tkE r l, tank0, tank0] [tkE b l, tank0, tank0] := by
 refine ⟨rfl, fun i => ?_⟩
 match i with
 | 0 =>
  show LeT (tkE r l) (tkE b l)
  unfold tkE
  rw [if_pos h1, if_pos h2]
  exact LeT.aft_ hb l
 | 1 => exact LeT.refl _
 | 2 => exact LeT.refl _
 | i + 3 => exact LeT.refl _
theorem code_le {r b : Rules} (hb : Better r b) {l : List Ev} {jobs : List Int} (h1 : refE r l = 0) (h2 : refE b l = 0) (hj : jobsE r jobs 10 = 0) (hc : codeS r l jobs = 0) : codeS b l jobs = 0 := by
 have hj2 : jobsE b jobs 10 = 0 := by unfold jobsE at hj ⊢; rw [hb.lev]; exact hj
 have e1 : errS r l jobs = 0 := by unfold errS; rw [if_pos h1, hj]
 have e2 : errS b l jobs = 0 := by unfold errS; rw [if_pos h2, hj2]
 unfold codeS at hc ⊢
 rw [if_pos e1] at hc;rw [if_pos e2];have hd : ¬depS r l jobs < jobs.length := fun h => by rw [if_pos h] at hc; exact absurd hc (by decide)
 have hl : (jobs.map Int.toNat).length = jobs.length := List.length_map ..;rw [if_neg];intro h;have h3 : (jobs.map Int.toNat).length ≤ depthR (extY (yardOf r 1)) (jobs.map Int.toNat) ([tkE r l, tank0, tank0], pl0) := by unfold depS at hd; omega
 have h4 := (depth_iff _ _ _ (Nat.le_refl _)).1 h3;rw [List.take_length] at h4;obtain ⟨y, hy⟩ := List.exists_mem_of_ne_nil _ h4;obtain ⟨z, hz, _⟩ := compl_le hb 1 _ _ _ pl0 (three_le hb h1 h2) y hy;have h5 : (jobs.map Int.toNat).length ≤ depthR (extY (yardOf b 1)) (jobs.map Int.toNat) ([tkE b l, tank0, tank0], pl0) := (depth_iff _ _ _ (Nat.le_refl _)).2 (by
  rw [List.take_length];intro e;rw [e] at hz
  exact absurd hz List.not_mem_nil)
 unfold depS at h
 omega
/-! ### Audits -/
structure Cov (A B : List Br) : Prop where
 len : A.length ≤ B.length
 mem : ∀ x ∈ A, ∃ y ∈ B, y.event = x.event ∧ y.cargo = x.cargo ∧ (x.sure = true → y.sure = true)
theorem Cov.nil (B : List Br) : Cov [] B := ⟨Nat.zero_le _, fun x hx => absurd hx List.not_mem_nil⟩
theorem Cov.append {A B C D : List Br} (h : Cov A B) (k : Cov C D) : Cov (A ++ C) (B ++ D) := by
 refine ⟨?_, fun x hx => ?_⟩
 ·have := h.len
  have := k.len;rw [List.length_append, List.length_append]
  omega
 ·rcases List.mem_append.1 hx with hx | hx
  ·obtain ⟨y, hy, q⟩ := h.mem x hx
   exact ⟨y, List.mem_append.2 (.inl hy), q⟩
  ·obtain ⟨y, hy, q⟩ := k.mem x hx
   exact ⟨y, List.mem_append.2 (.inr hy), q⟩
theorem Cov.flat {f g : Nat → List Br} : ∀ (l : List Nat), (∀ i ∈ l, Cov (f i) (g i)) → Cov (l.flatMap f) (l.flatMap g)
 | [], _ => Cov.nil _
 | i :: l, h => by
  rw [List.flatMap_cons, List.flatMap_cons]
  exact (h i (List.mem_cons_self ..)).append (Cov.flat l fun j hj => h j (List.mem_cons_of_mem _ hj))
theorem cov_one {r b : Rules} {t u : List Tr} (hb : Better r b) (h : LeT t u) (i c x : Nat) : Cov (audOne b u i c x) (audOne r t i c x) := by
 have h1 := forb_le hb h (x := x) (c := c)
 unfold audOne
 split
 ·rename_i hf
  rw [if_pos (h1.1 hf)]
  exact ⟨Nat.le_refl _, fun y hy => ⟨_, List.mem_singleton.2 rfl, by rw [List.mem_singleton.1 hy], by rw [List.mem_singleton.1 hy], fun hs => by
   rw [List.mem_singleton.1 hy] at hs
   exact h1.2 hs⟩⟩
 ·exact Cov.nil _
theorem aud_cov {r b : Rules} (hb : Better r b) {l : List Ev} (h1 : refE r l = 0) (h2 : refE b l = 0) : Cov (audE b l) (audE r l) := by
 unfold audE
 rw [if_pos h1, if_pos h2];refine Cov.flat _ fun i _ => ?_
 unfold audAt
 split
 ·unfold audK
  rw [hb.lev]
  exact Cov.flat _ fun x _ => cov_one hb (LeT.aft_ hb _) i _ x
 ·exact Cov.nil _
/-! ### The rules that the law makes -/
def powUp (x : Kd) (d : Int) : Kd := ⟨⟨x.power.lo + d, x.power.hi + d⟩, x.mins, x.water, x.cost⟩
def kdUp (l : List Kd) (k : Nat) (d : Int) : List Kd := l.set k (powUp (l.getD k kd0) d)
def tabSet (t : List (List Int)) (p q : Nat) (v : Int) : List (List Int) := t.set p ((t.getD p []).set q v)
def betR (r : Rules) (k p q : Nat) (d : Int) : Rules := { r with kinds := kdUp r.kinds k d, allow := tabSet r.allow p q (allowAt r p q + d), apart := tabSet r.apart q p (max 0 (apartAt r q p - 1)) }
theorem tab_at {t : List (List Int)} {p q : Nat} {v : Int} (x y : Nat) : ((tabSet t p q v).getD x []).getD y 0 = v ∧ x = p ∧ y = q ∨ ((tabSet t p q v).getD x []).getD y 0 = (t.getD x []).getD y 0 := by
 unfold tabSet
 rw [setD]
 split
 ·rename_i h
  rw [setD, h.1]
  split
  ·rename_i h2
   exact .inl ⟨rfl, rfl, h2.1⟩
  ·exact .inr rfl
 ·exact .inr rfl
theorem tab_sq {t : List (List Int)} {n p q : Nat} {v m : Int} (h : sqB t n m = true) (hp : p < n) (h0 : 0 ≤ v) (h1 : v ≤ m) : sqB (tabSet t p q v) n m = true := by
 unfold sqB at h ⊢
 simp only [Bool.and_eq_true, decide_eq_true_eq, List.all_eq_true] at h ⊢
 refine ⟨by unfold tabSet; rw [List.length_set]; exact h.1, fun row hrow => ?_⟩
 unfold tabSet at hrow
 rcases List.mem_or_eq_of_mem_set hrow with hr | rfl
 ·exact h.2 row hr
 ·have h2 := h.2 _ (getD_mem (by omega : p < t.length) [])
  refine ⟨by rw [List.length_set]; exact h2.1, fun x hx => ?_⟩
  rcases List.mem_or_eq_of_mem_set hx with hx | rfl
  ·exact h2.2 x hx
  ·exact inB_iff.2 ⟨h0, h1⟩
theorem bet_better {r : Rules} (hr : RulesOk r) {k p q : Nat} {d : Int} (hd : 0 ≤ d) : Better r (betR r k p q d) := by
 have hk : ∀ j, ((betR r k p q d).kinds.getD j kd0 = powUp (r.kinds.getD j kd0) d ∨ (betR r k p q d).kinds.getD j kd0 = r.kinds.getD j kd0) := fun j => by
  show (kdUp r.kinds k d).getD j kd0 = _ ∨ (kdUp r.kinds k d).getD j kd0 = _
  unfold kdUp
  rw [setD]
  split
  ·rename_i h
   rw [h.1]
   exact .inl rfl
  ·exact .inr rfl
 refine ⟨rfl, rfl, by show (kdUp r.kinds k d).length = _; unfold kdUp; rw [List.length_set], fun j => ?_, fun j => ?_, fun j => ?_, fun x y => ?_, fun x y => ?_⟩
 ·rcases hk j with e | e
  ·rw [e]; simp only [powUp]; omega
  ·rw [e]; exact Int.le_refl _
 ·rcases hk j with e | e
  ·rw [e]; simp only [powUp]; omega
  ·rw [e]; exact Int.le_refl _
 ·rcases hk j with e | e
  ·rw [e]; rfl
  ·rw [e]
 ·show allowAt r x y ≤ ((tabSet r.allow p q (allowAt r p q + d)).getD x []).getD y 0
  rcases tab_at (t := r.allow) (p := p) (q := q) (v := allowAt r p q + d) x y with ⟨e, rfl, rfl⟩ | e
  ·rw [e]; omega
  ·rw [e]; exact Int.le_refl _
 ·show ((tabSet r.apart q p (max 0 (apartAt r q p - 1))).getD x []).getD y 0 ≤ apartAt r x y
  have h0 := hr.pv q p
  rcases tab_at (t := r.apart) (p := q) (q := p) (v := max 0 (apartAt r q p - 1)) x y with ⟨e, rfl, rfl⟩ | e
  ·rw [e]; omega
  ·rw [e]; exact Int.le_refl _
theorem bet_rules {r : Rules} (h : rulesB r = true) (ha : ∀ x y, allowAt r x y ≤ 255) (hk : ∀ k, (r.kinds.getD k kd0).power.hi ≤ 700000) {k p q : Nat} {d : Int} (hd : 0 ≤ d) (hd2 : d ≤ 255) (hp : p < r.levels.length) (hq : q < r.levels.length) : rulesB (betR r k p q d) = true := by
 have hr := rules_ok h;have a1 := hr.av p q;have a2 := ha p q;have a3 := hr.pv q p
 unfold rulesB at h ⊢
 simp only [Bool.and_eq_true] at h ⊢
 obtain ⟨h1, h2, h3, h4, h5, h6, h7⟩ := h;refine ⟨h1, h2, h3, tab_sq h4 hp (by omega) (by omega), tab_sq h5 hq (by omega) (by omega), ?_, ?_⟩
 ·show decide ((kdUp r.kinds k d).length ≤ 4) = true
  unfold kdUp
  rw [List.length_set]
  exact h6
 ·show (kdUp r.kinds k d).all kdB = true
  unfold kdUp
  rw [List.all_eq_true] at h7 ⊢;intro x hx
  rcases List.mem_or_eq_of_mem_set hx with hx | rfl
  ·exact h7 x hx
  ·have h8 := hr.kd k
   have h9 := hk k
   unfold kdB at h8 ⊢
   simp only [powUp, Bool.and_eq_true, bdB_iff] at h8 ⊢
   exact ⟨by omega, h8.2⟩
theorem bet_ref {r : Rules} {l : List Ev} (h : rulesB r = true) {k p q : Nat} {d : Int} (hb : rulesB (betR r k p q d) = true) : refE (betR r k p q d) l = refE r l := by
 unfold refE
 rw [if_pos h, if_pos hb]
 unfold histE
 have e : evB (betR r k p q d) = evB r := by
  funext x
  unfold evB
  show (_ || (_ && inB 0 (((kdUp r.kinds k d).length : Nat) - 1 : Int) x.number)) = _
  unfold kdUp
  rw [List.length_set]
  rfl
 rw [e]
theorem sm_allow {x : Sml} (hok : SmlOk x) (a c : Nat) : allowAt (smRules x) a c ≤ 255 := by
 have h : sqB (smRules x).allow 4 255 = true := by
  unfold sqB
  simp only [Bool.and_eq_true, decide_eq_true_eq]
  refine ⟨rfl, ?_⟩
  simp only [smRules, List.all_map, List.all_eq_true, List.mem_range]
  intro r hr
  simp only [Function.comp, Bool.and_eq_true, decide_eq_true_eq]
  exact ⟨rfl, all_range4 fun k hk => inB_iff.2 (by have := hok.b (4 + 4 * r + k) (by omega); unfold byte at this; omega)⟩
 exact ((sq_at h (by omega)).2.2 a c).2
theorem sm_power {x : Sml} (hok : SmlOk x) (k : Nat) : ((smRules x).kinds.getD k kd0).power.hi ≤ 700000 := by
 have h : (smRules x).kinds.all (fun y => decide (y.power.hi ≤ 700000)) = true := by
  simp only [smRules, List.all_map, List.all_eq_true]
  intro p hp;obtain ⟨h1, h2, h3⟩ := hok.k p (List.mem_of_mem_take hp);have h4 := byte_rem h2 (m := 40) (by omega)
  unfold byte at h1
  exact decide_eq_true (show p.1 + p.2.1.tmod 40 ≤ 700000 by omega)
 exact of_decide_eq_true (all_getD (p := fun y : Kd => decide (y.power.hi ≤ 700000)) h (by decide) k)
/-! ### Rules of one's own that are changed -/
theorem kept_ne {W W' : World} {base e z n : Nat} {u : Value} {xs : List Value} {row : Option Nat} (h : W.ownsRow base e z u n xs) (hg : W.grownBy W' row) (hn : ∀ b, u.ownBlock = some b → row ≠ some b) : W'.ownsRow base e z u n xs := h.kept hg (by
 cases e : u.ownBlock with
 | none => exact .inl rfl
 | some b => exact .inr fun e2 => hn b e e2.symm)
section
variable {W W' : World} {base : Nat} {vl va vp vk : Value} {ru : Rules} {ua up : List Value}
theorem OwnR.rd (h : OwnR W base vl va vp vk ru ua up) : RdRules W W.heap.size vl va vp vk ru ua up := ⟨Rd.of_own h.lev, h.al.rd, h.ap.rd, Rd.of_own h.kin⟩
theorem OwnR.below (h : OwnR W base vl va vp vk ru ua up) (hb : Below W.heap.size W W') : OwnR W' base vl va vp vk ru ua up := ⟨own_below h.lev hb (Nat.le_refl _), own_below h.kin hb (Nat.le_refl _), (h.al.below hb).raise, (h.ap.below hb).raise, h.ia, h.ip, h.la, h.lp, h.ab⟩
theorem OwnR.box {g T : Nat} {cs : Array Value} (h : OwnR W base vl va vp vk ru ua up) (hq : Blk W g T cs) (h1 : Nat.beq T 22 = false) (h2 : Nat.beq T 3 = false) (h3 : Nat.beq T 52 = false) (hg : W.grownBy W' (some g)) : OwnR W' base vl va vp vk ru ua up :=
 ⟨own_type h.lev hq h2 hg, own_type h.kin hq h3 hg, (h.al.box hq h1 h2 hg).raise, (h.ap.box hq h1 h2 hg).raise, h.ia, h.ip, h.la, h.lp, h.ab⟩
theorem OwnR.setK {ks : List Kd} (h : OwnR W base vl va vp vk ru ua up) (ho : W'.ownsRow base 52 5 vk ks.length (kdsC ks)) (hg : W.grownBy W' vk.ownBlock) : OwnR W' base vl va vp vk { ru with kinds := ks } ua up := by
 have q : ∀ {e z n : Nat} {u : Value} {xs : List Value}, Nat.beq 52 e = false → W.ownsRow base e z u n xs → W'.ownsRow base e z u n xs := fun hT hu => own_grown hu h.kin hT hg
 have qa : OwnLL W' base W.heap.size va ru.allow ua := ⟨h.al.len, q rfl h.al.own, fun i hi => q rfl (h.al.rows i hi), h.al.ltv, h.al.ltr⟩
 have qp : OwnLL W' base W.heap.size vp ru.apart up := ⟨h.ap.len, q rfl h.ap.own, fun i hi => q rfl (h.ap.rows i hi), h.ap.ltv, h.ap.ltr⟩
 exact ⟨q rfl h.lev, ho, qa.raise, qp.raise, h.ia, h.ip, h.la, h.lp, h.ab⟩
theorem inc_ne {us : List Value} (h : Inc us) {i j : Nat} (hi : i < us.length) (hj : j < us.length) (hn : i ≠ j) {b : Nat} (hb : (us.getD i undef).ownBlock = some b) : (us.getD j undef).ownBlock ≠ some b := fun hc => by
 rcases Nat.lt_or_gt_of_ne hn with h1 | h1
 ·have := h i j h1 hj b b hb hc
  omega
 ·have := h j i h1 hi b b hc hb
  omega
/-- a row of one of the tables is changed -/
theorem OwnLL.setRow {v : Value} {ls : List (List Int)} {us : List Value} {C i : Nat} {row : List Int} (h : OwnLL W base C v ls us) (hinc : Inc us) (hi : i < ls.length) (hl : row.length = (ls.getD i []).length) (ho : W'.ownsRow base 3 1 (us.getD i undef) row.length (ints row)) (hg : W.grownBy W' (us.getD i undef).ownBlock) : OwnLL W' base W'.heap.size v (ls.set i row) us := by
 have hr : ∀ j, j < (ls.set i row).length → W'.ownsRow base 3 1 (us.getD j undef) ((ls.set i row).getD j []).length (ints ((ls.set i row).getD j [])) := fun j hj => by
  rw [List.length_set] at hj;rw [setD]
  split
  ·rename_i e
   rw [e.1]
   exact ho
  ·rename_i e
   have hne : i ≠ j := fun q => e ⟨q.symm, hi⟩
   exact kept_ne (h.rows j hj) hg fun b hb hc => inc_ne hinc (by rw [h.len]; exact hi) (by rw [h.len]; exact hj) hne hc hb
 have hv : W'.ownsRow base 22 1 v ls.length us := own_grown h.own (h.rows i hi) rfl hg
 exact ⟨by rw [List.length_set]; exact h.len, by rw [List.length_set]; exact hv, hr, fun b hb => (hv.lt b hb).2, fun j b hj hb => ((hr j hj).lt b hb).2⟩
theorem OwnR.setA {i : Nat} {row : List Int} (h : OwnR W base vl va vp vk ru ua up) (hi : i < ru.allow.length) (hl : row.length = (ru.allow.getD i []).length) (ho : W'.ownsRow base 3 1 (ua.getD i undef) row.length (ints row)) (hg : W.grownBy W' (ua.getD i undef).ownBlock) : OwnR W' base vl va vp vk { ru with allow := ru.allow.set i row } ua up := by
 have hri := h.al.rows i hi;have qp : OwnLL W' base W.heap.size vp ru.apart up := ⟨h.ap.len, own_grown h.ap.own hri rfl hg, fun j hj => kept_ne (h.ap.rows j hj) hg fun b hb hc => h.ab i j b hi hj hc hb, h.ap.ltv, h.ap.ltr⟩
 have hl_ : ∀ (l : List (List Int)) (x : List Int), (l.set i x).length = l.length := fun l x => List.length_set ..
 exact ⟨kept_ne h.lev hg fun b hb hc => h.la i b hi hb hc, own_grown h.kin hri rfl hg, h.al.setRow h.ia hi hl ho hg, qp.raise, h.ia, h.ip, fun j b hj => h.la j b (by rw [hl_] at hj; exact hj), h.lp, fun j k b hj hk => h.ab j k b (by rw [hl_] at hj; exact hj) hk⟩
theorem OwnR.setP {i : Nat} {row : List Int} (h : OwnR W base vl va vp vk ru ua up) (hi : i < ru.apart.length) (hl : row.length = (ru.apart.getD i []).length) (ho : W'.ownsRow base 3 1 (up.getD i undef) row.length (ints row)) (hg : W.grownBy W' (up.getD i undef).ownBlock) : OwnR W' base vl va vp vk { ru with apart := ru.apart.set i row } ua up := by
 have hri := h.ap.rows i hi;have qa : OwnLL W' base W.heap.size va ru.allow ua := ⟨h.al.len, own_grown h.al.own hri rfl hg, fun j hj => kept_ne (h.al.rows j hj) hg fun b hb hc => h.ab j i b hj hi hb hc, h.al.ltv, h.al.ltr⟩
 have hl_ : ∀ (l : List (List Int)) (x : List Int), (l.set i x).length = l.length := fun l x => List.length_set ..
 exact ⟨kept_ne h.lev hg fun b hb hc => h.lp i b hi hb hc, own_grown h.kin hri rfl hg, qa.raise, h.ap.setRow h.ip hi hl ho hg, h.ia, h.ip, h.la, fun j b hj => h.lp j b (by rw [hl_] at hj; exact hj), fun j k b hj hk => h.ab j k b hj (by rw [hl_] at hk; exact hk)⟩
end
theorem own_shapeZ {W : World} {base e z n : Nat} {u : Value} {xs : List Value} (h : W.ownsRow base e z u n xs) (h0 : 0 < n) (hz : 0 < z) : ∃ g c, u = .slice (some ⟨g, 0, none⟩) n c ∧ base ≤ g ∧ g < W.heap.size := by
 have hl := h.lt;obtain ⟨_, ⟨_, h2⟩ | ⟨g, cap, cur, h2, _⟩⟩ := h
 ·omega
 ·subst h2
  have := hl g rfl
  exact ⟨g, cap, rfl, this.1, this.2⟩
theorem spl_int2 {t : List Int} {k : Nat} {v : Int} (hk : k < t.length) : spl (ints t) (0 + k) [.int .i64 v] = ints (t.set k v) := by
 rw [Nat.zero_add, spl_one _ _ _ (by rw [ints_len]; exact hk)]
 simp [ints, List.map_set]
theorem spl_kd {l : List Kd} {k : Nat} (hk : k < l.length) (a b : Int) : spl (kdsC l) (k * 5) [.int .i64 a, .int .i64 b] = kdsC (l.set k ⟨⟨a, b⟩, (l.getD k kd0).mins, (l.getD k kd0).water, (l.getD k kd0).cost⟩) := by
 have e : l = l.take k ++ l.getD k kd0 :: l.drop (k + 1) := by
  rw [getD_in hk, ← List.drop_eq_getElem_cons hk, List.take_append_drop]
 have h1 : kdsC l = kdsC (l.take k) ++ (kdC (l.getD k kd0) ++ kdsC (l.drop (k + 1))) := by
  conv => lhs; rw [e]
  unfold kdsC
  rw [List.flatMap_append, List.flatMap_cons]
 have h2 : (kdsC (l.take k)).length = k * 5 := by rw [kdsC_len, List.length_take, Nat.min_eq_left (by omega)]
 have h3 : l.set k ⟨⟨a, b⟩, (l.getD k kd0).mins, (l.getD k kd0).water, (l.getD k kd0).cost⟩ = l.take k ++ ⟨⟨a, b⟩, (l.getD k kd0).mins, (l.getD k kd0).water, (l.getD k kd0).cost⟩ :: l.drop (k + 1) := by
  rw [List.set_eq_take_append_cons_drop, if_pos hk]
 rw [h3]
 conv => lhs; rw [h1, ← h2]
 rw [show spl (kdsC (l.take k) ++ (kdC (l.getD k kd0) ++ kdsC (l.drop (k + 1)))) (kdsC (l.take k)).length [.int .i64 a, .int .i64 b] = kdsC (l.take k) ++ spl (kdC (l.getD k kd0) ++ kdsC (l.drop (k + 1))) 0 [.int .i64 a, .int .i64 b] from spl_app_r _ _ _ 0 (by simp [kdC])]
 unfold kdsC
 rw [List.flatMap_append, List.flatMap_cons]
 rfl
theorem kd_up {l : List Kd} {k : Nat} (hk : k < l.length) (d : Int) : spl (kdsC l) (k * 5) [.int .i64 ((l.getD k kd0).power.lo + d), .int .i64 ((l.getD k kd0).power.hi + d)] = kdsC (kdUp l k d) := spl_kd hk _ _
theorem kdUp_len (l : List Kd) (k : Nat) (d : Int) : (kdUp l k d).length = l.length := List.length_set ..
theorem kdUp_nil {l : List Kd} (h : ¬0 < l.length) (k : Nat) (d : Int) : kdUp l k d = l := List.set_eq_of_length_le (by omega)
theorem sm_wee {ru : Rules} (hro : RulesOk ru) {l : List Ev} (hl : l.length ≤ 30) : Wee ru l := by
 have := hro.n8;have h1 := hro.al;have h2 := hro.pl;have h3 := hro.k4
 exact ⟨by omega, by omega, by omega, by omega, by omega, fun j hj => by rw [hro.ar j (by omega)]; omega, fun j hj => by rw [hro.pr j (by omega)]; omega⟩
theorem sm_jobs {ru : Rules} (h4 : ru.levels.length = 4) {td : List Int} (hb : ∀ i, i < td.length → byte (td.getD i 0)) {m : Nat} (hm : m ≤ 10) : (jobsL td m).length ≤ m ∧ jobsE ru (jobsL td m) 10 = 0 := by
 have hl : (jobsL td m).length ≤ m := by simp [jobsL]; omega
 refine ⟨hl, ?_⟩
 unfold jobsE
 rw [if_neg (by omega), if_pos]
 simp only [jobsL, List.all_map, List.all_eq_true]
 intro x hx;obtain ⟨i, hi, rfl⟩ := List.mem_iff_getElem.1 (List.mem_of_mem_take hx);have h1 := hb i hi;rw [getD_in hi] at h1;have h2 := byte_rem h1 (m := 4) (by omega)
 simp only [Function.comp, inB_iff, h4]
 omega
/-- the breach x is among the first ones of B, and no less sure there -/
def inF (x : Br) (B : List Br) : Nat → Bool
 | 0 => false
 | k + 1 => inF x B k || (decide ((B.getD k ⟨0, 0, false⟩).event = x.event) && decide ((B.getD k ⟨0, 0, false⟩).cargo = x.cargo) && ((B.getD k ⟨0, 0, false⟩).sure || !x.sure))
theorem inF_of {x : Br} {B : List Br} {k : Nat} (h1 : (B.getD k ⟨0, 0, false⟩).event = x.event) (h2 : (B.getD k ⟨0, 0, false⟩).cargo = x.cargo) (h3 : x.sure = true → (B.getD k ⟨0, 0, false⟩).sure = true) : ∀ n, k < n → inF x B n = true
 | 0, h => absurd h (by omega)
 | n + 1, h => by
  unfold inF
  rw [Bool.or_eq_true]
  by_cases e : k = n
  ·subst e
   refine .inr ?_;rw [decide_eq_true h1, decide_eq_true h2]
   cases hx : x.sure with
   | false => simp
   | true => rw [h3 hx]; rfl
  ·exact .inl (inF_of h1 h2 h3 n (by omega))
theorem cov_in {A B : List Br} (h : Cov A B) {i : Nat} (hi : i < A.length) : inF (A.getD i ⟨0, 0, false⟩) B B.length = true := by
 obtain ⟨y, hy, h1, h2, h3⟩ := h.mem _ (getD_mem hi ⟨0, 0, false⟩);obtain ⟨k, hk, rfl⟩ := List.mem_iff_getElem.1 hy;have e : B.getD k ⟨0, 0, false⟩ = B[k] := getD_in hk
 exact inF_of (k := k) (by rw [e]; exact h1) (by rw [e]; exact h2) (by rw [e]; exact h3) _ hk
/-- what Fewest tells -/
def FewW (ru : Rules) (l : List Ev) (js ws : List Int) : Prop := codeS ru l js = 0 → ws.length = js.length ∧ ∀ i, i < ws.length → ∃ p, IsBest (compl (extY (yardOf ru 1)) ((js.map Int.toNat).take (i + 1)) ([tkE ru l, tank0, tank0], pl0)) p ∧ ws.getD i 0 = p.washes
theorem few_le {r b : Rules} (hb : Better r b) {l : List Ev} {js ws vs : List Int} (h1 : refE r l = 0) (h2 : refE b l = 0) (hj : jobsE r js 10 = 0) (hc : codeS r l js = 0) (hw : FewW r l js ws) (hv : FewW b l js vs) : codeS b l js = 0 ∧ ws.length = js.length ∧ vs.length = js.length ∧ ∀ i, i < js.length → vs.getD i 0 ≤ ws.getD i 0 := by
 have hc2 := code_le hb h1 h2 hj hc;obtain ⟨l1, w1⟩ := hw hc;obtain ⟨l2, w2⟩ := hv hc2;refine ⟨hc2, l1, l2, fun i hi => ?_⟩
 obtain ⟨p, hp, e1⟩ := w1 i (by omega)
 obtain ⟨q, hq, e2⟩ := w2 i (by omega)
 rw [e1, e2]
 exact best_le hb (three_le hb h1 h2) hp hq
theorem code_two {ru : Rules} {l : List Ev} {js : List Int} (h1 : refE ru l = 0) (hj : jobsE ru js 10 = 0) : codeS ru l js = 0 ∨ codeS ru l js = 7 := by
 have e : errS ru l js = 0 := by unfold errS; rw [if_pos h1, hj]
 unfold codeS
 rw [if_pos e]
 split
 ·exact .inr rfl
 ·exact .inl rfl
section
variable {n : Nat} {σ : Sg} {w : World} {dst : Option Tmp} {ty : TypeId} {pos : String} {af : Array Edge} {g : Option (Nat × Bool)} {x y z : Operand} {at' : Array TypeId}
theorem bx_72 {v0 v1 v2 v3 : Value} (hx : evS σ x = some (.agg #[v0, v1, v2, v3])) (a : Act) (ha : Env n σ a) : (execOp a.eval ⟨dst, .box 72 x, ty, pos, af, g⟩).run Try.prog w = .ok (.value (.pointer (some ⟨w.heap.size, 0, none⟩))) (w.alloc (.cells #[v0, v1, v2, v3] 72)) := by
 simp only [execOp, ha.eval hx]
 simp [go_sem]
theorem cF31 : cF 31 := fun _ _ => by simp [go_sem]
theorem fa_46_0 {b o : Nat} (hx : evS σ x = some (.pointer (some ⟨b, o, none⟩))) : Gives Try.prog n σ w ⟨dst, .fieldAddr 46 x 0, ty, pos, af, g⟩ (.pointer (some ⟨b, o, none⟩)) := fun a ha => by
 simp only [execOp, ha.eval hx]
 simp [go_sem]
theorem fa_46_1 {b o : Nat} (hx : evS σ x = some (.pointer (some ⟨b, o, none⟩))) : Gives Try.prog n σ w ⟨dst, .fieldAddr 46 x 1, ty, pos, af, g⟩ (.pointer (some ⟨b, o + 1, none⟩)) := fun a ha => by
 simp only [execOp, ha.eval hx]
 simp [go_sem]
theorem fa_46_2 {b o : Nat} (hx : evS σ x = some (.pointer (some ⟨b, o, none⟩))) : Gives Try.prog n σ w ⟨dst, .fieldAddr 46 x 2, ty, pos, af, g⟩ (.pointer (some ⟨b, o + 2, none⟩)) := fun a ha => by
 simp only [execOp, ha.eval hx]
 simp [go_sem]
end
end Go.Proofs.Ytdkedhcbdbpccaa
