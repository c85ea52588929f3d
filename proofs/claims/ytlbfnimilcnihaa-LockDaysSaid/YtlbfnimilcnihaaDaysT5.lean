/- X10, LkBest, ExX11, X11, ExX12, X12, LkCarry, ExX13: what LockDaysProof needs of them (merged by trimpack.py). -/
import Derived.Test.YtlbfnimilcnihaaDaysT4
set_option linter.unusedVariables false
set_option linter.unusedSimpArgs false
namespace Go.Proofs.Ytlbfnimilcnihaa
open Go Go.RowKit
theorem plans_fn {l : LK} {A : Option Addr} {n c : Nat} (w : World) : Calls Try.prog 46 #[.agg #[.int .i64 l.length, .int .i64 l.cycle, .int .i64 l.turn, .int .i64 l.fill, .int .i64 l.save, .bool l.high], .slice A n c] w fun e w' => (∃ g2 g3, e = .returned (.func (.func 61) #[] #[.pointer (some ⟨g3, 0, none⟩), .pointer (some ⟨g2, 0, none⟩)]) ∧ Blk w' g2 23 (lkC l).toArray ∧ Blk w' g3 24 #[.slice A n c] ∧ w.heap.size ≤ g2 ∧ w.heap.size ≤ g3) ∧ Below w.heap.size w w' := by
 have hbw := Below.refl w.heap.size w;refine EC.enter 6 Try.func46 rfl rfl rfl (EC.seq (EC.region (EL.newP (bx_23 rfl) rfl ?_)));intro g1 w1 q1 hb1 hg1 hl1;have bhbw_1 := Nat.le_trans hbw.size hg1;replace hbw := bo_ hbw hb1;clear hb1 hg1 hl1;refine EL.newP (bx_24 rfl rfl) rfl ?_;intro g2 w2 q2 hb2 hg2 hl2;have n1_2 := q1.na hg2;have bhbw_2 := Nat.le_trans hbw.size hg2;replace q1 := q1.bl hb2;replace hbw := bo_ hbw hb2;clear hb2 hg2 hl2;refine EL.as rfl rfl (EL.nil (EX.seq (EC.seq (EC.region (EL.val (mf_61_0_2 rfl rfl) rfl (EL.as rfl rfl (EL.nil (EX.seq (EC.ret ?_)))))))))
 exact EX.done (res1 rfl rfl) ⟨⟨_, _, rfl, q1, q2, bhbw_1, bhbw_2⟩, hbw⟩
theorem complete_b {q : QS} {d : Dr} {v : Value} {w : World} {B : Nat} {A0 A1 : Option Addr} {c0 c1 : Nat} {b : Bool} (hd : RdDr w B v d) (hB : B ≤ w.heap.size) (hb : compB q d.s = b) :
  Calls Try.prog 63 #[v, .agg #[.slice A0 (q false).length c0, .slice A1 (q true).length c1]] w fun e w' => e = .returned (.bool b) ∧ Below w.heap.size w w' := hb ▸ complete_any hd hB
theorem heap_one {x : VD} : HeapF [x].length (gD [x]) := fun k h0 hk => by
 have : k < 1 := hk
 omega
set_option maxHeartbeats 2000000 in
set_option maxRecDepth 100000 in
theorem plans_iter {l : LK} {ts : List TW} {q : QS} {At : Option Addr} {ct B n0 g2 g3 : Nat} {S : List Nat} {w : World} (hqe : q = qL ts) (hqk : QOk l q) (hn8 : ts.length ≤ 8) (h2 : Blk w g2 23 (lkC l).toArray) (h3 : Blk w g3 24 #[.slice At ts.length ct]) (hr0 : Rd w B 5 (.slice At ts.length ct) ts.length (twsC ts)) (hB0 : B ≤ w.heap.size) (hn0 : n0 ≤ w.heap.size) :
  IterAtR (fun l_ => SameF (l_ + 1)) [145, 122] Try.prog 61 #[.pointer (some ⟨g3, 0, none⟩), .pointer (some ⟨g2, 0, none⟩)] (fun x V => okP l q w.heap.size x V) n0 S (allE (allD l q).length) w := by
 intro la J Jx W hbW hla hla2 hJ hJx hY hJ0;change Calls Try.prog 61 #[.func (.yield la) #[] #[], .pointer (some ⟨g3, 0, none⟩), .pointer (some ⟨g2, 0, none⟩)] W _;have hlaW : la + 1 ≤ W.heap.size := hla2;have hn0W : n0 ≤ W.heap.size := Nat.le_trans hn0 hbW.size;have hB : B ≤ W.heap.size := Nat.le_trans hB0 hbW.size;have hr := hr0.below (hbW.mono hB0);have qc2 := h2.below hbW h2.lt;have qc3 := h3.below hbW h3.lt;have hbw := Below.refl W.heap.size W;replace hY : ∀ pre x W1, okP l q W.heap.size x W1 → J pre W1 → (pre ++ [x]).map (·.1) <+: allE (allD l q).length → YieldW Try.prog la #[x.2] W1 (RoundAnsR (fun l_ => SameF (l_ + 1)) n0 S la J Jx (pre ++ [x]) W1) := fun pre x W1 h => hY pre x W1 (OwnDr.mono h hbW.size)
 refine EC.marks 45 Try.func61 rfl rfl rfl (ECI.seq (ECI.regionLD (EL.val (ld_24 rfl (qc3.at (j := 0) rfl)) rfl (EL.call (cA1 cF55 rfl) rfl (newq_any (hr.below (hbw.mono hB)) (Nat.le_trans hB hbw.size) hn8) ?_))))
 rintro e w3 ⟨s0, s1, rfl, hq0, hq1, hc3⟩
 refine ⟨_, rfl, ?_⟩;rw [← hqe] at hq0 hq1;replace hq0 := own_mono hq0 hbw.size;replace hq1 := own_mono hq1 hbw.size;obtain ⟨A0, c0, rfl, _⟩ := (Rd.of_own hq0).shape;obtain ⟨A1, c1, rfl, _⟩ := (Rd.of_own hq1).shape;replace qc3 := qc3.bl hc3;replace qc2 := qc2.bl hc3;replace hbw := bo_ hbw hc3;clear hc3;refine EL.newP al_134 rfl ?_;intro g4 w4 q4 hb4 hg4 hl4;have n2_4 := qc3.na hg4;have n1_4 := qc2.na hg4;have bhbw_4 := Nat.le_trans hbw.size hg4;replace qc3 := qc3.bl hb4;replace qc2 := qc2.bl hb4;replace hq0 := own_below hq0 hb4 (Nat.le_refl _);replace hq1 := own_below hq1 hb4 (Nat.le_refl _);replace hbw := bo_ hbw hb4;clear hb4 hg4 hl4;refine EL.store rfl rfl q4 sz_134 rfl rfl rfl rfl ?_;intro w5 hq5 hg5;replace qc3 := qc3.gr hg5 n2_4;replace qc2 := qc2.gr hg5 n1_4;replace hq0 := own_type hq0 q4 rfl hg5;replace hq1 := own_type hq1 q4 rfl hg5;replace hbw := below_store hbw hg5 bhbw_4;replace q4 := hq5;clear hg5 hq5;refine EL.nil (EX.ofD (EXI.seq (ECI.seq (ECI.regionLD (EL.val (bd_124_) rfl (EL.newP (bx_124 rfl) rfl ?_))))));intro g6 w6 q6 hb6 hg6 hl6;have n2_6 := qc3.na hg6;have n1_6 := qc2.na hg6;have n4_6 := q4.na hg6;have bhbw_6 := Nat.le_trans hbw.size hg6;replace qc3 := qc3.bl hb6;replace qc2 := qc2.bl hb6;replace q4 := q4.bl hb6;replace hq0 := own_below hq0 hb6 (Nat.le_refl _);replace hq1 := own_below hq1 hb6 (Nat.le_refl _);replace hbw := bo_ hbw hb6;clear hb6 hg6 hl6;refine EL.as rfl rfl (EL.nil (EX.ofD (EXI.seq (ECI.seq (ECI.regionLD (EL.mv rfl rfl (EL.val (ld_23 rfl (qc2.at (j := 0) rfl) (qc2.at (j := 1) rfl) (qc2.at (j := 2) rfl) (qc2.at (j := 3) rfl) (qc2.at (j := 4) rfl) (qc2.at (j := 5) rfl)) rfl (EL.val (x_nilCheck rfl) rfl (EL.val (fa_124_0 rfl) rfl ?_)))))))));refine EL.val (fa_114_0 rfl) rfl (EL.val (fa_111_0 rfl) rfl (EL.store rfl rfl q6 sz_23 rfl rfl rfl rfl ?_));intro w7 hq7 hg7;replace qc3 := qc3.gr hg7 n2_6;replace qc2 := qc2.gr hg7 n1_6;replace q4 := q4.gr hg7 n4_6;replace hq0 := own_type hq0 q6 rfl hg7;replace hq1 := own_type hq1 q6 rfl hg7;replace hbw := below_store hbw hg7 bhbw_6;replace q6 := hq7;clear hg7 hq7;refine EL.nil (EX.ofD (EXI.seq (ECI.seq (ECI.regionLD (EL.mv rfl rfl (EL.newS (bs_145_1 rfl) rfl ?_))))));intro g8 w8 q8 hb8 hg8 hl8;have n2_8 := qc3.na hg8;have n1_8 := qc2.na hg8;have n4_8 := q4.na hg8;have n6_8 := q6.na hg8;have bhbw_8 := Nat.le_trans hbw.size hg8;replace qc3 := qc3.bl hb8;replace qc2 := qc2.bl hb8;replace q4 := q4.bl hb8;replace q6 := q6.bl hb8;replace hq0 := own_below hq0 hb8 (Nat.le_refl _);replace hq1 := own_below hq1 hb8 (Nat.le_refl _);replace hbw := bo_ hbw hb8;clear hb8 hg8 hl8;refine EL.newP al_145 rfl ?_;intro g9 w9 q9 hb9 hg9 hl9;have n2_9 := qc3.na hg9;have n1_9 := qc2.na hg9;have n4_9 := q4.na hg9;have n6_9 := q6.na hg9;have n8_9 := q8.na hg9;have bhbw_9 := Nat.le_trans hbw.size hg9;replace qc3 := qc3.bl hb9;replace qc2 := qc2.bl hb9;replace q4 := q4.bl hb9;replace q6 := q6.bl hb9;replace q8 := q8.bl hb9;replace hq0 := own_below hq0 hb9 (Nat.le_refl _);replace hq1 := own_below hq1 hb9 (Nat.le_refl _);replace hbw := bo_ hbw hb9;clear hb9 hg9 hl9;refine EL.store rfl rfl q9 sz_145 rfl rfl rfl rfl ?_;intro w10 hq10 hg10;replace qc3 := qc3.gr hg10 n2_9;replace qc2 := qc2.gr hg10 n1_9;replace q4 := q4.gr hg10 n4_9;replace q6 := q6.gr hg10 n6_9;replace q8 := q8.gr hg10 n8_9;replace hq0 := own_type hq0 q9 rfl hg10;replace hq1 := own_type hq1 q9 rfl hg10;replace hbw := below_store hbw hg10 bhbw_9;replace q9 := hq10;clear hg10 hq10;refine EL.nil (EX.ofD (EXI.seq (ECI.block ?_)));have hg4W : W.heap.size ≤ g4 := bhbw_4;have hd0 : OwnDr w10 W.heap.size (.pointer (some ⟨g6, 0, none⟩)) ⟨stL l, []⟩ := ⟨_, _, rfl, bhbw_6, q6, own_nil _ _ _ _⟩;have hPl : PileAt (fun g => W.heap.size ≤ g) w10 W.heap.size g9 (.slice (some ⟨g8, 0, none⟩) 1 1) [(.pointer (some ⟨g6, 0, none⟩), ⟨stL l, []⟩)] := ⟨q9, bhbw_9, own_box1 q8 bhbw_8, fun g e => by injection e with e; subst e; exact bhbw_8, fun x hx => by rw [List.mem_singleton.1 hx]; exact hd0⟩
 have hkp := Kp.of_below (n0 := n0) (S := S) hbw hn0W;replace hJ0 := hJ _ _ _ hJ0 (Soft.of_below hbw);refine ECI.loopD [6, 7, 8, 21, 22, 23, 24, 25, 26, 27, 28, 29, 30, 31, 32, 33, 34, 35, 36, 37, 38, 40, 41, 42, 43, 44] (fun x : LS => [(6, .pointer (some ⟨x.bp, 0, none⟩))]) (fun x => x.ds) (fun x V => x.xs.map (·.1) = allE x.out.length ∧ SI l q x.out (x.ps.map Prod.snd) ∧ HeapF x.ps.length (gD x.ps) ∧ sizeL q (x.ps.map Prod.snd) ≤ 6561 ∧ PileAt (fun g => W.heap.size ≤ g) V W.heap.size x.bp x.sl x.ps ∧ Blk V g4 134 #[.slice A0 (q false).length c0, .slice A1 (q true).length c1] ∧ V.ownsRow W.heap.size 39 5 (.slice A0 (q false).length c0) (q false).length (twsC (q false)) ∧ V.ownsRow W.heap.size 39 5 (.slice A1 (q true).length c1) (q true).length (twsC (q true)) ∧ Marks W.heap.size x.ds V ∧ x.ds.Nodup ∧ Kp n0 S W V ∧ J x.xs V) (fun x => sizeL q (x.ps.map Prod.snd)) ⟨[], [], [(.pointer (some ⟨g6, 0, none⟩), ⟨stL l, []⟩)], .slice (some ⟨g8, 0, none⟩) 1 1, g9, []⟩ ⟨rfl, SI.start hqk.lk, heap_one, size_start hqk, hPl, q4, hq0, hq1, (fun d hd => by cases hd), List.nodup_nil, hkp, hJ0⟩ ⟨rfl, trivial⟩ rfl ?_
 clear hPl hd0 hkp hJ0 hq0 hq1 q4 q9 q6 q8 hbw
 rintro ⟨xs, out, ps, sl, bp, ds⟩ V ⟨hxs, hSI, hhp, hsz, hPl, q4, hq0, hq1, hM, hnd, hkp, hJ0⟩
 dsimp only at hxs hSI hhp hsz hPl hM hnd hJ0
 obtain ⟨Ap, cp, rfl, _⟩ := (Rd.of_own hPl.row).shape;have hlen := Nat.le_trans (size_len (q := q) (ps := ps.map Prod.snd)) hsz;rw [List.length_map] at hlen
 by_cases hne : 0 < ps.length
 ·
  refine ECI.seq (ECI.seq (ECI.regionLD (EL.val (ld_145 rfl (hPl.box.at (j := 0) rfl)) rfl (EL.val (ln_145 rfl) rfl ?_))));refine EL.val (x_gtr (r := true) rfl rfl (decide_eq_true (by omega))) rfl ?_
  refine EL.nil (EX.ofD (EXI.seq (ECI.yes rfl (ECI.skip (EXI.seq (ECI.seq (ECI.block (ECI.seq (ECI.regionLD ?_)))))))));refine EL.val (mi_147 rfl) rfl ?_;refine EL.call (cA1 cF62 rfl) rfl (hpop_any (m := ps.length - 1) hPl hhp (by omega) (by omega) (SI.bound hqk hSI)) ?_
  rintro e w5 ⟨⟨v, d⟩, sl2, rest, rfl, hpm, hmin, hhr, hPr, hdy, ht5⟩
  refine ⟨_, rfl, ?_⟩
  dsimp only at hmin hdy
  replace q4 := ht5.blk q4 rfl;replace hq0 := ht5.row hq0 rfl;replace hq1 := ht5.row hq1 rfl;replace hM := hM.keeps ht5.keeps;replace hkp := TurnsS.kpT hkp ht5 (fun g h => h) hn0W
  replace hJ0 := TurnsS.softI hJ0 ht5 (fun g h => Nat.le_trans hlaW h) hJ
  clear hPl ht5;have hPl := hPr;clear hPr;have hd := hSI.ok d ((pop_perm hpm).mem_iff.2 (List.mem_cons_self ..));obtain ⟨hSI2, hpre2, hsz2⟩ := hSI.pop hqk (pop_perm hpm) (pop_min hmin);obtain ⟨bd, sld, rfl, hbd, _⟩ := hdy.at_;refine EL.val (ta_122 rfl) rfl (EL.as rfl rfl (EL.nil (EX.ofD (EXI.seq (ECI.seq (ECI.seq ?_))))))
  cases hcb : compB q d.s
  ·
   refine ECI.region (ELI.val (x_move rfl) rfl (ELI.val (ld_134 rfl (q4.at (j := 0) rfl) (q4.at (j := 1) rfl)) rfl (ELI.call (cA2 cF63 rfl rfl) rfl (complete_b hdy.rd (Nat.le_refl _) hcb) ?_)))
   rintro e w6 ⟨rfl, hc6⟩
   refine ⟨_, rfl, ?_⟩;replace q4 := q4.bl hc6;replace hkp := hkp.trans (Kp.of_below hc6 (Nat.le_trans hn0W hkp.size));replace hJ0 := hJ _ _ _ hJ0 (Soft.of_below hc6);replace hM := hM.below hc6;replace hq0 := own_below hq0 hc6 (Nat.le_refl _);replace hq1 := own_below hq1 hc6 (Nat.le_refl _);replace hPl := hPl.below hc6;replace hdy := hdy.below hc6;clear hc6;refine ELI.val (x_move rfl) rfl (ELI.skip rfl rfl rfl rfl (ELI.skip rfl rfl rfl rfl (ELI.skip rfl rfl rfl rfl (ELI.skip rfl rfl rfl rfl (ELI.val (x_pick_f rfl rfl) rfl (ELI.nil ?_))))));rw [hcb, if_neg (by decide)] at hSI2
   clear hpre2;refine EXI.seq (ECI.no rfl (ECI.skip (EXI.seq (ECI.seq (ECI.regionLD (EL.mv rfl rfl (EL.val (ld_134 rfl (q4.at (j := 0) rfl) (q4.at (j := 1) rfl)) rfl ?_)))))));obtain ⟨lo, hlo⟩ : ∃ lo, lo = w6.heap.size := ⟨_, rfl⟩;have hbl : bp < lo := by rw [hlo]; exact hPl.box.lt
   have hrl : ∀ g, sl2.ownBlock = some g → g < lo := fun g e => by rw [hlo]; exact (hPl.row.lt g e).2
   refine EL.call (cA2 cF64 rfl rfl) rfl (next_fn _ rfl rfl) ?_
   rintro e w11 ⟨⟨g2n, g3n, rfl, qn2, qn3, hgn2, hgn3⟩, hc11⟩
   refine ⟨_, rfl, ?_⟩;rw [← hlo] at hgn2 hgn3;replace q4 := q4.bl hc11;replace hkp := hkp.trans (Kp.of_below hc11 (Nat.le_trans hn0W hkp.size));replace hJ0 := hJ _ _ _ hJ0 (Soft.of_below hc11);replace hM := hM.below hc11;replace hq0 := own_below hq0 hc11 (Nat.le_refl _);replace hq1 := own_below hq1 hc11 (Nat.le_refl _);replace hPl := hPl.below hc11;replace hdy := hdy.below hc11;clear hc11;refine EL.nil (EX.ofD (EXI.seq (ECI.block ?_)));have hVW : W.heap.size ≤ w11.heap.size := hkp.size;have hloV : lo ≤ w11.heap.size := Nat.le_trans hgn2 (Nat.le_of_lt qn2.lt);have hsoft : SoftI w11.heap.size w11.heap.size [] (fun pre X => ∃ sl3 ps3, PileAt (fun g => W.heap.size ≤ g ∧ (g < lo ∨ w11.heap.size ≤ g)) X W.heap.size bp sl3 ps3 ∧ HeapF ps3.length (gD ps3) ∧ (ps3.map Prod.snd).Perm (rest.map Prod.snd ++ (nextL q d).take pre.length) ∧ Blk X g4 134 #[.slice A0 (q false).length c0, .slice A1 (q true).length c1] ∧ X.ownsRow W.heap.size 39 5 (.slice A0 (q false).length c0) (q false).length (twsC (q false)) ∧ X.ownsRow W.heap.size 39 5 (.slice A1 (q true).length c1) (q true).length (twsC (q true)) ∧ MarksIn W.heap.size ds w11 X ∧ Kp n0 S W X ∧ J xs X) := fun s A B' ⟨sl3, ps3, h1, h2, h3, h4, h5, h6, h7, h8, h9⟩ hs => ⟨sl3, ps3, h1.soft hs rfl rfl rfl rfl, h2, h3, hs.blk h4 rfl, hs.row h5 rfl, hs.row h6 rfl, h7.soft (Nat.le_refl _) hs, h8.soft hs (Nat.le_trans hn0W hVW) hn0W, hJ _ _ _ h9 ((hs.mono2 (Nat.le_trans hlaW hVW)).none)⟩
   have hP0 : PileAt (fun g => W.heap.size ≤ g ∧ (g < lo ∨ w11.heap.size ≤ g)) w11 W.heap.size bp sl2 rest := hPl.weak ⟨hPl.pb, .inl hbl⟩ (fun g e => ⟨hPl.pr g e, .inl (hrl g e)⟩)
   refine rangeFR (U := []) (Fr := fun _ => Same lo w11.heap.size) (ok := okN q d W.heap.size) (n0 := W.heap.size) (S := [145, 122]) (σ1 := fun x => _) rfl (fun args w => by kernel_rfl) rfl (next_iter hqk hd qn2 qn3 hdy hq0 hq1 ⟨hgn2, qn2.lt⟩ hVW) (same_ok (.inr (Nat.le_succ _))) hVW (fun pre X => ∃ sl3 ps3, PileAt (fun g => W.heap.size ≤ g ∧ (g < lo ∨ w11.heap.size ≤ g)) X W.heap.size bp sl3 ps3 ∧ HeapF ps3.length (gD ps3) ∧ (ps3.map Prod.snd).Perm (rest.map Prod.snd ++ (nextL q d).take pre.length) ∧ Blk X g4 134 #[.slice A0 (q false).length c0, .slice A1 (q true).length c1] ∧ X.ownsRow W.heap.size 39 5 (.slice A0 (q false).length c0) (q false).length (twsC (q false)) ∧ X.ownsRow W.heap.size 39 5 (.slice A1 (q true).length c1) (q true).length (twsC (q true)) ∧ MarksIn W.heap.size ds w11 X ∧ Kp n0 S W X ∧ J xs X) (fun _ _ => False) hsoft soft_false ⟨_, _, hP0, hhr, by simp, q4, hq0, hq1, hM.refl, hkp, hJ0⟩ (fun x A B' row h hg hr => OwnDr.soft (b := w11.heap.size) (m := w11.heap.size) (U := []) h ⟨row, hg, fun g e => .inr (hr g e)⟩ rfl rfl) (fun l_ x X K hK => by
     refine ECI.regionL (lets_then lets_no) (by kernel_rfl) ?_
     refine EL.as rfl rfl (EL.nil (EX.toI ?_))
     exact fun a' ha' => hK a' ha') ?_ ?_ ?_
   ·
    clear hsoft hP0 q4 hq0 hq1 hM hkp hJ0 hPl hdy
    rintro la9 pre ⟨x1, x2⟩ X hpf hokx ⟨sl3, ps3, hP3, hh3, hpm3, q4, hq0, hq1, hMI, hkp, hJ0⟩ hsz9
    obtain ⟨hnN, ex⟩ := pre_at hpf
    dsimp only at ex
    subst ex;have hdx : OwnDr X W.heap.size x2 ((nextL q d).getD pre.length dr0) := hokx;have hln3 := mid_len (Nat.le_trans (Nat.le_of_lt hsz2) hsz) hpm3;refine ECI.block ?_;refine ECI.regionL (by repeat (first | exact lets_bodyR | exact lets_no | refine lets_then ?_ | refine lets_blk ?_)) (by kernel_rfl) ?_
    refine EL.val (mi_147 rfl) rfl (EL.mv rfl rfl (EL.val (mi_122 rfl) rfl ?_));refine EL.call (cA2 cF65 rfl rfl) rfl (hpush_any hP3 hh3 hdx (Nat.le_trans hVW (by omega)) (fun g h => ⟨by omega, .inr (by omega)⟩) (by omega) (mid_bound hqk hSI2 (mid_perm hnN hpm3 (.refl _)))) ?_
    rintro e w9 ⟨rfl, sl9, ps9, hpm9, hh9, hP9, ht9⟩
    refine ⟨_, rfl, ?_⟩;refine EL.nil (EX.toI (EXI.blk ?_))
    exact fun a0 ha0 => ⟨.of ht9.keeps, ht9.kp (fun _ h => h) (fun g h => h.1) (by omega), ht9.same (fun g h => h.2), .inl ⟨rfl, sl9, ps9, hP9, hh9, by rw [List.length_append]; exact mid_perm hnN hpm3 hpm9, ht9.blk q4 rfl, ht9.row hq0 rfl, ht9.row hq1 rfl, hMI.keeps ht9.keeps, TurnsS.kpT hkp ht9 (fun g h => h.1) hn0W, TurnsS.softI hJ0 ht9 (fun g h => Nat.le_trans hlaW h.1) hJ⟩⟩
   ·
    clear hsoft hP0 q4 hq0 hq1 hM hkp hJ0 hPl hdy
    rintro Dm zs X hDm hall9 ⟨sl3, ps3, hP3, hh3, hpm3, q4, hq0, hq1, hMI, hkp, hJ0⟩ hkp9 hdef
    have hzl : zs.length = (nextL q d).length := by have := congrArg List.length hall9; rwa [List.length_map, allE_len] at this
    rw [hzl, List.take_length] at hpm3;have hPl := hP3.weak (p' := (fun g => W.heap.size ≤ g)) hP3.pb.1 (fun g e => (hP3.pr g e).1)
    have hM := hMI.marks.cons (Nat.le_trans hVW hDm) hdef;have hnd2 := List.nodup_cons.2 ⟨fun hm => hMI.fresh hDm hm, hnd⟩
    clear hnd hMI hkp9 hP3;have hnd := hnd2;clear hnd2;obtain ⟨A3, c3, rfl, _⟩ := (Rd.of_own hPl.row).shape;refine EXI.blk (EXI.blk (EXI.seq (ECI.seq (ECI.regionLD (EL.val (ld_145 rfl (hPl.box.at (j := 0) rfl)) rfl (EL.nil (EX.ofD (EXI.seq (ECI.regionLD ?_)))))))));refine EL.newP al_145 rfl ?_;intro g12 w12 q12 hb12 hg12 hl12;have n4_12 := q4.na hg12;have hge12 : W.heap.size ≤ g12 := Nat.le_trans hkp.size hg12;replace q4 := q4.bl hb12;replace hkp := hkp.trans (Kp.of_below hb12 (Nat.le_trans hn0W hkp.size));replace hJ0 := hJ _ _ _ hJ0 (Soft.of_below hb12);replace hM := hM.below hb12;replace hq0 := own_below hq0 hb12 (Nat.le_refl _);replace hq1 := own_below hq1 hb12 (Nat.le_refl _);replace hPl := hPl.below hb12;clear hb12 hg12 hl12;refine EL.store rfl rfl q12 sz_145 rfl rfl rfl rfl ?_;intro w13 hq13 hg13;replace q4 := q4.gr hg13 n4_12;replace hkp := hkp.turn hg13 hge12 hn0W;replace hJ0 := hJ _ _ _ hJ0 ⟨_, hg13, fun k e => by injection e with e; subst e; exact .inl ⟨Nat.le_trans hlaW hge12, 145, _, rfl, q12⟩⟩
    replace hM := hM.keeps (keeps_blk q12 hg13);replace hq0 := own_type hq0 q12 rfl hg13;replace hq1 := own_type hq1 q12 rfl hg13;replace hPl := hPl.moved q12 hg13 hq13 hge12;replace q12 := hq13;clear hg13 hq13;refine EL.nil (EX.ofD ?_);refine EXI.roundD ⟨xs, out, ps3, _, g12, _⟩ ⟨rfl, trivial⟩ (by repeat first | with_reducible exact .refl _ | refine sp_ rfl ?_ | exact .refl _ | refine sd_ rfl ?_ | refine sn_ ?_) rfl ⟨hxs, hSI2.perm hqk hpm3.symm, hh3, by show sizeL q (ps3.map Prod.snd) ≤ 6561; rw [sizeL_perm hpm3]; exact Nat.le_trans (Nat.le_of_lt hsz2) hsz, hPl, q4, hq0, hq1, hM, hnd, hkp, hJ0⟩ (show sizeL q (ps3.map Prod.snd) < sizeL q (ps.map Prod.snd) by rw [sizeL_perm hpm3]; exact hsz2)
   ·intro Dm pre X hD hne2 hall9 h
    exact absurd h id
  ·
   refine ECI.region (ELI.val (x_move rfl) rfl (ELI.val (ld_134 rfl (q4.at (j := 0) rfl) (q4.at (j := 1) rfl)) rfl (ELI.call (cA2 cF63 rfl rfl) rfl (complete_b hdy.rd (Nat.le_refl _) hcb) ?_)))
   rintro e w6 ⟨rfl, hc6⟩
   refine ⟨_, rfl, ?_⟩;replace q4 := q4.bl hc6;replace hkp := hkp.trans (Kp.of_below hc6 (Nat.le_trans hn0W hkp.size));replace hJ0 := hJ _ _ _ hJ0 (Soft.of_below hc6);replace hM := hM.below hc6;replace hq0 := own_below hq0 hc6 (Nat.le_refl _);replace hq1 := own_below hq1 hc6 (Nat.le_refl _);replace hPl := hPl.below hc6;replace hdy := hdy.below hc6;clear hc6;refine ELI.val (x_move rfl) rfl (ELI.valg rfl rfl (x_move rfl) rfl (ELI.valg rfl rfl (x_move rfl) rfl ?_));have hpd := hpre2 hcb;have hpf : (xs ++ [([((out.length : Nat) : Int)], Value.pointer (some ⟨bd, 0, none⟩))]).map (·.1) <+: allE (allD l q).length := okP_pre hxs rfl hpd;obtain ⟨fn_, tmps_, assign_, body_, hi_, hR_⟩ := hY xs ([((out.length : Nat) : Int)], Value.pointer (some ⟨bd, 0, none⟩)) _ (okP_mk rfl hdy hpd) hJ0 hpf;refine ELI.yieldg rfl rfl rfl rfl rfl hi_ hR_ ?_
   rintro e wy ⟨hky, hkf, hfr, ⟨rfl, hJy⟩ | ⟨rfl, hJy⟩⟩
   ·
    refine ⟨_, rfl, ?_⟩;refine ELI.valg rfl rfl (x_not rfl) rfl (ELI.val (x_pick_t rfl rfl) rfl (ELI.nil ?_));have hsm := SameF.mono hfr hlaW;replace hPl := hPl.same hPl.pb hsm;replace hdy := hdy.same hsm;replace q4 : Blk wy g4 134 #[.slice A0 (q false).length c0, .slice A1 (q true).length c1] := (hsm g4 hg4W q4.lt).trans q4;replace hq0 := row_same hq0 hsm;replace hq1 := row_same hq1 hsm;replace hM := hM.keepsFrom hlaW hkf;replace hkp := hkp.trans hky;clear hJ0;have hJ0 := hJy;clear hJy hky hkf hfr hsm;rw [hcb, if_pos rfl] at hSI2;refine EXI.seq (ECI.no rfl (ECI.skip (EXI.seq (ECI.seq (ECI.regionLD (EL.mv rfl rfl (EL.val (ld_134 rfl (q4.at (j := 0) rfl) (q4.at (j := 1) rfl)) rfl ?_)))))));obtain ⟨lo, hlo⟩ : ∃ lo, lo = wy.heap.size := ⟨_, rfl⟩;have hbl : bp < lo := by rw [hlo]; exact hPl.box.lt
    have hrl : ∀ g, sl2.ownBlock = some g → g < lo := fun g e => by rw [hlo]; exact (hPl.row.lt g e).2
    refine EL.call (cA2 cF64 rfl rfl) rfl (next_fn _ rfl rfl) ?_
    rintro e w14 ⟨⟨g2n, g3n, rfl, qn2, qn3, hgn2, hgn3⟩, hc14⟩
    refine ⟨_, rfl, ?_⟩;rw [← hlo] at hgn2 hgn3;replace q4 := q4.bl hc14;replace hkp := hkp.trans (Kp.of_below hc14 (Nat.le_trans hn0W hkp.size));replace hJ0 := hJ _ _ _ hJ0 (Soft.of_below hc14);replace hM := hM.below hc14;replace hq0 := own_below hq0 hc14 (Nat.le_refl _);replace hq1 := own_below hq1 hc14 (Nat.le_refl _);replace hPl := hPl.below hc14;replace hdy := hdy.below hc14;clear hc14;refine EL.nil (EX.ofD (EXI.seq (ECI.block ?_)));have hVW : W.heap.size ≤ w14.heap.size := hkp.size;have hloV : lo ≤ w14.heap.size := Nat.le_trans hgn2 (Nat.le_of_lt qn2.lt);have hsoft : SoftI w14.heap.size w14.heap.size [] (fun pre X => ∃ sl3 ps3, PileAt (fun g => W.heap.size ≤ g ∧ (g < lo ∨ w14.heap.size ≤ g)) X W.heap.size bp sl3 ps3 ∧ HeapF ps3.length (gD ps3) ∧ (ps3.map Prod.snd).Perm (rest.map Prod.snd ++ (nextL q d).take pre.length) ∧ Blk X g4 134 #[.slice A0 (q false).length c0, .slice A1 (q true).length c1] ∧ X.ownsRow W.heap.size 39 5 (.slice A0 (q false).length c0) (q false).length (twsC (q false)) ∧ X.ownsRow W.heap.size 39 5 (.slice A1 (q true).length c1) (q true).length (twsC (q true)) ∧ MarksIn W.heap.size ds w14 X ∧ Kp n0 S W X ∧ J (xs ++ [([((out.length : Nat) : Int)], Value.pointer (some ⟨bd, 0, none⟩))]) X) := fun s A B' ⟨sl3, ps3, h1, h2, h3, h4, h5, h6, h7, h8, h9⟩ hs => ⟨sl3, ps3, h1.soft hs rfl rfl rfl rfl, h2, h3, hs.blk h4 rfl, hs.row h5 rfl, hs.row h6 rfl, h7.soft (Nat.le_refl _) hs, h8.soft hs (Nat.le_trans hn0W hVW) hn0W, hJ _ _ _ h9 ((hs.mono2 (Nat.le_trans hlaW hVW)).none)⟩
    have hP0 : PileAt (fun g => W.heap.size ≤ g ∧ (g < lo ∨ w14.heap.size ≤ g)) w14 W.heap.size bp sl2 rest := hPl.weak ⟨hPl.pb, .inl hbl⟩ (fun g e => ⟨hPl.pr g e, .inl (hrl g e)⟩)
    refine rangeFR (U := []) (Fr := fun _ => Same lo w14.heap.size) (ok := okN q d W.heap.size) (n0 := W.heap.size) (S := [145, 122]) (σ1 := fun x => _) rfl (fun args w => by kernel_rfl) rfl (next_iter hqk hd qn2 qn3 hdy hq0 hq1 ⟨hgn2, qn2.lt⟩ hVW) (same_ok (.inr (Nat.le_succ _))) hVW (fun pre X => ∃ sl3 ps3, PileAt (fun g => W.heap.size ≤ g ∧ (g < lo ∨ w14.heap.size ≤ g)) X W.heap.size bp sl3 ps3 ∧ HeapF ps3.length (gD ps3) ∧ (ps3.map Prod.snd).Perm (rest.map Prod.snd ++ (nextL q d).take pre.length) ∧ Blk X g4 134 #[.slice A0 (q false).length c0, .slice A1 (q true).length c1] ∧ X.ownsRow W.heap.size 39 5 (.slice A0 (q false).length c0) (q false).length (twsC (q false)) ∧ X.ownsRow W.heap.size 39 5 (.slice A1 (q true).length c1) (q true).length (twsC (q true)) ∧ MarksIn W.heap.size ds w14 X ∧ Kp n0 S W X ∧ J (xs ++ [([((out.length : Nat) : Int)], Value.pointer (some ⟨bd, 0, none⟩))]) X) (fun _ _ => False) hsoft soft_false ⟨_, _, hP0, hhr, by simp, q4, hq0, hq1, hM.refl, hkp, hJ0⟩ (fun x A B' row h hg hr => OwnDr.soft (b := w14.heap.size) (m := w14.heap.size) (U := []) h ⟨row, hg, fun g e => .inr (hr g e)⟩ rfl rfl) (fun l_ x X K hK => by
      refine ECI.regionL (lets_then lets_no) (by kernel_rfl) ?_
      refine EL.as rfl rfl (EL.nil (EX.toI ?_))
      exact fun a' ha' => hK a' ha') ?_ ?_ ?_
    ·
     clear hsoft hP0 q4 hq0 hq1 hM hkp hJ0 hPl hdy
     rintro la9 pre ⟨x1, x2⟩ X hpf hokx ⟨sl3, ps3, hP3, hh3, hpm3, q4, hq0, hq1, hMI, hkp, hJ0⟩ hsz9
     obtain ⟨hnN, ex⟩ := pre_at hpf
     dsimp only at ex
     subst ex;have hdx : OwnDr X W.heap.size x2 ((nextL q d).getD pre.length dr0) := hokx;have hln3 := mid_len (Nat.le_trans (Nat.le_of_lt hsz2) hsz) hpm3;refine ECI.block ?_;refine ECI.regionL (by repeat (first | exact lets_bodyR | exact lets_no | refine lets_then ?_ | refine lets_blk ?_)) (by kernel_rfl) ?_
     refine EL.val (mi_147 rfl) rfl (EL.mv rfl rfl (EL.val (mi_122 rfl) rfl ?_));refine EL.call (cA2 cF65 rfl rfl) rfl (hpush_any hP3 hh3 hdx (Nat.le_trans hVW (by omega)) (fun g h => ⟨by omega, .inr (by omega)⟩) (by omega) (mid_bound hqk hSI2 (mid_perm hnN hpm3 (.refl _)))) ?_
     rintro e w9 ⟨rfl, sl9, ps9, hpm9, hh9, hP9, ht9⟩
     refine ⟨_, rfl, ?_⟩;refine EL.nil (EX.toI (EXI.blk ?_))
     exact fun a0 ha0 => ⟨.of ht9.keeps, ht9.kp (fun _ h => h) (fun g h => h.1) (by omega), ht9.same (fun g h => h.2), .inl ⟨rfl, sl9, ps9, hP9, hh9, by rw [List.length_append]; exact mid_perm hnN hpm3 hpm9, ht9.blk q4 rfl, ht9.row hq0 rfl, ht9.row hq1 rfl, hMI.keeps ht9.keeps, TurnsS.kpT hkp ht9 (fun g h => h.1) hn0W, TurnsS.softI hJ0 ht9 (fun g h => Nat.le_trans hlaW h.1) hJ⟩⟩
    ·
     clear hsoft hP0 q4 hq0 hq1 hM hkp hJ0 hPl hdy
     rintro Dm zs X hDm hall9 ⟨sl3, ps3, hP3, hh3, hpm3, q4, hq0, hq1, hMI, hkp, hJ0⟩ hkp9 hdef
     have hzl : zs.length = (nextL q d).length := by have := congrArg List.length hall9; rwa [List.length_map, allE_len] at this
     rw [hzl, List.take_length] at hpm3;have hPl := hP3.weak (p' := (fun g => W.heap.size ≤ g)) hP3.pb.1 (fun g e => (hP3.pr g e).1)
     have hM := hMI.marks.cons (Nat.le_trans hVW hDm) hdef;have hnd2 := List.nodup_cons.2 ⟨fun hm => hMI.fresh hDm hm, hnd⟩
     clear hnd hMI hkp9 hP3;have hnd := hnd2;clear hnd2;obtain ⟨A3, c3, rfl, _⟩ := (Rd.of_own hPl.row).shape;refine EXI.blk (EXI.blk (EXI.seq (ECI.seq (ECI.regionLD (EL.val (ld_145 rfl (hPl.box.at (j := 0) rfl)) rfl (EL.nil (EX.ofD (EXI.seq (ECI.regionLD ?_)))))))));refine EL.newP al_145 rfl ?_;intro g15 w15 q15 hb15 hg15 hl15;have n4_15 := q4.na hg15;have hge15 : W.heap.size ≤ g15 := Nat.le_trans hkp.size hg15;replace q4 := q4.bl hb15;replace hkp := hkp.trans (Kp.of_below hb15 (Nat.le_trans hn0W hkp.size));replace hJ0 := hJ _ _ _ hJ0 (Soft.of_below hb15);replace hM := hM.below hb15;replace hq0 := own_below hq0 hb15 (Nat.le_refl _);replace hq1 := own_below hq1 hb15 (Nat.le_refl _);replace hPl := hPl.below hb15;clear hb15 hg15 hl15;refine EL.store rfl rfl q15 sz_145 rfl rfl rfl rfl ?_;intro w16 hq16 hg16;replace q4 := q4.gr hg16 n4_15;replace hkp := hkp.turn hg16 hge15 hn0W;replace hJ0 := hJ _ _ _ hJ0 ⟨_, hg16, fun k e => by injection e with e; subst e; exact .inl ⟨Nat.le_trans hlaW hge15, 145, _, rfl, q15⟩⟩
     replace hM := hM.keeps (keeps_blk q15 hg16);replace hq0 := own_type hq0 q15 rfl hg16;replace hq1 := own_type hq1 q15 rfl hg16;replace hPl := hPl.moved q15 hg16 hq16 hge15;replace q15 := hq16;clear hg16 hq16;refine EL.nil (EX.ofD ?_);refine EXI.roundD ⟨(xs ++ [([((out.length : Nat) : Int)], Value.pointer (some ⟨bd, 0, none⟩))]), (out ++ [d]), ps3, _, g15, _⟩ ⟨rfl, trivial⟩ (by repeat first | with_reducible exact .refl _ | refine sp_ rfl ?_ | exact .refl _ | refine sd_ rfl ?_ | refine sn_ ?_) rfl ⟨(allE_snoc hxs), hSI2.perm hqk hpm3.symm, hh3, by show sizeL q (ps3.map Prod.snd) ≤ 6561; rw [sizeL_perm hpm3]; exact Nat.le_trans (Nat.le_of_lt hsz2) hsz, hPl, q4, hq0, hq1, hM, hnd, hkp, hJ0⟩ (show sizeL q (ps3.map Prod.snd) < sizeL q (ps.map Prod.snd) by rw [sizeL_perm hpm3]; exact hsz2)
    ·intro Dm pre X hD hne2 hall9 h
     exact absurd h id
   ·
    refine ⟨_, rfl, ?_⟩;refine ELI.valg rfl rfl (x_not rfl) rfl (ELI.val (x_pick_t rfl rfl) rfl (ELI.nil ?_));have hsm := SameF.mono hfr hlaW;replace hPl := hPl.same hPl.pb hsm;replace hdy := hdy.same hsm;replace q4 : Blk wy g4 134 #[.slice A0 (q false).length c0, .slice A1 (q true).length c1] := (hsm g4 hg4W q4.lt).trans q4;replace hq0 := row_same hq0 hsm;replace hq1 := row_same hq1 hsm;replace hM := hM.keepsFrom hlaW hkf;replace hkp := hkp.trans hky;clear hJ0;have hJ0 := hJy;clear hJy hky hkf hfr hsm;refine EXI.seq (ECI.yes rfl (ECI.ret (EXI.seq_ret (EXI.blk_ret (EXI.seq_ret (EXI.seq_ret (EXI.blk_ret ?_)))))))
    exact EXI.doneZ (Z := fun X => Kp n0 S W X ∧ Jx (xs ++ [([((out.length : Nat) : Int)], Value.pointer (some ⟨bd, 0, none⟩))]) X) hM hnd ⟨hkp, hJ0⟩ (fun A D h hD hd => ⟨h.1.trans (Kp.putObj _ (Nat.le_trans hn0W hD) hd rfl), hJx _ _ _ h.2 (soft_put _ (Nat.le_trans hlaW hD) hd rfl)⟩) (fun w' ht => res0 rfl) (fun w' ht hz => ⟨⟨_, rfl⟩, hz.1, .inr ⟨_, by simp, hpf, hz.2⟩⟩)
 ·
  refine ECI.seq (ECI.seq (ECI.regionLD (EL.val (ld_145 rfl (hPl.box.at (j := 0) rfl)) rfl (EL.val (ln_145 rfl) rfl ?_))));refine EL.val (x_gtr (r := false) rfl rfl (decide_eq_false (by omega))) rfl ?_
  refine EL.nil (EX.ofD (EXI.seq (ECI.no rfl (ECI.exit (EXI.seq_exit (EXI.seq_exit (EXI.blk_here ?_)))))));have hps : ps = [] := by cases ps with | nil => rfl | cons a b => simp at hne
  subst hps;have hall := hSI.stop;rw [hall] at hxs
  exact EXI.doneZN (Z := fun X => Kp n0 S W X ∧ J xs X) hM hnd ⟨hkp, hJ0⟩ (fun A D h hD hd => ⟨h.1.trans (Kp.putObj _ (Nat.le_trans hn0W hD) hd rfl), hJ _ _ _ h.2 (soft_put _ (Nat.le_trans hlaW hD) hd rfl)⟩) (fun w' ht => res0 rfl) (fun w' ht hz => ⟨⟨_, rfl⟩, hz.1, .inl ⟨xs, hxs, hz.2⟩⟩)
theorem towE_zero {l : LK} {ts : List TW} (h : towE l ts = 0) : lkB l = true ∧ ts.length ≤ 8 ∧ ∀ t ∈ ts, twB l t = true := by
 unfold towE at h
 split at h
 ·rename_i h1
  split at h
  ·cases h
  ·rename_i h2
   split at h
   ·rename_i h3
    exact ⟨h1, by omega, List.all_eq_true.1 h3⟩
   ·cases h
 ·cases h
theorem qok_of {l : LK} {ts : List TW} (h : towE l ts = 0) : QOk l (qL ts) := by
 obtain ⟨h1, h2, h3⟩ := towE_zero h
 exact ⟨fun u t ht => h3 t (qL_mem ht).1, by rw [qL_len]; exact h2, h1⟩
def bestP (l : LK) (ts : List TW) : List SP × Int × Int :=
 if towE l ts = 0 then (match allD l (qL ts) with | [] => ([], 0, 0) | d :: _ => (d.plan, d.s.cost, 0)) else ([], 0, towE l ts)
theorem best_err {l : LK} {ts : List TW} (h : ¬towE l ts = 0) : bestP l ts = ([], 0, towE l ts) := if_neg h
theorem best_none {l : LK} {ts : List TW} (h : towE l ts = 0) (h2 : allD l (qL ts) = []) : bestP l ts = ([], 0, 0) := by
 unfold bestP
 rw [if_pos h, h2]
theorem best_some {l : LK} {ts : List TW} (h : towE l ts = 0) (h2 : 0 < (allD l (qL ts)).length) : bestP l ts = (((allD l (qL ts)).getD 0 dr0).plan, ((allD l (qL ts)).getD 0 dr0).s.cost, 0) := by
 unfold bestP
 rw [if_pos h]
 cases e : allD l (qL ts) with
 | nil => rw [e] at h2; cases h2
 | cons d r => rfl
/-! ### Thrift -/
def updB (b : Option Dr) (d : Dr) : Option Dr := match b with
 | none => some d
 | some e => if e.s.up < d.s.up then some d else some e
def thrL (most : Int) (l : List Dr) : List Dr := l.takeWhile fun d => decide (d.s.cost ≤ most)
def thrB (l : List Dr) : Option Dr := l.foldl updB none
def thriftP (l : LK) (ts : List TW) (most : Int) : List SP × Int × Int :=
 if towE l ts = 0 then (match thrB (thrL most (allD l (qL ts))) with | none => ([], 0, 7) | some d => (d.plan, d.s.cost, 0)) else ([], 0, towE l ts)
theorem thr_err {l : LK} {ts : List TW} {most : Int} (h : ¬towE l ts = 0) : thriftP l ts most = ([], 0, towE l ts) := if_neg h
theorem thr_none {l : LK} {ts : List TW} {most : Int} (h : towE l ts = 0) (h2 : thrB (thrL most (allD l (qL ts))) = none) : thriftP l ts most = ([], 0, 7) := by
 unfold thriftP
 rw [if_pos h, h2]
theorem thr_some {l : LK} {ts : List TW} {most : Int} {d : Dr} (h : towE l ts = 0) (h2 : thrB (thrL most (allD l (qL ts))) = some d) : thriftP l ts most = (d.plan, d.s.cost, 0) := by
 unfold thriftP
 rw [if_pos h, h2]
theorem thrB_snoc (l : List Dr) (d : Dr) : thrB (l ++ [d]) = updB (thrB l) d := by simp [thrB]
section
variable {most : Int} {l : List Dr} {k : Nat}
theorem thr_len : (thrL most l).length ≤ l.length := (List.takeWhile_sublist _).length_le
theorem thr_pre : thrL most l = l.take (thrL most l).length := while_pre _ _
theorem thr_at (h : k < (thrL most l).length) : (thrL most l).getD k dr0 = l.getD k dr0 := by
 have h1 := thr_len (most := most) (l := l);rw [getD_in h, getD_in (by omega)]
 have e : (thrL most l)[k]? = (l.take (thrL most l).length)[k]? := congrArg (fun z => z[k]?) thr_pre
 rw [List.getElem?_eq_getElem h, List.getElem?_take, if_pos h, List.getElem?_eq_getElem (by omega)] at e
 injection e
/-- one more that is allowed, and the first that is not -/
theorem thr_more (hk : k ≤ (thrL most l).length) (hl : k < l.length) (hc : (l.getD k dr0).s.cost ≤ most) : k < (thrL most l).length := by
 rcases Nat.lt_or_ge k (thrL most l).length with h | h
 ·exact h
 ·obtain rfl : k = (thrL most l).length := by omega
  have := while_stop (p := fun d : Dr => decide (d.s.cost ≤ most)) (d := dr0) (l := l) hl
  change decide ((l.getD (thrL most l).length dr0).s.cost ≤ most) = false at this;rw [decide_eq_true hc] at this
  cases this
theorem thr_stop (hk : k ≤ (thrL most l).length) (hc : most < (l.getD k dr0).s.cost) : k = (thrL most l).length := by
 rcases Nat.lt_or_ge k (thrL most l).length with h | h
 ·have h1 := getD_mem h dr0
  have h2 := List.all_eq_true.1 (List.all_takeWhile (l := l) (p := fun d : Dr => decide (d.s.cost ≤ most))) _ h1
  rw [thr_at h] at h2;have := of_decide_eq_true h2
  omega
 ·omega
theorem thr_step (h : k < (thrL most l).length) : thrB ((thrL most l).take (k + 1)) = updB (thrB ((thrL most l).take k)) (l.getD k dr0) := by
 rw [take_snoc (d := dr0) h, thrB_snoc, thr_at h]
end
theorem Soft.low {b m : Nat} {U : List Nat} {A B : World} {g T : Nat} {cs : Array Value} (h : Soft b m U A B) (hq : Blk A g T cs) (h1 : g < b) (h2 : g < m) : Blk B g T cs := by
 obtain ⟨row, hg, hr⟩ := h;refine hq.grown hg fun e => ?_
 rcases hr g e.symm with ⟨h3, _⟩ | ⟨h3, _⟩ <;> omega
theorem resc3c {P : Program} {n : Nat} {σ : Sg} {w : World} {fn : Func} {c1 c2 c3 : Tmp} {t1 t2 t3 : TypeId} {p1 p2 p3 : Addr} {v1 v2 v3 : Value} (h : fn.results = #[.cell c1 t1, .cell c2 t2, .cell c3 t3]) (hc1 : σ c1 = some (.pointer (some p1))) (hc2 : σ c2 = some (.pointer (some p2))) (hc3 : σ c3 = some (.pointer (some p3))) (hl1 : (loadVar t1 p1).run P w = .ok v1 w) (hl2 : (loadVar t2 p2).run P w = .ok v2 w) (hl3 : (loadVar t3 p3).run P w = .ok v3 w) (a : Act) (ha : Env n σ a) : (results fn a.tmps).run P w = .ok (.tuple #[v1, v2, v3]) w := by
 have h1 : a.tmps.getD c1 undef = .pointer (some p1) := ha.eval (x := .tmp c1) hc1;have h2 : a.tmps.getD c2 undef = .pointer (some p2) := ha.eval (x := .tmp c2) hc2;have h3 : a.tmps.getD c3 undef = .pointer (some p3) := ha.eval (x := .tmp c3) hc3;rw [Array.getD_eq_getD_getElem?] at h1 h2 h3
 simp [results, h, h1, h2, h3, asAddr, hl1, hl2, hl3]
section
variable {n : Nat} {σ : Sg} {w : World} {dst : Option Tmp} {ty : TypeId} {pos : String} {af : Array Edge} {g : Option (Nat × Bool)} {x y z : Operand} {at' : Array TypeId}
theorem al_25 (a : Act) (_ : Env n σ a) : (execOp a.eval ⟨dst, .alloc 25, ty, pos, af, g⟩).run Try.prog w = .ok (.value (.pointer (some ⟨w.heap.size, 0, none⟩))) (w.alloc (.cells #[.slice none 0 0] 25)) := by
 simp only [execOp]
 simp [go_sem]
theorem al_3 (a : Act) (_ : Env n σ a) : (execOp a.eval ⟨dst, .alloc 3, ty, pos, af, g⟩).run Try.prog w = .ok (.value (.pointer (some ⟨w.heap.size, 0, none⟩))) (w.alloc (.cells #[.int .i64 0] 3)) := by
 simp only [execOp]
 simp [go_sem]
theorem al_29 (a : Act) (_ : Env n σ a) : (execOp a.eval ⟨dst, .alloc 29, ty, pos, af, g⟩).run Try.prog w = .ok (.value (.pointer (some ⟨w.heap.size, 0, none⟩))) (w.alloc (.cells #[.int .i64 0] 29)) := by
 simp only [execOp]
 simp [go_sem]
theorem cF45 : cF 45 := fun _ _ => by simp [go_sem]
theorem cF46 : cF 46 := fun _ _ => by simp [go_sem]
theorem sz_25 : (Try.prog.info? 25).map (·.size) = some 1 := by kernel_rfl
theorem sz_29 : (Try.prog.info? 29).map (·.size) = some 1 := by kernel_rfl
theorem lv_25 {b o : Nat} {v0 : Value} (c0 : w.cell? ⟨b, o, none⟩ = some v0) : (loadVar 25 ⟨b, o, none⟩).run Try.prog w = .ok (v0) w := by
 simp [go_sem, loadVar, c0]
theorem lv_3 {b o : Nat} {v0 : Value} (c0 : w.cell? ⟨b, o, none⟩ = some v0) : (loadVar 3 ⟨b, o, none⟩).run Try.prog w = .ok (v0) w := by
 simp [go_sem, loadVar, c0]
theorem lv_29 {b o : Nat} {v0 : Value} (c0 : w.cell? ⟨b, o, none⟩ = some v0) : (loadVar 29 ⟨b, o, none⟩).run Try.prog w = .ok (v0) w := by
 simp [go_sem, loadVar, c0]
end
theorem EXI.doneD {P : Program} {n : Nat} {σ : Sg} {w : World} {fn : Func} {R : Ending → World → Prop} {v : Value} (hr : ∀ a, Env n σ a → (results fn a.tmps).run P w = .ok v w) (h : R (.returned v) w) : EXI n [] (bodyPostM Fence.wide 0 P fn R) .ret σ w := fun a ha => EX.doneM hr h a ha.e
set_option maxHeartbeats 1000000 in
set_option maxRecDepth 100000 in
theorem Best_any {l : LK} {ts : List TW} {v : Value} {w : World} {B : Nat} (hr : Rd w B 5 v ts.length (twsC ts)) (hB : B ≤ w.heap.size) :
  Calls Try.prog 23 #[.agg #[.int .i64 l.length, .int .i64 l.cycle, .int .i64 l.turn, .int .i64 l.fill, .int .i64 l.save, .bool l.high], v] w fun e w' => ∃ sl, e = .returned (.tuple #[sl, .int .i64 (bestP l ts).2.1, .int .i64 (bestP l ts).2.2]) ∧ w'.ownsRow w.heap.size 87 2 sl (bestP l ts).1.length (spsC (bestP l ts).1) ∧ Below w.heap.size w w' := by
 obtain ⟨At, ct, rfl, _⟩ := hr.shape;have hbw := Below.refl w.heap.size w;refine EC.marks 28 Try.func23 rfl rfl rfl (ECI.seq (ECI.regionLD (EL.newP (bx_23 rfl) rfl ?_)));intro g1 w1 q1 hb1 hg1 hl1;have bhbw_1 := Nat.le_trans hbw.size hg1;replace hbw := bo_ hbw hb1;clear hb1 hg1 hl1;refine EL.newP al_25 rfl ?_;intro g2 w2 q2 hb2 hg2 hl2;have n1_2 := q1.na hg2;have bhbw_2 := Nat.le_trans hbw.size hg2;replace q1 := q1.bl hb2;replace hbw := bo_ hbw hb2;clear hb2 hg2 hl2;refine EL.newP al_3 rfl ?_;intro g3 w3 q3 hb3 hg3 hl3;have n1_3 := q1.na hg3;have n2_3 := q2.na hg3;have bhbw_3 := Nat.le_trans hbw.size hg3;replace q1 := q1.bl hb3;replace q2 := q2.bl hb3;replace hbw := bo_ hbw hb3;clear hb3 hg3 hl3;refine EL.newP al_29 rfl ?_;intro g4 w4 q4 hb4 hg4 hl4;have n1_4 := q1.na hg4;have n2_4 := q2.na hg4;have n3_4 := q3.na hg4;have bhbw_4 := Nat.le_trans hbw.size hg4;replace q1 := q1.bl hb4;replace q2 := q2.bl hb4;replace q3 := q3.bl hb4;replace hbw := bo_ hbw hb4;clear hb4 hg4 hl4;refine EL.nil (EX.ofD (EXI.seq (ECI.seq (ECI.seq (ECI.regionLD (EL.val (ld_23 rfl (q1.at (j := 0) rfl) (q1.at (j := 1) rfl) (q1.at (j := 2) rfl) (q1.at (j := 3) rfl) (q1.at (j := 4) rfl) (q1.at (j := 5) rfl)) rfl (EL.mv rfl rfl (EL.call (cA2 cF45 rfl rfl) rfl (checkTows_any (hr.below (hbw.mono hB)) (Nat.le_trans hB hbw.size)) ?_))))))))
 rintro e w5 ⟨rfl, hc5⟩
 refine ⟨_, rfl, ?_⟩;replace q1 := q1.bl hc5;replace q2 := q2.bl hc5;replace q3 := q3.bl hc5;replace q4 := q4.bl hc5;replace hbw := bo_ hbw hc5;clear hc5;refine EL.as rfl rfl (EL.nil (EX.ofD (EXI.seq (ECI.seq (ECI.regionLD (EL.mv rfl rfl ?_))))))
 by_cases ht : towE l ts = 0
 ·
  refine EL.val (x_neq (r := false) rfl rfl (decide_eq_false (by omega))) rfl ?_
  refine EL.nil (EX.ofD (EXI.seq (ECI.no rfl (ECI.skip (EXI.seq (ECI.seq (ECI.seq (ECI.regionLD (EL.val (ld_23 rfl (q1.at (j := 0) rfl) (q1.at (j := 1) rfl) (q1.at (j := 2) rfl) (q1.at (j := 3) rfl) (q1.at (j := 4) rfl) (q1.at (j := 5) rfl)) rfl ?_)))))))));refine EL.mv rfl rfl (EL.call (cA2 cF46 rfl rfl) rfl (plans_fn _) ?_)
  rintro e w6 ⟨⟨g2n, g3n, rfl, qn2, qn3, hgn2, hgn3⟩, hc6⟩
  refine ⟨_, rfl, ?_⟩;replace q1 := q1.bl hc6;replace q2 := q2.bl hc6;replace q3 := q3.bl hc6;replace q4 := q4.bl hc6;replace hbw := bo_ hbw hc6;clear hc6;refine EL.nil (EX.ofD (EXI.seq (ECI.block ?_)));have ls_2 := q2.lt;have ls_3 := q3.lt;have ls_4 := q4.lt;have hsz := hbw.size;obtain ⟨hlk, hn8, htw⟩ := towE_zero ht;have hsoft : SoftI w6.heap.size w6.heap.size [145, 122] (fun pre X => pre = [] ∧ Blk X g2 25 #[.slice none 0 0] ∧ Blk X g3 3 #[.int .i64 0] ∧ Blk X g4 29 #[.int .i64 0] ∧ Below w.heap.size w X) := fun s A B' ⟨h1, h2, h3, h4, h5⟩ hs => ⟨h1, hs.blk h2 rfl, hs.blk h3 rfl, hs.blk h4 rfl, (hs.mono2 hsz).below h5 h5.size (Nat.le_refl _)⟩
  have hsofx : SoftI w6.heap.size w6.heap.size [145, 122] (fun pre X => 0 < (allD l (qL ts)).length ∧ ∃ slp, Blk X g2 25 #[slp] ∧ Blk X g3 3 #[.int .i64 ((allD l (qL ts)).getD 0 dr0).s.cost] ∧ Blk X g4 29 #[.int .i64 0] ∧ X.ownsRow w.heap.size 87 2 slp ((allD l (qL ts)).getD 0 dr0).plan.length (spsC ((allD l (qL ts)).getD 0 dr0).plan) ∧ Below w.heap.size w X) := fun s A B' ⟨h0, slp, h2, h3, h4, h6, h5⟩ hs => ⟨h0, slp, hs.blk h2 rfl, hs.blk h3 rfl, hs.blk h4 rfl, hs.row h6 rfl, (hs.mono2 hsz).below h5 h5.size (Nat.le_refl _)⟩
  refine rangeFR (U := [145, 122]) (Fr := fun l_ => SameF (l_ + 1)) (ok := fun x X => okP l (qL ts) w6.heap.size x X) (n0 := w.heap.size) (S := [25, 3, 29]) (σ1 := fun x => _) rfl (fun args w => by kernel_rfl) rfl (plans_iter rfl (qok_of ht) hn8 qn2 qn3 (hr.below (hbw.mono hB)) (Nat.le_trans hB hsz) hsz) (sameF_ok (by omega)) hsz (fun pre X => pre = [] ∧ Blk X g2 25 #[.slice none 0 0] ∧ Blk X g3 3 #[.int .i64 0] ∧ Blk X g4 29 #[.int .i64 0] ∧ Below w.heap.size w X) (fun pre X => 0 < (allD l (qL ts)).length ∧ ∃ slp, Blk X g2 25 #[slp] ∧ Blk X g3 3 #[.int .i64 ((allD l (qL ts)).getD 0 dr0).s.cost] ∧ Blk X g4 29 #[.int .i64 0] ∧ X.ownsRow w.heap.size 87 2 slp ((allD l (qL ts)).getD 0 dr0).plan.length (spsC ((allD l (qL ts)).getD 0 dr0).plan) ∧ Below w.heap.size w X) hsoft hsofx ⟨rfl, q2, q3, q4, hbw⟩ (fun x A B' row h hg hr => OwnDr.soft (b := w6.heap.size) (m := w6.heap.size) (U := []) h ⟨row, hg, fun g e => .inr (hr g e)⟩ rfl rfl) (fun l_ x X K hK => by
    refine ECI.regionL (lets_then lets_no) (by kernel_rfl) ?_
    refine EL.as rfl rfl (EL.nil (EX.toI ?_))
    exact fun a' ha' => hK a' ha') ?_ ?_ ?_
  ·
   clear hsoft hsofx q2 q3 q4 hbw qn2 qn3
   rintro la9 pre ⟨x1, x2⟩ X hpf hokx ⟨rfl, q2, q3, q4, hbw⟩ hsz9
   obtain ⟨hnN, ex⟩ := pre_at hpf
   dsimp only at ex
   subst ex;have hdx : OwnDr X w6.heap.size x2 ((allD l (qL ts)).getD 0 dr0) := hokx;obtain ⟨bd, slp, rfl, hbd, qD, hpl⟩ := hdx.at_;replace hpl := own_mono hpl hsz;obtain ⟨Ap, cp, rfl, _⟩ := (Rd.of_own hpl).shape;have hkp := Kp.refl w.heap.size [25, 3, 29] X;have hkf := KeepsFrom.refl w6.heap.size X;have hfr := SameF.refl (b := w6.heap.size + 2) X;have hXV := Nat.le_of_succ_le (Nat.le_of_succ_le hsz9)
   generalize ((allD l (qL ts)).getD 0 dr0) = dd at *
   have n2_7 := blk_apart (U := [124]) q2 qD rfl rfl;have n3_7 := blk_apart (U := [124]) q3 qD rfl rfl;have n4_7 := blk_apart (U := [124]) q4 qD rfl rfl;refine ECI.block (ECI.seq ?_);have qo_ := q2;have lt_2 := q2.lt;have lt_3 := q3.lt;have lt_4 := q4.lt;have lt_7 := qD.lt;refine ECI.regionO (by repeat (first | exact lets_bodyR | exact lets_no | refine lets_then ?_ | refine lets_blk ?_)) (by kernel_rfl) (EO.regionS [[], [0], [0, 1], [0, 1, 2], [], [4], [4, 5], [4, 5, 6], [4, 5, 6, 7], [0, 1, 2, 3], [0, 1, 2, 3, 4, 5, 6, 7, 8, 9], [0, 1, 2, 3, 4, 5, 6, 7, 8, 9, 10]] 10 [] [9] (fun fl w_ => X.grownBy w_ (some g2) ∧ (fl 9 = false → Blk w_ g2 25 _)) (phiS (fun i_ r => match i_ with | 0 => r 0 = .pointer (some ⟨bd, 0, none⟩) | 1 => r 1 = .pointer (some ⟨bd, 0, none⟩) | 2 => r 2 = .pointer (some ⟨bd, 15, none⟩) | 3 => r 3 = .slice Ap dd.plan.length cp | 4 => r 4 = .pointer (some ⟨bd, 0, none⟩) | 5 => r 5 = .pointer (some ⟨bd, 0, none⟩) | 6 => r 6 = .pointer (some ⟨bd, 0, none⟩) | 7 => r 7 = .pointer (some ⟨bd, 14, none⟩) | 8 => r 8 = .int .i64 dd.s.cost | _ => True) [(9, fun _ r w_ => Blk w_ g2 25 #[.slice Ap dd.plan.length cp])]) (by kernel_rfl) rfl rfl (by intro i hi; simp at hi; first | (subst hi; exact ⟨by simp, by omega⟩) | (rcases hi with rfl | rfl | rfl <;> exact ⟨by simp, by omega⟩) | (rcases hi with rfl | rfl <;> exact ⟨by simp, by omega⟩)) (base_own q2) (phiS_cons monoS_own (phiS_nil)) (fun i_ hi_ hs_ => ?_) (fun i_ hi_ => ?_) ?_)
   ·match i_, hi_ with
    | 0, _ =>
     intro val fl w1 a hb ha hd hfl;obtain ⟨hb, hg0⟩ := hb;have ha := ha.s0 (d := 8) rfl
     exact ss_val ha rfl rfl (x_move rfl) rfl rfl
    | 1, _ =>
     intro val fl w1 a hb ha hd hfl;obtain ⟨hb, hg0⟩ := hb;have e0 : val 0 = _ := hd 0 (memB_mem.1 rfl);have ha := ha.s1 (d := 19) rfl e0
     exact ss_val ha rfl rfl (x_nilCheck rfl) rfl rfl
    | 2, _ =>
     intro val fl w1 a hb ha hd hfl;obtain ⟨hb, hg0⟩ := hb;have e1 : val 1 = _ := hd 1 (memB_mem.1 rfl);have ha := ha.s1 (d := 20) rfl e1
     exact ss_val ha rfl rfl (fa_124_1 rfl) rfl rfl
    | 3, _ =>
     intro val fl w1 a hb ha hd hfl;obtain ⟨hb, hg0⟩ := hb;have e2 : val 2 = _ := hd 2 (memB_mem.1 rfl);have ha := ha.s1 (d := 21) rfl e2
     exact ss_val ha rfl rfl (ld_25 rfl ((qD.grown hb (fun h => n2_7.symm (Option.some.inj h))).at (j := 15) rfl)) rfl rfl
    | 4, _ =>
     intro val fl w1 a hb ha hd hfl;obtain ⟨hb, hg0⟩ := hb;have ha := ha.s0 (d := 8) rfl
     exact ss_val ha rfl rfl (x_move rfl) rfl rfl
    | 5, _ =>
     intro val fl w1 a hb ha hd hfl;obtain ⟨hb, hg0⟩ := hb;have e4 : val 4 = _ := hd 4 (memB_mem.1 rfl);have ha := ha.s1 (d := 23) rfl e4
     exact ss_val ha rfl rfl (x_nilCheck rfl) rfl rfl
    | 6, _ =>
     intro val fl w1 a hb ha hd hfl;obtain ⟨hb, hg0⟩ := hb;have e5 : val 5 = _ := hd 5 (memB_mem.1 rfl);have ha := ha.s1 (d := 24) rfl e5
     exact ss_val ha rfl rfl (fa_124_0 rfl) rfl rfl
    | 7, _ =>
     intro val fl w1 a hb ha hd hfl;obtain ⟨hb, hg0⟩ := hb;have e6 : val 6 = _ := hd 6 (memB_mem.1 rfl);have ha := ha.s1 (d := 25) rfl e6
     exact ss_val ha rfl rfl (fa_114_2 rfl) rfl rfl
    | 8, _ =>
     intro val fl w1 a hb ha hd hfl;obtain ⟨hb, hg0⟩ := hb;have e7 : val 7 = _ := hd 7 (memB_mem.1 rfl);have ha := ha.s1 (d := 26) rfl e7
     exact ss_val ha rfl rfl (ld_3 rfl ((qD.grown hb (fun h => n2_7.symm (Option.some.inj h))).at (j := 14) rfl)) rfl rfl
    | 9, _ =>
     exact absurd (by simp) hs_
    | k + 10, h => exact absurd h (by omega)
   ·simp only [List.mem_singleton] at hi_; subst hi_
    intro val fl w1 a hb hfi ha hd hfl;obtain ⟨hb, hg0⟩ := hb;have e3 : val 3 = _ := hd 3 (memB_mem.1 rfl);have ha := ha.sub (Sub.ins (d := 22) (Sub.ins (d := 4) (Sub.nil _) rfl) (dep_get rfl e3));refine ts_store ha rfl rfl rfl (hg0 hfi) sz_25 rfl rfl rfl rfl ?_;intro w' hq hgr;refine ⟨undef, rfl, hgr.size, ⟨grown_two hb hgr, fun h => by rw [fset_eq] at h; cases h⟩, hq, fun j _ hj hn hA => ?_⟩
    exact phiS_cons_st (C := fun j => j ≠ 9 ∧ 9 ∉ clsAt [[], [0], [0, 1], [0, 1, 2], [], [4], [4, 5], [4, 5, 6], [4, 5, 6, 7], [0, 1, 2, 3], [0, 1, 2, 3, 4, 5, 6, 7, 8, 9], [0, 1, 2, 3, 4, 5, 6, 7, 8, 9, 10]] j ∧ ∀ p ∈ [], (p = j ∨ p ∈ clsAt [[], [0], [0, 1], [0, 1, 2], [], [4], [4, 5], [4, 5, 6], [4, 5, 6, 7], [0, 1, 2, 3], [0, 1, 2, 3, 4, 5, 6, 7, 8, 9], [0, 1, 2, 3, 4, 5, 6, 7, 8, 9, 10]] j) → ∀ q ∈ [], (q = 9 ∨ q ∈ clsAt [[], [0], [0, 1], [0, 1, 2], [], [4], [4, 5], [4, 5, 6], [4, 5, 6, 7], [0, 1, 2, 3], [0, 1, 2, 3, 4, 5, 6, 7, 8, 9], [0, 1, 2, 3, 4, 5, 6, 7, 8, 9, 10]] 9) → p ≠ q → val p ≠ val q) (fun hc => absurd rfl hc.1) (fun _ _ h => h) j ⟨hj, hn, hA⟩
   ·intro val fl wR6 hfl hb halc hd
    obtain ⟨hb, _⟩ := hb;have e0 : val 0 = _ := hd 0 (by omega)
    have e1 : val 1 = _ := hd 1 (by omega)
    have e2 : val 2 = _ := hd 2 (by omega)
    have e3 : val 3 = _ := hd 3 (by omega)
    have e4 : val 4 = _ := hd 4 (by omega)
    have e5 : val 5 = _ := hd 5 (by omega)
    have e6 : val 6 = _ := hd 6 (by omega)
    have e7 : val 7 = _ := hd 7 (by omega)
    have e8 : val 8 = _ := hd 8 (by omega)
    refine EL.ends (cs := [_, _, _, _, _, _, _, _, _, val 9]) ⟨e0, e1, e2, e3, e4, e5, e6, e7, e8, rfl, trivial⟩ rfl ?_;have q2 : Blk wR6 g2 25 #[.slice Ap dd.plan.length cp] := hd 9 (by omega)
    replace q3 := q3.gr hb n2_3.symm;replace q4 := q4.gr hb n2_4.symm;replace qD := qD.gr hb n2_7.symm;replace hfr := hfr.trans (SameF.grown hb fun k e => by injection e with e; subst e; omega) hkp.size
    replace hkf := hkf.trans (.of (keeps_blk qo_ hb));replace hkp := hkp.trans (Kp.grown qo_ rfl bhbw_2 hb);replace hpl := own_type hpl qo_ rfl hb;replace hbw := below_store hbw hb bhbw_2;refine EL.store rfl rfl q3 sz_3 rfl rfl rfl rfl ?_;intro w8 hq8 hg8;replace q2 := q2.gr hg8 n2_3;replace q4 := q4.gr hg8 n3_4.symm;replace qD := qD.gr hg8 n3_7.symm;replace hfr := hfr.trans (SameF.grown hg8 fun k e => by injection e with e; subst e; omega) hkp.size
    replace hkf := hkf.trans (.of (keeps_blk q3 hg8));replace hkp := hkp.trans (Kp.grown q3 rfl bhbw_3 hg8);replace hpl := own_type hpl q3 rfl hg8;replace hbw := below_store hbw hg8 bhbw_3;replace q3 := hq8;clear hg8 hq8;refine EL.store rfl rfl q4 sz_29 rfl rfl rfl rfl ?_;intro w9 hq9 hg9;replace q2 := q2.gr hg9 n2_4;replace q3 := q3.gr hg9 n3_4;replace qD := qD.gr hg9 n4_7.symm;replace hfr := hfr.trans (SameF.grown hg9 fun k e => by injection e with e; subst e; omega) hkp.size
    replace hkf := hkf.trans (.of (keeps_blk q4 hg9));replace hkp := hkp.trans (Kp.grown q4 rfl bhbw_4 hg9);replace hpl := own_type hpl q4 rfl hg9;replace hbw := below_store hbw hg9 bhbw_4;replace q4 := hq9;clear hg9 hq9;refine EL.nil (EX.toI (EXI.seq (ECI.ret (EXI.blk_ret ?_))))
    exact fun a0 ha0 => ⟨hkf, hkp, hfr, .inr ⟨rfl, hnN, _, q2, q3, q4, hpl, hbw⟩⟩
  ·
   clear hsoft hsofx q2 q3 q4 hbw qn2 qn3
   rintro Dm zs X hDm hall9 ⟨rfl, q2, q3, q4, hbw⟩ hkp9 hdef
   have hnil : (allD l (qL ts)) = [] := List.eq_nil_of_length_eq_zero (by have := congrArg List.length hall9; rw [allE_len] at this; exact this.symm)
   refine EXI.blk (EXI.seq (ECI.seq (ECI.regionLD (EL.store rfl rfl q2 sz_25 rfl rfl rfl rfl ?_))));intro w10 hq10 hg10;replace q3 := q3.gr hg10 n2_3.symm;replace q4 := q4.gr hg10 n2_4.symm;replace hdef := (keeps_blk q2 hg10).same _ _ hdef rfl;replace hbw := below_store hbw hg10 bhbw_2;replace q2 := hq10;clear hg10 hq10;refine EL.store rfl rfl q3 sz_3 rfl rfl rfl rfl ?_;intro w11 hq11 hg11;replace q2 := q2.gr hg11 n2_3;replace q4 := q4.gr hg11 n3_4.symm;replace hdef := (keeps_blk q3 hg11).same _ _ hdef rfl;replace hbw := below_store hbw hg11 bhbw_3;replace q3 := hq11;clear hg11 hq11;refine EL.store rfl rfl q4 sz_29 rfl rfl rfl rfl ?_;intro w12 hq12 hg12;replace q2 := q2.gr hg12 n2_4;replace q3 := q3.gr hg12 n3_4;replace hdef := (keeps_blk q4 hg12).same _ _ hdef rfl;replace hbw := below_store hbw hg12 bhbw_4;replace q4 := hq12;clear hg12 hq12;refine EL.nil (EX.ofD (EXI.seq (ECI.ret ?_)));have hmk : Marks w.heap.size [({ target := .collected Dm, args := #[] } : Deferred)] w12 := fun d hd => ⟨Dm, Nat.le_trans hsz hDm, List.mem_singleton.1 hd, hdef⟩
   exact EXI.doneO hmk (by simp) (fun w' ht_ => (resc3c rfl rfl rfl rfl (lv_25 ((ht_.took.blk _ _ _ q2).at (j := 0) rfl)) (lv_3 ((ht_.took.blk _ _ _ q3).at (j := 0) rfl)) (lv_29 ((ht_.took.blk _ _ _ q4).at (j := 0) rfl)))) (fun w' ht_ => ⟨_, by rw [best_none ht hnil], by rw [best_none ht hnil]; exact own_took (own_nil _ _ _ _) ht_.took, hbw.trans ht_.took.below⟩)
  ·
   clear hsoft hsofx q2 q3 q4 hbw qn2 qn3
   rintro Dm pre X hDm hne9 hall9 ⟨h0, slp, q2, q3, q4, hpl, hbw⟩ hkp9 hdef
   refine EXI.blk_ret (EXI.seq_ret ?_);have hmk : Marks w.heap.size [({ target := .collected Dm, args := #[] } : Deferred)] X := fun d hd => ⟨Dm, Nat.le_trans hsz hDm, List.mem_singleton.1 hd, hdef⟩
   exact EXI.doneO hmk (by simp) (fun w' ht_ => (resc3c rfl rfl rfl rfl (lv_25 ((ht_.took.blk _ _ _ q2).at (j := 0) rfl)) (lv_3 ((ht_.took.blk _ _ _ q3).at (j := 0) rfl)) (lv_29 ((ht_.took.blk _ _ _ q4).at (j := 0) rfl)))) (fun w' ht_ => ⟨_, by rw [best_some ht h0], by rw [best_some ht h0]; exact own_took hpl ht_.took, hbw.trans ht_.took.below⟩)
 ·
  refine EL.val (x_neq (r := true) rfl rfl (decide_eq_true (by omega))) rfl ?_
  refine EL.nil (EX.ofD (EXI.seq (ECI.yes rfl (ECI.seq (ECI.regionLD (EL.mv rfl rfl (EL.store rfl rfl q2 sz_25 rfl rfl rfl rfl ?_)))))));intro w13 hq13 hg13;replace q1 := q1.gr hg13 n1_2;replace q3 := q3.gr hg13 n2_3.symm;replace q4 := q4.gr hg13 n2_4.symm;replace hbw := below_store hbw hg13 bhbw_2;replace q2 := hq13;clear hg13 hq13;refine EL.store rfl rfl q3 sz_3 rfl rfl rfl rfl ?_;intro w14 hq14 hg14;replace q1 := q1.gr hg14 n1_3;replace q2 := q2.gr hg14 n2_3;replace q4 := q4.gr hg14 n3_4.symm;replace hbw := below_store hbw hg14 bhbw_3;replace q3 := hq14;clear hg14 hq14;refine EL.store rfl rfl q4 sz_29 rfl rfl rfl rfl ?_;intro w15 hq15 hg15;replace q1 := q1.gr hg15 n1_4;replace q2 := q2.gr hg15 n2_4;replace q3 := q3.gr hg15 n3_4;replace hbw := below_store hbw hg15 bhbw_4;replace q4 := hq15;clear hg15 hq15;refine EL.nil (EX.ofD (EXI.seq (ECI.ret (EXI.seq_ret ?_))))
  exact EXI.doneD (resc3c rfl rfl rfl rfl (lv_25 (q2.at (j := 0) rfl)) (lv_3 (q3.at (j := 0) rfl)) (lv_29 (q4.at (j := 0) rfl))) ⟨_, by rw [best_err ht], by rw [best_err ht]; exact own_nil _ _ _ _, hbw⟩
section
variable {n : Nat} {σ : Sg} {w : World} {dst : Option Tmp} {ty : TypeId} {pos : String} {af : Array Edge} {g : Option (Nat × Bool)} {x y z : Operand} {at' : Array TypeId}
theorem al_122 (a : Act) (_ : Env n σ a) : (execOp a.eval ⟨dst, .alloc 122, ty, pos, af, g⟩).run Try.prog w = .ok (.value (.pointer (some ⟨w.heap.size, 0, none⟩))) (w.alloc (.cells #[.pointer none] 122)) := by
 simp only [execOp]
 simp [go_sem]
end
theorem EQ.finD {P : Program} {n : Nat} {L : List Oper} {ds : List Deferred} {σ : Sg} {w : World} {Q : Exit → Act → World → Prop} (h : ∀ w', Below w.heap.size w w' → EXI n ds Q .normal σ w') : EQ P n L (fun w' => Below w.heap.size w w') (fun a' => ∀ w', Below w.heap.size w w' → Q .normal (addD ds a') w') [] σ := EQ.fin (Q := fun e a' w' => Q e (addD ds a') w') fun w' hw => EX.ofD (h w' hw)
section
variable {n : Nat} {σ : Sg} {w : World} {dst : Option Tmp} {ty : TypeId} {pos : String} {af : Array Edge} {g : Option (Nat × Bool)} {x y z : Operand}
theorem x_nilT (hx : evS σ x = some (.pointer none)) : Gives Try.prog n σ w ⟨dst, .binOp .eql 122 x (.const (.pointer none)) 122, ty, pos, af, g⟩ (.bool true) := fun a ha => by
 simp only [execOp, ha.eval hx]
 simp [go_sem]
theorem x_nilF {p : Addr} (hx : evS σ x = some (.pointer (some p))) : Gives Try.prog n σ w ⟨dst, .binOp .eql 122 x (.const (.pointer none)) 122, ty, pos, af, g⟩ (.bool false) := fun a ha => by
 simp only [execOp, ha.eval hx]
 simp [go_sem]
end
/-- the best draft so far, if there is one -/
def BestV (W : World) (b : Nat) (v : Value) : Option Dr → Prop
 | none => v = .pointer none
 | some d => OwnDr W b v d
theorem BestV.below {W W' : World} {b : Nat} {v : Value} {o : Option Dr} (h : BestV W b v o) (hb : Below W.heap.size W W') : BestV W' b v o := by
 cases o with
 | none => exact h
 | some d => exact OwnDr.below h hb
theorem BestV.soft {W W' : World} {b b2 m : Nat} {U : List Nat} {v : Value} {o : Option Dr} (h : BestV W b v o) (hs : Soft b2 m U W W') (h1 : memB U 124 = false) (h2 : memB U 87 = false) : BestV W' b v o := by
 cases o with
 | none => exact h
 | some d => exact OwnDr.soft h hs h1 h2
set_option maxHeartbeats 1000000 in
set_option maxRecDepth 100000 in
theorem Thrift_any {l : LK} {ts : List TW} {most : Int} {v : Value} {w : World} {B : Nat} (hr : Rd w B 5 v ts.length (twsC ts)) (hB : B ≤ w.heap.size) :
  Calls Try.prog 25 #[.agg #[.int .i64 l.length, .int .i64 l.cycle, .int .i64 l.turn, .int .i64 l.fill, .int .i64 l.save, .bool l.high], v, .int .i64 most] w fun e w' => ∃ sl, e = .returned (.tuple #[sl, .int .i64 (thriftP l ts most).2.1, .int .i64 (thriftP l ts most).2.2]) ∧ w'.ownsRow w.heap.size 87 2 sl (thriftP l ts most).1.length (spsC (thriftP l ts most).1) ∧ Below w.heap.size w w' := by
 obtain ⟨At, ct, rfl, _⟩ := hr.shape;have hbw := Below.refl w.heap.size w;refine EC.marks 62 Try.func25 rfl rfl rfl (ECI.seq (ECI.regionLD (EL.newP (bx_23 rfl) rfl ?_)));intro g1 w1 q1 hb1 hg1 hl1;have bhbw_1 := Nat.le_trans hbw.size hg1;replace hbw := bo_ hbw hb1;clear hb1 hg1 hl1;refine EL.newP (bx_3 rfl rfl) rfl ?_;intro g2 w2 q2 hb2 hg2 hl2;have n1_2 := q1.na hg2;have bhbw_2 := Nat.le_trans hbw.size hg2;replace q1 := q1.bl hb2;replace hbw := bo_ hbw hb2;clear hb2 hg2 hl2;refine EL.as rfl rfl (EL.as rfl rfl (EL.as rfl rfl (EL.nil (EX.ofD (EXI.seq (ECI.seq (ECI.seq (ECI.regionLD (EL.val (ld_23 rfl (q1.at (j := 0) rfl) (q1.at (j := 1) rfl) (q1.at (j := 2) rfl) (q1.at (j := 3) rfl) (q1.at (j := 4) rfl) (q1.at (j := 5) rfl)) rfl ?_)))))))));refine EL.mv rfl rfl (EL.call (cA2 cF45 rfl rfl) rfl (checkTows_any (hr.below (hbw.mono hB)) (Nat.le_trans hB hbw.size)) ?_)
 rintro e w3 ⟨rfl, hc3⟩
 refine ⟨_, rfl, ?_⟩;replace q1 := q1.bl hc3;replace q2 := q2.bl hc3;replace hbw := bo_ hbw hc3;clear hc3;refine EL.as rfl rfl (EL.nil (EX.ofD (EXI.seq (ECI.seq (ECI.regionLD (EL.mv rfl rfl ?_))))))
 by_cases ht : towE l ts = 0
 ·
  refine EL.val (x_neq (r := false) rfl rfl (decide_eq_false (by omega))) rfl ?_
  refine EL.nil (EX.ofD (EXI.seq (ECI.no rfl (ECI.skip (EXI.seq (ECI.seq (ECI.regionLD (EL.newP al_122 rfl ?_))))))));intro g4 w4 q4 hb4 hg4 hl4;have n1_4 := q1.na hg4;have n2_4 := q2.na hg4;have bhbw_4 := Nat.le_trans hbw.size hg4;replace q1 := q1.bl hb4;replace q2 := q2.bl hb4;replace hbw := bo_ hbw hb4;clear hb4 hg4 hl4;refine EL.nil (EX.ofD (EXI.seq (ECI.seq (ECI.seq (ECI.regionLD (EL.val (ld_23 rfl (q1.at (j := 0) rfl) (q1.at (j := 1) rfl) (q1.at (j := 2) rfl) (q1.at (j := 3) rfl) (q1.at (j := 4) rfl) (q1.at (j := 5) rfl)) rfl (EL.mv rfl rfl (EL.call (cA2 cF46 rfl rfl) rfl (plans_fn _) ?_))))))))
  rintro e w5 ⟨⟨g2n, g3n, rfl, qn2, qn3, hgn2, hgn3⟩, hc5⟩
  refine ⟨_, rfl, ?_⟩;replace q1 := q1.bl hc5;replace q2 := q2.bl hc5;replace q4 := q4.bl hc5;replace hbw := bo_ hbw hc5;clear hc5;refine EL.nil (EX.ofD (EXI.seq (ECI.block ?_)));have ls_2 := q2.lt;have ls_4 := q4.lt;have hsz := hbw.size;obtain ⟨hlk, hn8, htw⟩ := towE_zero ht;have hsoft : SoftI w5.heap.size w5.heap.size [145, 122] (fun pre X => pre.length ≤ (thrL most (allD l (qL ts))).length ∧ ∃ vb, Blk X g2 3 #[.int .i64 most] ∧ Blk X g4 122 #[vb] ∧ BestV X w5.heap.size vb (thrB ((thrL most (allD l (qL ts))).take pre.length)) ∧ Below w.heap.size w X) := fun s A B' ⟨h1, vb, h2, h3, h4, h5⟩ hs => ⟨h1, vb, hs.blk h2 rfl, hs.low h3 ls_4 ls_4, h4.soft hs rfl rfl, (hs.mono2 hsz).below h5 h5.size (Nat.le_refl _)⟩
  have hsofx : SoftI w5.heap.size w5.heap.size [145, 122] (fun pre X => ∃ vb, Blk X g2 3 #[.int .i64 most] ∧ Blk X g4 122 #[vb] ∧ BestV X w5.heap.size vb (thrB (thrL most (allD l (qL ts)))) ∧ Below w.heap.size w X) := fun s A B' ⟨vb, h2, h3, h4, h5⟩ hs => ⟨vb, hs.blk h2 rfl, hs.low h3 ls_4 ls_4, h4.soft hs rfl rfl, (hs.mono2 hsz).below h5 h5.size (Nat.le_refl _)⟩
  refine rangeFX (U := [145, 122]) (xi := 0) (Fr := fun l_ => SameF (l_ + 1)) (ok := fun x X => okP l (qL ts) w5.heap.size x X) (n0 := w.heap.size) (S := [122]) (σ1 := fun x => _) rfl (fun args w => by kernel_rfl) rfl (plans_iter rfl (qok_of ht) hn8 qn2 qn3 (hr.below (hbw.mono hB)) (Nat.le_trans hB hsz) hsz) (sameF_ok (by omega)) hsz (fun pre X => pre.length ≤ (thrL most (allD l (qL ts))).length ∧ ∃ vb, Blk X g2 3 #[.int .i64 most] ∧ Blk X g4 122 #[vb] ∧ BestV X w5.heap.size vb (thrB ((thrL most (allD l (qL ts))).take pre.length)) ∧ Below w.heap.size w X) (fun pre X => ∃ vb, Blk X g2 3 #[.int .i64 most] ∧ Blk X g4 122 #[vb] ∧ BestV X w5.heap.size vb (thrB (thrL most (allD l (qL ts)))) ∧ Below w.heap.size w X) hsoft hsofx ⟨Nat.zero_le _, _, q2, q4, rfl, hbw⟩ (fun x A B' row h hg hr => OwnDr.soft (b := w5.heap.size) (m := w5.heap.size) (U := []) h ⟨row, hg, fun g e => .inr (hr g e)⟩ rfl rfl) (fun l_ x X K hK => by
    refine ECI.regionL (lets_then lets_no) (by kernel_rfl) ?_
    refine EL.as rfl rfl (EL.nil (EX.toI ?_))
    exact fun a' ha' => hK a' ha') ?_ ?_ ?_
  ·
   clear hsoft hsofx q2 q4 hbw qn2 qn3
   rintro la9 pre ⟨x1, x2⟩ X hpf hokx ⟨hkl, vb, q2, q4, hbv, hbw⟩ hsz9
   obtain ⟨hnN, ex⟩ := pre_at hpf
   dsimp only at ex
   subst ex;have hdx : OwnDr X w5.heap.size x2 ((allD l (qL ts)).getD pre.length dr0) := hokx;have hdx0 := hdx;obtain ⟨bd, slp, rfl, hbd, qD, hpl⟩ := hdx.at_;obtain ⟨Ap, cp, rfl, _⟩ := (Rd.of_own hpl).shape;have hkp := Kp.refl w.heap.size [122] X;have hkf := KeepsFrom.refl w5.heap.size X;have hfr := SameF.refl (b := w5.heap.size + 2) X;have hXV := Nat.le_of_succ_le (Nat.le_of_succ_le hsz9);have hmore := thr_more (most := most) hkl hnN;have hstop := thr_stop (most := most) (l := (allD l (qL ts))) hkl;have hstep := fun h => thr_step (most := most) (l := (allD l (qL ts))) (k := pre.length) h
   generalize (allD l (qL ts)).getD pre.length dr0 = dd at *
   have n2_6 := blk_apart (U := [124]) q2 qD rfl rfl;have n4_6 := blk_apart (U := [124]) q4 qD rfl rfl;refine ECI.block (ECI.seq (ECI.seq ?_))
   by_cases hc : most < dd.s.cost
   ·
    refine ECI.regionO (by repeat (first | exact lets_bodyX | exact lets_no | refine lets_then ?_ | refine lets_blk ?_)) (by kernel_rfl) (EO.regionQ (by kernel_rfl) (by kernel_rfl) ?_)
    refine EQ.mv rfl rfl ?_;refine EQ.val (fun _ hw => (x_nilCheck rfl)) rfl ?_
    refine EQ.val (fun _ hw => (fa_124_0 rfl)) rfl ?_
    refine EQ.val (fun _ hw => (fa_114_2 rfl)) rfl ?_
    refine EQ.val (fun _ hw => (ld_3 rfl (below_load hw (qD.at (j := 14) rfl)))) rfl ?_
    refine EQ.val (fun _ hw => (ld_3 rfl (below_load hw (q2.at (j := 0) rfl)))) rfl ?_
    refine EQ.val (fun _ hw => (x_gtr (r := true) rfl rfl (decide_eq_true (by omega)))) rfl ?_
    refine EQ.fin (fun w7 hw_ => ?_)
    refine EX.toI ?_;replace q2 := q2.bl hw_;replace q4 := q4.bl hw_;replace qD := qD.bl hw_;replace hfr := hfr.trans (SameF.below hw_) hkp.size;replace hkp := hkp.trans (Kp.of_below hw_ (Nat.le_trans hsz (Nat.le_trans hXV hkp.size)));replace hkf := hkf.trans (KeepsFrom.below hw_);replace hbv := hbv.below hw_;replace hdx0 := hdx0.below hw_;replace hbw := bo_ hbw hw_;clear hw_;refine EXI.seq (ECI.yes rfl (ECI.exit (EXI.seq_exit (EXI.blk_other rfl ?_))))
    exact fun a0 ha0 => ⟨hkf, hkp, hfr, .inr ⟨rfl, _, q2, q4, by rw [hstop hc, List.take_length] at hbv; exact hbv, hbw⟩⟩
   ·
    refine ECI.regionO (by repeat (first | exact lets_bodyX | exact lets_no | refine lets_then ?_ | refine lets_blk ?_)) (by kernel_rfl) (EO.regionQ (by kernel_rfl) (by kernel_rfl) ?_)
    refine EQ.mv rfl rfl ?_;refine EQ.val (fun _ hw => (x_nilCheck rfl)) rfl ?_
    refine EQ.val (fun _ hw => (fa_124_0 rfl)) rfl ?_
    refine EQ.val (fun _ hw => (fa_114_2 rfl)) rfl ?_
    refine EQ.val (fun _ hw => (ld_3 rfl (below_load hw (qD.at (j := 14) rfl)))) rfl ?_
    refine EQ.val (fun _ hw => (ld_3 rfl (below_load hw (q2.at (j := 0) rfl)))) rfl ?_
    refine EQ.val (fun _ hw => (x_gtr (r := false) rfl rfl (decide_eq_false (by omega)))) rfl ?_
    refine EQ.fin (fun w8 hw_ => ?_)
    refine EX.toI ?_;replace q2 := q2.bl hw_;replace q4 := q4.bl hw_;replace qD := qD.bl hw_;replace hfr := hfr.trans (SameF.below hw_) hkp.size;replace hkp := hkp.trans (Kp.of_below hw_ (Nat.le_trans hsz (Nat.le_trans hXV hkp.size)));replace hkf := hkf.trans (KeepsFrom.below hw_);replace hbv := hbv.below hw_;replace hdx0 := hdx0.below hw_;replace hbw := bo_ hbw hw_;clear hw_;refine EXI.seq (ECI.no rfl (ECI.skip (EXI.seq (ECI.seq ?_))));have hkn := hmore (by omega)
    have hst := hstep hkn
    cases hb9 : thrB ((thrL most (allD l (qL ts))).take pre.length) with
    | none =>
      have hvb : vb = .pointer none := by rw [hb9] at hbv; exact hbv
      subst hvb;refine ECI.regionO (by repeat (first | exact lets_bodyX | exact lets_no | refine lets_then ?_ | refine lets_blk ?_)) (by kernel_rfl) (EO.regionQ (by kernel_rfl) (by kernel_rfl) ?_)
      refine EQ.val (fun _ hw => (ld_122 rfl (below_load hw (q4.at (j := 0) rfl)))) rfl ?_
      refine EQ.val (fun _ hw => (x_nilT rfl)) rfl ?_
      refine EQ.mv rfl rfl (EQ.skip rfl rfl rfl rfl (EQ.skip rfl rfl rfl rfl (EQ.skip rfl rfl rfl rfl (EQ.skip rfl rfl rfl rfl (EQ.skip rfl rfl rfl rfl (EQ.skip rfl rfl rfl rfl (EQ.skip rfl rfl rfl rfl (EQ.skip rfl rfl rfl rfl (EQ.skip rfl rfl rfl rfl ?_)))))))));refine EQ.skip rfl rfl rfl rfl (EQ.skip rfl rfl rfl rfl (EQ.skip rfl rfl rfl rfl (EQ.skip rfl rfl rfl rfl (EQ.skip rfl rfl rfl rfl (EQ.skip rfl rfl rfl rfl (EQ.skip rfl rfl rfl rfl (EQ.skip rfl rfl rfl rfl ?_)))))));refine EQ.val (fun _ hw => (x_pick_t rfl rfl)) rfl ?_
      refine EQ.fin (fun w9 hw_ => ?_)
      refine EX.toI ?_;replace q2 := q2.bl hw_;replace q4 := q4.bl hw_;replace qD := qD.bl hw_;replace hfr := hfr.trans (SameF.below hw_) hkp.size;replace hkp := hkp.trans (Kp.of_below hw_ (Nat.le_trans hsz (Nat.le_trans hXV hkp.size)));replace hkf := hkf.trans (KeepsFrom.below hw_);replace hbv := hbv.below hw_;replace hdx0 := hdx0.below hw_;replace hbw := bo_ hbw hw_;clear hw_;refine EXI.seq (ECI.yes rfl ?_);refine ECI.regionL (by repeat (first | exact lets_bodyX | exact lets_no | refine lets_then ?_ | refine lets_blk ?_)) (by kernel_rfl) ?_
      refine EL.mv rfl rfl (EL.store rfl rfl q4 sz_122 rfl rfl rfl rfl ?_);intro w10 hq10 hg10;replace q2 := q2.gr hg10 n2_4;replace qD := qD.gr hg10 n4_6.symm;replace hfr := hfr.trans (SameF.grown hg10 fun k e => by injection e with e; subst e; omega) hkp.size
      replace hkp := hkp.trans (Kp.grown q4 rfl bhbw_4 hg10);replace hkf := hkf.trans (.of (keeps_blk q4 hg10))
      skip
      replace hdx0 := hdx0.turn (TurnsS.turn (p := fun _ => True) (U := [122]) .refl hg10 trivial rfl q4) rfl rfl
      replace hbw := below_store hbw hg10 bhbw_4;replace q4 := hq10;clear hg10 hq10;refine EL.nil (EX.toI (EXI.blk ?_));have hup : updB none dd = some dd := rfl
      exact fun a0 ha0 => ⟨hkf, hkp, hfr, .inl ⟨rfl, by rw [List.length_append]; exact hkn, _, q2, q4, by rw [List.length_append]; show BestV _ _ _ (thrB (List.take (pre.length + 1) _)); rw [hst, hb9, hup]; exact hdx0, hbw⟩⟩
    | some ee =>
      have hbv2 := hbv;rw [hb9] at hbv2;obtain ⟨be, sle, rfl, hbe, qE, _⟩ := OwnDr.at_ hbv2
      by_cases hup_ : ee.s.up < dd.s.up
      ·
       refine ECI.regionO (by repeat (first | exact lets_bodyX | exact lets_no | refine lets_then ?_ | refine lets_blk ?_)) (by kernel_rfl) (EO.regionQ (by kernel_rfl) (by kernel_rfl) ?_)
       refine EQ.val (fun _ hw => (ld_122 rfl (below_load hw (q4.at (j := 0) rfl)))) rfl ?_
       refine EQ.val (fun _ hw => (x_nilF rfl)) rfl ?_
       refine EQ.mv rfl rfl (EQ.mg rfl rfl rfl rfl ?_);refine EQ.valg rfl rfl (fun _ hw => (x_nilCheck rfl)) rfl ?_
       refine EQ.valg rfl rfl (fun _ hw => (fa_124_0 rfl)) rfl ?_
       refine EQ.valg rfl rfl (fun _ hw => (fa_114_0 rfl)) rfl ?_
       refine EQ.valg rfl rfl (fun _ hw => (fa_111_1 rfl)) rfl ?_
       refine EQ.valg rfl rfl (fun _ hw => (fa_109_0 rfl)) rfl ?_
       refine EQ.valg rfl rfl (fun _ hw => (fa_35_0 rfl)) rfl ?_
       refine EQ.valg rfl rfl (fun _ hw => (ld_3 rfl (below_load hw (qD.at (j := 6) rfl)))) rfl ?_
       refine EQ.valg rfl rfl (fun _ hw => (ld_122 rfl (below_load hw (q4.at (j := 0) rfl)))) rfl ?_
       refine EQ.valg rfl rfl (fun _ hw => (x_nilCheck rfl)) rfl ?_
       refine EQ.valg rfl rfl (fun _ hw => (fa_124_0 rfl)) rfl ?_
       refine EQ.valg rfl rfl (fun _ hw => (fa_114_0 rfl)) rfl ?_
       refine EQ.valg rfl rfl (fun _ hw => (fa_111_1 rfl)) rfl ?_
       refine EQ.valg rfl rfl (fun _ hw => (fa_109_0 rfl)) rfl ?_
       refine EQ.valg rfl rfl (fun _ hw => (fa_35_0 rfl)) rfl ?_
       refine EQ.valg rfl rfl (fun _ hw => (ld_3 rfl (below_load hw (qE.at (j := 6) rfl)))) rfl ?_
       refine EQ.valg rfl rfl (fun _ hw => (x_gtr (r := true) rfl rfl (decide_eq_true (by omega)))) rfl ?_
       refine EQ.val (fun _ hw => (x_pick_f rfl rfl)) rfl ?_
       refine EQ.fin (fun w12 hw_ => ?_)
       refine EX.toI ?_;replace q2 := q2.bl hw_;replace q4 := q4.bl hw_;replace qD := qD.bl hw_;replace qE := qE.bl hw_;replace hfr := hfr.trans (SameF.below hw_) hkp.size;replace hkp := hkp.trans (Kp.of_below hw_ (Nat.le_trans hsz (Nat.le_trans hXV hkp.size)));replace hkf := hkf.trans (KeepsFrom.below hw_);replace hbv := hbv.below hw_;replace hdx0 := hdx0.below hw_;replace hbw := bo_ hbw hw_;clear hw_;refine EXI.seq (ECI.yes rfl ?_);refine ECI.regionL (by repeat (first | exact lets_bodyX | exact lets_no | refine lets_then ?_ | refine lets_blk ?_)) (by kernel_rfl) ?_
       refine EL.mv rfl rfl (EL.store rfl rfl q4 sz_122 rfl rfl rfl rfl ?_);intro w13 hq13 hg13;replace q2 := q2.gr hg13 n2_4;replace qD := qD.gr hg13 n4_6.symm;replace hfr := hfr.trans (SameF.grown hg13 fun k e => by injection e with e; subst e; omega) hkp.size
       replace hkp := hkp.trans (Kp.grown q4 rfl bhbw_4 hg13);replace hkf := hkf.trans (.of (keeps_blk q4 hg13))
       skip
       replace hdx0 := hdx0.turn (TurnsS.turn (p := fun _ => True) (U := [122]) .refl hg13 trivial rfl q4) rfl rfl
       replace hbw := below_store hbw hg13 bhbw_4;replace q4 := hq13;clear hg13 hq13;refine EL.nil (EX.toI (EXI.blk ?_));have hup : updB (some ee) dd = some dd := if_pos hup_
       exact fun a0 ha0 => ⟨hkf, hkp, hfr, .inl ⟨rfl, by rw [List.length_append]; exact hkn, _, q2, q4, by rw [List.length_append]; show BestV _ _ _ (thrB (List.take (pre.length + 1) _)); rw [hst, hb9, hup]; exact hdx0, hbw⟩⟩
      ·
       refine ECI.regionO (by repeat (first | exact lets_bodyX | exact lets_no | refine lets_then ?_ | refine lets_blk ?_)) (by kernel_rfl) (EO.regionQ (by kernel_rfl) (by kernel_rfl) ?_)
       refine EQ.val (fun _ hw => (ld_122 rfl (below_load hw (q4.at (j := 0) rfl)))) rfl ?_
       refine EQ.val (fun _ hw => (x_nilF rfl)) rfl ?_
       refine EQ.mv rfl rfl (EQ.mg rfl rfl rfl rfl ?_);refine EQ.valg rfl rfl (fun _ hw => (x_nilCheck rfl)) rfl ?_
       refine EQ.valg rfl rfl (fun _ hw => (fa_124_0 rfl)) rfl ?_
       refine EQ.valg rfl rfl (fun _ hw => (fa_114_0 rfl)) rfl ?_
       refine EQ.valg rfl rfl (fun _ hw => (fa_111_1 rfl)) rfl ?_
       refine EQ.valg rfl rfl (fun _ hw => (fa_109_0 rfl)) rfl ?_
       refine EQ.valg rfl rfl (fun _ hw => (fa_35_0 rfl)) rfl ?_
       refine EQ.valg rfl rfl (fun _ hw => (ld_3 rfl (below_load hw (qD.at (j := 6) rfl)))) rfl ?_
       refine EQ.valg rfl rfl (fun _ hw => (ld_122 rfl (below_load hw (q4.at (j := 0) rfl)))) rfl ?_
       refine EQ.valg rfl rfl (fun _ hw => (x_nilCheck rfl)) rfl ?_
       refine EQ.valg rfl rfl (fun _ hw => (fa_124_0 rfl)) rfl ?_
       refine EQ.valg rfl rfl (fun _ hw => (fa_114_0 rfl)) rfl ?_
       refine EQ.valg rfl rfl (fun _ hw => (fa_111_1 rfl)) rfl ?_
       refine EQ.valg rfl rfl (fun _ hw => (fa_109_0 rfl)) rfl ?_
       refine EQ.valg rfl rfl (fun _ hw => (fa_35_0 rfl)) rfl ?_
       refine EQ.valg rfl rfl (fun _ hw => (ld_3 rfl (below_load hw (qE.at (j := 6) rfl)))) rfl ?_
       refine EQ.valg rfl rfl (fun _ hw => (x_gtr (r := false) rfl rfl (decide_eq_false (by omega)))) rfl ?_
       refine EQ.val (fun _ hw => (x_pick_f rfl rfl)) rfl ?_
       refine EQ.fin (fun w14 hw_ => ?_)
       refine EX.toI ?_;replace q2 := q2.bl hw_;replace q4 := q4.bl hw_;replace qD := qD.bl hw_;replace qE := qE.bl hw_;replace hfr := hfr.trans (SameF.below hw_) hkp.size;replace hkp := hkp.trans (Kp.of_below hw_ (Nat.le_trans hsz (Nat.le_trans hXV hkp.size)));replace hkf := hkf.trans (KeepsFrom.below hw_);replace hbv := hbv.below hw_;replace hdx0 := hdx0.below hw_;replace hbw := bo_ hbw hw_;clear hw_;refine EXI.seq (ECI.no rfl (ECI.skip (EXI.blk ?_)));have hup : updB (some ee) dd = some ee := if_neg hup_
       exact fun a0 ha0 => ⟨hkf, hkp, hfr, .inl ⟨rfl, by rw [List.length_append]; exact hkn, _, q2, q4, by rw [List.length_append]; show BestV _ _ _ (thrB (List.take (pre.length + 1) _)); rw [hst, hb9, hup]; rw [hb9] at hbv; exact hbv, hbw⟩⟩
  ·
   clear hsoft hsofx q2 q4 hbw qn2 qn3
   rintro Dm zs X hDm hall9 ⟨hkl, vb, q2, q4, hbv, hbw⟩ hkp9 hdef
   have hzl : zs.length = (allD l (qL ts)).length := by have := congrArg List.length hall9; rwa [List.length_map, allE_len] at this
   have hze : zs.length = (thrL most (allD l (qL ts))).length := by have := thr_len (most := most) (l := (allD l (qL ts))); omega
   rw [hze, List.take_length] at hbv;clear hkl;refine EXI.blk (EXI.seq (ECI.seq (ECI.seq (ECI.regionLD (EL.val (ld_122 rfl (q4.at (j := 0) rfl)) rfl ?_)))))
   cases hb9 : thrB (thrL most (allD l (qL ts))) with
   | none =>
     have hvb : vb = .pointer none := by rw [hb9] at hbv; exact hbv
     subst hvb;refine EL.val (x_nilT rfl) rfl (EL.nil (EX.ofD (EXI.seq (ECI.yes rfl (ECI.seq (ECI.regionLD (EL.as rfl rfl (EL.as rfl rfl (EL.as rfl rfl ?_)))))))));refine EL.nil (EX.ofD (EXI.seq (ECI.ret (EXI.seq_ret ?_))));have hmk : Marks w.heap.size [({ target := .collected Dm, args := #[] } : Deferred)] X := fun d hd => ⟨Dm, Nat.le_trans hsz hDm, List.mem_singleton.1 hd, hdef⟩
     exact EXI.doneO hmk (by simp) (fun w' ht_ => (res3 rfl rfl rfl rfl)) (fun w' ht_ => ⟨_, by rw [thr_none ht hb9], by rw [thr_none ht hb9]; exact own_took (own_nil _ _ _ _) ht_.took, hbw.trans ht_.took.below⟩)
   | some ee =>
     rw [hb9] at hbv;obtain ⟨be, sle, rfl, hbe, qE, hple⟩ := OwnDr.at_ hbv;replace hple := own_mono hple hsz;obtain ⟨Ae, ce, rfl, _⟩ := (Rd.of_own hple).shape;refine EL.val (x_nilF rfl) rfl (EL.nil (EX.ofD (EXI.seq (ECI.no rfl (ECI.skip (EXI.seq (ECI.seq ?_)))))));refine ECI.regionD (EO.regionQ (by kernel_rfl) (by kernel_rfl) ?_)
     refine EQ.val (fun _ hw => (ld_122 rfl (below_load hw (q4.at (j := 0) rfl)))) rfl ?_
     refine EQ.val (fun _ hw => (x_nilCheck rfl)) rfl ?_
     refine EQ.val (fun _ hw => (fa_124_1 rfl)) rfl ?_
     refine EQ.val (fun _ hw => (ld_25 rfl (below_load hw (qE.at (j := 15) rfl)))) rfl ?_
     refine EQ.val (fun _ hw => (ld_122 rfl (below_load hw (q4.at (j := 0) rfl)))) rfl ?_
     refine EQ.val (fun _ hw => (x_nilCheck rfl)) rfl ?_
     refine EQ.val (fun _ hw => (fa_124_0 rfl)) rfl ?_
     refine EQ.val (fun _ hw => (fa_114_2 rfl)) rfl ?_
     refine EQ.val (fun _ hw => (ld_3 rfl (below_load hw (qE.at (j := 14) rfl)))) rfl ?_
     refine EQ.val (fun _ hw => (x_assign rfl)) rfl ?_
     refine EQ.val (fun _ hw => (x_assign rfl)) rfl ?_
     refine EQ.val (fun _ hw => (x_assign rfl)) rfl ?_
     refine EQ.finD (fun w16 hw_ => ?_)
     replace q2 := q2.bl hw_;replace q4 := q4.bl hw_;replace qE := qE.bl hw_;replace hdef := (hw_.block Dm (Array.getElem?_eq_some_iff.1 hdef).1).trans hdef;replace hple := own_below hple hw_ (Nat.le_refl _);replace hbw := bo_ hbw hw_;clear hw_;refine EXI.seq (ECI.ret ?_);have hmk : Marks w.heap.size [({ target := .collected Dm, args := #[] } : Deferred)] w16 := fun d hd => ⟨Dm, Nat.le_trans hsz hDm, List.mem_singleton.1 hd, hdef⟩
     exact EXI.doneO hmk (by simp) (fun w' ht_ => (res3 rfl rfl rfl rfl)) (fun w' ht_ => ⟨_, by rw [thr_some ht hb9], by rw [thr_some ht hb9]; exact own_took hple ht_.took, hbw.trans ht_.took.below⟩)
  ·
   clear hsoft hsofx q2 q4 hbw qn2 qn3
   rintro Dm pre X hDm hne9 hall9 ⟨vb, q2, q4, hbv, hbw⟩ hkp9 hdef
   refine EXI.blk_here (EXI.seq (ECI.seq (ECI.seq (ECI.regionLD (EL.val (ld_122 rfl (q4.at (j := 0) rfl)) rfl ?_)))))
   cases hb9 : thrB (thrL most (allD l (qL ts))) with
   | none =>
     have hvb : vb = .pointer none := by rw [hb9] at hbv; exact hbv
     subst hvb;refine EL.val (x_nilT rfl) rfl (EL.nil (EX.ofD (EXI.seq (ECI.yes rfl (ECI.seq (ECI.regionLD (EL.as rfl rfl (EL.as rfl rfl (EL.as rfl rfl ?_)))))))));refine EL.nil (EX.ofD (EXI.seq (ECI.ret (EXI.seq_ret ?_))));have hmk : Marks w.heap.size [({ target := .collected Dm, args := #[] } : Deferred)] X := fun d hd => ⟨Dm, Nat.le_trans hsz hDm, List.mem_singleton.1 hd, hdef⟩
     exact EXI.doneO hmk (by simp) (fun w' ht_ => (res3 rfl rfl rfl rfl)) (fun w' ht_ => ⟨_, by rw [thr_none ht hb9], by rw [thr_none ht hb9]; exact own_took (own_nil _ _ _ _) ht_.took, hbw.trans ht_.took.below⟩)
   | some ee =>
     rw [hb9] at hbv;obtain ⟨be, sle, rfl, hbe, qE, hple⟩ := OwnDr.at_ hbv;replace hple := own_mono hple hsz;obtain ⟨Ae, ce, rfl, _⟩ := (Rd.of_own hple).shape;refine EL.val (x_nilF rfl) rfl (EL.nil (EX.ofD (EXI.seq (ECI.no rfl (ECI.skip (EXI.seq (ECI.seq ?_)))))));refine ECI.regionD (EO.regionQ (by kernel_rfl) (by kernel_rfl) ?_)
     refine EQ.val (fun _ hw => (ld_122 rfl (below_load hw (q4.at (j := 0) rfl)))) rfl ?_
     refine EQ.val (fun _ hw => (x_nilCheck rfl)) rfl ?_
     refine EQ.val (fun _ hw => (fa_124_1 rfl)) rfl ?_
     refine EQ.val (fun _ hw => (ld_25 rfl (below_load hw (qE.at (j := 15) rfl)))) rfl ?_
     refine EQ.val (fun _ hw => (ld_122 rfl (below_load hw (q4.at (j := 0) rfl)))) rfl ?_
     refine EQ.val (fun _ hw => (x_nilCheck rfl)) rfl ?_
     refine EQ.val (fun _ hw => (fa_124_0 rfl)) rfl ?_
     refine EQ.val (fun _ hw => (fa_114_2 rfl)) rfl ?_
     refine EQ.val (fun _ hw => (ld_3 rfl (below_load hw (qE.at (j := 14) rfl)))) rfl ?_
     refine EQ.val (fun _ hw => (x_assign rfl)) rfl ?_
     refine EQ.val (fun _ hw => (x_assign rfl)) rfl ?_
     refine EQ.val (fun _ hw => (x_assign rfl)) rfl ?_
     refine EQ.finD (fun w18 hw_ => ?_)
     replace q2 := q2.bl hw_;replace q4 := q4.bl hw_;replace qE := qE.bl hw_;replace hdef := (hw_.block Dm (Array.getElem?_eq_some_iff.1 hdef).1).trans hdef;replace hple := own_below hple hw_ (Nat.le_refl _);replace hbw := bo_ hbw hw_;clear hw_;refine EXI.seq (ECI.ret ?_);have hmk : Marks w.heap.size [({ target := .collected Dm, args := #[] } : Deferred)] w18 := fun d hd => ⟨Dm, Nat.le_trans hsz hDm, List.mem_singleton.1 hd, hdef⟩
     exact EXI.doneO hmk (by simp) (fun w' ht_ => (res3 rfl rfl rfl rfl)) (fun w' ht_ => ⟨_, by rw [thr_some ht hb9], by rw [thr_some ht hb9]; exact own_took hple ht_.took, hbw.trans ht_.took.below⟩)
 ·
  refine EL.val (x_neq (r := true) rfl rfl (decide_eq_true (by omega))) rfl ?_
  refine EL.nil (EX.ofD (EXI.seq (ECI.yes rfl (ECI.seq (ECI.regionLD (EL.mv rfl rfl (EL.as rfl rfl (EL.as rfl rfl (EL.as rfl rfl ?_)))))))));refine EL.nil (EX.ofD (EXI.seq (ECI.ret (EXI.seq_ret ?_))))
  exact EXI.doneD (res3 rfl rfl rfl rfl) ⟨_, by rw [thr_err ht], by rw [thr_err ht]; exact own_nil _ _ _ _, hbw⟩
/-- how many tows of a direction a plan takes -/
def sumU (u : Bool) (p : List SP) : Int := ((p.filter fun x => x.up == u).map (·.tows)).sum
def leftU (q : QS) (u : Bool) (p : List SP) : Int := ((q u).length : Int) - sumU u p
def okAt (q : QS) (p : List SP) (k : Nat) : Bool := inB 1 (leftU q (p.getD k sp0).up (p.take k)) (p.getD k sp0).tows
def okC (q : QS) (p : List SP) : Bool := (List.range p.length).all (okAt q p) && (decide (leftU q false p = 0) && decide (leftU q true p = 0))
def sAt (l : LK) (q : QS) (p : List SP) (k : Nat) : ST := stP q (stL l) (p.take k)
def twAt (l : LK) (q : QS) (p : List SP) (k : Nat) : List TW := (waitL q (sAt l q p k) (p.getD k sp0).up).take (p.getD k sp0).tows.toNat
def fitAt (l : LK) (q : QS) (p : List SP) (k : Nat) : Bool := fitB (sAt l q p k).lk.length (twAt l q p k)
def fitC (l : LK) (q : QS) (p : List SP) : Bool := (List.range p.length).all (fitAt l q p)
def runAt (l : LK) (q : QS) (p : List SP) (k : Nat) : RN := runT (sAt l q p k) (twAt l q p k) (p.getD k sp0).up
def runsC (l : LK) (q : QS) (p : List SP) (k : Nat) : List RN := (List.range k).map (runAt l q p)
def carryE (l : LK) (ts : List TW) (p : List SP) : Int :=
 if towE l ts = 0 then (if okC (qL ts) p = true then (if fitC l (qL ts) p = true then 0 else 8) else 4) else towE l ts
theorem sumU_nil (u : Bool) : sumU u [] = 0 := rfl
theorem sumU_snoc (u : Bool) (p : List SP) (x : SP) : sumU u (p ++ [x]) = if x.up = u then sumU u p + x.tows else sumU u p := by
 unfold sumU
 rw [List.filter_append]
 by_cases h : x.up = u
 ·rw [if_pos h]
  simp [h]
 ·rw [if_neg h]
  simp [h]
theorem sumU_take {p : List SP} {k : Nat} (u : Bool) (h : k < p.length) : sumU u (p.take (k + 1)) = if (p.getD k sp0).up = u then sumU u (p.take k) + (p.getD k sp0).tows else sumU u (p.take k) := by
 rw [take_snoc h, sumU_snoc]
theorem sAt_succ {l : LK} {q : QS} {p : List SP} {k : Nat} (h : k < p.length) : sAt l q p (k + 1) = tkS (sAt l q p k) (twAt l q p k) (p.getD k sp0).up := by
 unfold sAt stP
 rw [take_snoc h, List.foldl_append]
 rfl
theorem runsC_succ (l : LK) (q : QS) (p : List SP) (k : Nat) : runsC l q p (k + 1) = runsC l q p k ++ [runAt l q p k] := by
 unfold runsC
 rw [List.range_succ, List.map_append]
 rfl
theorem inB_bd {a b n : Int} (h : inB a b n = true) : a ≤ n ∧ n ≤ b := (inB_iff ..).1 h
theorem all_at {f : Nat → Bool} {n k : Nat} (h : (List.range n).all f = true) (hk : k < n) : f k = true := List.all_eq_true.1 h k (List.mem_range.2 hk)
theorem all_of {f : Nat → Bool} {n : Nat} (h : ∀ k, k < n → f k = true) : (List.range n).all f = true := List.all_eq_true.2 fun k hk => h k (List.mem_range.1 hk)
theorem all_not {f : Nat → Bool} {n k : Nat} (hk : k < n) (h : f k = false) : (List.range n).all f = false := by
 cases e : (List.range n).all f with
 | false => rfl
 | true => rw [all_at e hk] at h; cases h
/-- while the steps are in order, the counts lie within the queues -/
theorem left_bd {q : QS} {p : List SP} {k : Nat} (hk : k ≤ p.length) (h : ∀ i, i < k → okAt q p i = true) (u : Bool) : 0 ≤ sumU u (p.take k) ∧ 0 ≤ leftU q u (p.take k) := by
 induction k with
 | zero => rw [List.take_zero, leftU, sumU_nil]; omega
 | succ k ih =>
  obtain ⟨h1, h2⟩ := ih (by omega) (fun i hi => h i (by omega))
  obtain ⟨a, b⟩ := inB_bd (h k (by omega))
  unfold leftU at *
  rw [sumU_take u (by omega)]
  split
  ·rename_i e
   rw [e] at b
   omega
  ·omega
/-- while the steps fit, too: the state is that of a draft -/
theorem carry_dr {l : LK} {q : QS} {p : List SP} (hq : QOk l q) : ∀ {k : Nat}, k ≤ p.length → (∀ i, i < k → okAt q p i = true) → (∀ i, i < k → fitAt l q p i = true) → DrOk l q ⟨sAt l q p k, p.take k⟩ ∧ ∀ u, ((tkn (sAt l q p k) u : Nat) : Int) = sumU u (p.take k)
 | 0, _, _, _ => ⟨dr_start hq.lk, fun u => by cases u <;> rfl⟩
 | k + 1, hk, h, hf => by
  obtain ⟨h1, h2⟩ := carry_dr hq (k := k) (by omega) (fun i hi => h i (by omega)) (fun i hi => hf i (by omega))
  obtain ⟨a, b⟩ := inB_bd (h k (by omega))
  have hu := h2 (p.getD k sp0).up;have hw : (p.getD k sp0).tows.toNat ≤ (waitL q (sAt l q p k) (p.getD k sp0).up).length := by
   rw [wait_len]
   unfold leftU at b
   omega
  have hfit := hf k (by omega)
  have h3 := DrOk.one (d := ⟨sAt l q p k, p.take k⟩) (u := (p.getD k sp0).up) (n := (p.getD k sp0).tows.toNat) hq h1 (by omega) hw hfit
  have e : (⟨(p.getD k sp0).up, (((p.getD k sp0).tows.toNat : Nat) : Int)⟩ : SP) = p.getD k sp0 := by
   rw [Int.toNat_of_nonneg (by omega)]
  have e2 : oneD q ⟨sAt l q p k, p.take k⟩ (p.getD k sp0).up (p.getD k sp0).tows.toNat = ⟨sAt l q p (k + 1), p.take (k + 1)⟩ := by
   unfold oneD
   rw [e, sAt_succ (by omega), take_snoc (d := sp0) (by omega)]
   rfl
  rw [e2] at h3;refine ⟨h3, fun u => ?_⟩
  rw [sAt_succ (by omega), tkn_tkS, sumU_take u (by omega)]
  have hl : (twAt l q p k).length = (p.getD k sp0).tows.toNat := by
   unfold twAt
   rw [List.length_take]
   omega
  by_cases eu : u = (p.getD k sp0).up
  ·subst eu
   rw [if_pos rfl, if_pos rfl, hl];have := h2 (p.getD k sp0).up
   omega
  ·rw [if_neg eu, if_neg (fun e => eu e.symm)]
   exact h2 u
theorem okC_len {q : QS} {p : List SP} (h : (List.range p.length).all (okAt q p) = true) : ∀ {k : Nat}, k ≤ p.length → (k : Int) ≤ sumU false (p.take k) + sumU true (p.take k)
 | 0, _ => by rw [List.take_zero, sumU_nil, sumU_nil]; omega
 | k + 1, hk => by
  have ih := okC_len h (k := k) (by omega)
  obtain ⟨a, b⟩ := inB_bd (all_at h (show k < p.length by omega))
  rw [sumU_take false (by omega), sumU_take true (by omega)]
  cases hu : (p.getD k sp0).up
  ·rw [if_pos rfl, if_neg (by decide)]
   omega
  ·rw [if_neg (by decide), if_pos rfl]
   omega
theorem okC_all {q : QS} {p : List SP} (h : okC q p = true) : (List.range p.length).all (okAt q p) = true ∧ leftU q false p = 0 ∧ leftU q true p = 0 := by
 unfold okC at h
 rw [Bool.and_eq_true, Bool.and_eq_true] at h
 exact ⟨h.1, of_decide_eq_true h.2.1, of_decide_eq_true h.2.2⟩
theorem okC_len8 {l : LK} {q : QS} {p : List SP} (hq : QOk l q) (h : okC q p = true) : p.length ≤ 8 := by
 obtain ⟨h1, h2, h3⟩ := okC_all h;have := okC_len h1 (Nat.le_refl _);have := hq.len;rw [List.take_length] at *
 unfold leftU at h2 h3
 omega
section
variable {n : Nat} {σ : Sg} {w : World} {dst : Option Tmp} {ty : TypeId} {pos : String} {af : Array Edge} {g : Option (Nat × Bool)} {x y z : Operand} {at' : Array TypeId}
theorem bd_112_0_1 {x0 x1 : Operand} {z0 : Int} {z1 : Int} (h0 : evS σ x0 = some (.int .i64 z0)) (h1 : evS σ x1 = some (.int .i64 z1)) : Gives Try.prog n σ w ⟨dst, .build 112 #[(0, x0), (1, x1)], ty, pos, af, g⟩ (.agg #[.int .i64 z0, .int .i64 z1]) := fun a ha => by
 simp only [execOp, List.map_toArray, List.map_cons, List.map_nil, ha.eval h0, ha.eval h1]
 go_simp
theorem al_112 (a : Act) (_ : Env n σ a) : (execOp a.eval ⟨dst, .alloc 112, ty, pos, af, g⟩).run Try.prog w = .ok (.value (.pointer (some ⟨w.heap.size, 0, none⟩))) (w.alloc (.cells #[.int .i64 0, .int .i64 0] 112)) := by
 simp only [execOp]
 simp [go_sem]
theorem sz_112 : (Try.prog.info? 112).map (·.size) = some 2 := by kernel_rfl
theorem ld_112 {b o : Nat} {v0 v1 : Value} (hx : evS σ x = some (.pointer (some ⟨b, o, none⟩))) (c0 : w.cell? ⟨b, o, none⟩ = some v0) (c1 : w.cell? ⟨b, o + 1, none⟩ = some v1) : Gives Try.prog n σ w ⟨dst, .load 112 x, ty, pos, af, g⟩ (.agg #[v0, v1]) := fun a ha => by
 simp only [execOp, ha.eval hx]
 simp [go_sem, c0, c1]
theorem bd_112_    : Gives Try.prog n σ w ⟨dst, .build 112 #[], ty, pos, af, g⟩ (.agg #[.int .i64 0, .int .i64 0]) := fun a _ => by
 simp only [execOp, List.map_toArray, List.map_nil]
 go_simp
theorem sl_24 {b o m c lo hi r : Nat} (hx : evS σ x = some (.slice (some ⟨b, o, none⟩) m c)) (hl : evS σ y = some (.int .i64 (lo : Int))) (hh : evS σ z = some (.int .i64 (hi : Int))) (h1 : lo ≤ hi) (h2 : hi ≤ c) (hr : (if c = lo then o else o + lo * 5) = r) : Gives Try.prog n σ w ⟨dst, .slice 24 x (some y) (some z) none, ty, pos, af, g⟩ (.slice (some ⟨b, r, none⟩) (hi - lo) (c - lo)) := fun a ha => by
 have k0 : (0 : Int) ≤ (lo : Int) := Int.natCast_nonneg _;have k1 : (0 : Int) ≤ (hi : Int) := Int.natCast_nonneg _;have k2 : (lo : Int) ≤ (hi : Int) := by omega
 have k3 : (hi : Int) ≤ (c : Int) := by omega
 subst hr
 simp only [execOp, Option.map_some, Option.map_none, ha.eval hx, ha.eval hl, ha.eval hh]
 by_cases e : c = lo
 ·subst e; simp [go_sem, k0, k1, k2, k3, h1, h2]
 ·simp [go_sem, k0, k1, k2, k3, h1, h2, e]
theorem bs_31_1 {x0 : Operand} {v0_0 v0_1 : Value} (h0 : evS σ x0 = some (.agg #[v0_0, v0_1]))  (a : Act) (ha : Env n σ a) : (execOp a.eval ⟨dst, .buildSlice 31 1 #[(0, x0)], ty, pos, af, g⟩).run Try.prog w = .ok (.value (.slice (some ⟨w.heap.size, 0, none⟩) 1 1)) (w.alloc (.cells #[v0_0, v0_1] 49)) := by
 simp only [execOp, List.map_toArray, List.map_cons, List.map_nil, ha.eval h0]
 go_simp
end
end Go.Proofs.Ytlbfnimilcnihaa
