/- X3, ExX4, X4, ExX5, X5, HuPas, ExX6, X6, HuLat, ExX7: what HullWearsProof needs of them (merged by trimpack.py). -/
import Derived.Test.YtfgfenmaommclaaWearsT2
set_option linter.unusedVariables false
set_option linter.unusedSimpArgs false
namespace Go.Proofs.Ytfgfenmaommclaa
open Go Go.RowKit
theorem QJ9 : (Try.prog.info? 127).map (fun i => (i.zero, i.size, i.bytes)) = some (some (.agg #[.int .i64 0, .int .i64 0]), 2, 16) := by kernel_rfl
structure OwnShip (w : World) (base g : Nat) (h : Hul) (v hv : Value) : Prop where
 box : Blk w g 125 (QGe h v hv)
 ge : base ≤ g
 holds : w.ownsRow base 127 2 hv (ZN h).length (holdsC (ZN h))
section
variable {w w' : World} {base g : Nat} {h : Hul} {v hv : Value}
theorem OwnShip.below (hs : OwnShip w base g h v hv) (hb : Below w.heap.size w w') : OwnShip w' base g h v hv := ⟨hs.box.below hb hs.box.lt, hs.ge, own_below hs.holds hb (Nat.le_refl _)⟩
theorem OwnShip.type {k T : Nat} {cs : Array Value} (hs : OwnShip w base g h v hv) (hq : Blk w k T cs) (h1 : Nat.beq T 125 = false) (h2 : Nat.beq T 127 = false) (hg : w.grownBy w' (some k)) : OwnShip w' base g h v hv :=
 ⟨hs.box.grown hg (fun e => by
  have e := Option.some.inj e;subst e;have h3 := hs.box
  unfold Blk at h3 hq
  rw [hq] at h3
  injection h3 with h3
  injection h3 with _ h4
  rw [h4] at h1
  simp at h1), hs.ge, ZF hs.holds hq h2 hg⟩
theorem OwnShip.rd {B : Nat} {vs : List (Value × Value)} (hs : OwnShip w base g h v hv) (hr : RdSecs w B v h.secs vs) (hB : B ≤ w.heap.size) : RdShip w w.heap.size g h v hv vs := ⟨hs.box, hs.box.lt, hr.more hB, rd_of_own hs.holds⟩
end
theorem QJ_ : Elem Try.prog 123 127 2 16 := Elem.mk' Try.underlying123 QJ9 rfl (by omega)
set_option maxRecDepth 100000 in
set_option maxHeartbeats 2000000 in
theorem QCF (h : Hul) (v : Value) (vs : List (Value × Value)) (w : World) (B : Nat) (hr : RdSecs w B v h.secs vs) (hB : B ≤ w.heap.size) (hl : h.secs.length ≤ 1048576) (hfew : Zl h.secs) :
  Calls Try.prog 39 #[.agg #[.int .i64 h.lot, v]] w fun e w' => ((hulB h = false ∧ e = .returned (.tuple #[.pointer none, .int .i64 2])) ∨ (hulB h = true ∧ ∃ g hv, e = .returned (.tuple #[.pointer (some ⟨g, 0, none⟩), .int .i64 0]) ∧ w.heap.size ≤ g ∧ RdShip w' w'.heap.size g h v hv vs ∧ OwnShip w' w.heap.size g h v hv)) ∧ Below w.heap.size w w' := by
 obtain ⟨A, c, rfl⟩ := hr.shape;have hbw := Below.refl w.heap.size w;refine EC.enter 161 Try.func39 rfl rfl rfl (EC.seq (EC.region (EL.newP (QCT rfl) rfl ?_)));intro g1 w1 q1 hb1 hg1 hl1;have bhbw_1 := Nat.le_trans hbw.size hg1;replace hbw := bo_ hbw hb1;clear hb1 hg1 hl1;refine EL.as rfl rfl (EL.as rfl rfl (EL.nil (EX.seq (EC.seq (EC.region (EL.val (QBj rfl (q1.at (j := 0) rfl) (q1.at (j := 1) rfl)) rfl (EL.val (QGR rfl rfl) rfl (EL.newP (QLP rfl) rfl ?_))))))));intro g2 w2 q2 hb2 hg2 hl2;have n1_2 := q1.na hg2;have bhbw_2 := Nat.le_trans hbw.size hg2;replace q1 := q1.bl hb2;replace hbw := bo_ hbw hb2;clear hb2 hg2 hl2;refine EL.as rfl rfl (EL.nil (EX.seq (EC.seq (EC.seq (EC.region (EL.val (QCl rfl) rfl (EL.val (ld_3 rfl (q1.at (j := 0) rfl)) rfl (EL.newS (Zt rfl) rfl ?_))))))));intro g3 w3 q3 hb3 hg3 hl3;have n1_3 := q1.na hg3;have n2_3 := q2.na hg3;have bhbw_3 := Nat.le_trans hbw.size hg3;replace q1 := q1.bl hb3;replace q2 := q2.bl hb3;replace hbw := bo_ hbw hb3;clear hb3 hg3 hl3
 cases h1 : inB 1 1000 h.lot
 ·
  refine EL.call (cA3 cF35 rfl rfl rfl) rfl (ZW q3 h1) ?_
  rintro e w4 ⟨rfl, hc4⟩
  refine ⟨_, rfl, ?_⟩;replace q1 := q1.bl hc4;replace q2 := q2.bl hc4;replace q3 := q3.bl hc4;replace hbw := bo_ hbw hc4;clear hc4;refine EL.val (ZV rfl) rfl (EL.mv rfl rfl (EL.skip rfl rfl rfl rfl (EL.skip rfl rfl rfl rfl (EL.skip rfl rfl rfl rfl (EL.skip rfl rfl rfl rfl (EL.skip rfl rfl rfl rfl (EL.skip rfl rfl rfl rfl (EL.pt rfl rfl rfl (EL.nil ?_)))))))));refine EX.seq (EC.yes rfl (EC.seq (EC.region (EL.as rfl rfl (EL.as rfl rfl (EL.nil (EX.seq (EC.ret (EX.seq_ret ?_)))))))))
  exact EX.done (res2 rfl rfl rfl) ⟨.inl ⟨QBl (.inl h1), rfl⟩, hbw⟩
 ·
  refine EL.call (cA3 cF35 rfl rfl rfl) rfl (ZW q3 h1) ?_
  rintro e w5 ⟨rfl, hc5⟩
  refine ⟨_, rfl, ?_⟩;replace q1 := q1.bl hc5;replace q2 := q2.bl hc5;replace q3 := q3.bl hc5;replace hbw := bo_ hbw hc5;clear hc5;refine EL.val (ZV rfl) rfl (EL.mv rfl rfl (EL.valg rfl rfl (Yc rfl) rfl (EL.valg rfl rfl (QAb rfl (q1.at (j := 1) rfl)) rfl (EL.valg rfl rfl (QAp rfl) rfl (EL.newSg rfl rfl (Zt rfl) rfl ?_)))));intro g6 w6 q6 hb6 hg6 hl6;have n1_6 := q1.na hg6;have n2_6 := q2.na hg6;have n3_6 := q3.na hg6;have bhbw_6 := Nat.le_trans hbw.size hg6;replace q1 := q1.bl hb6;replace q2 := q2.bl hb6;replace q3 := q3.bl hb6;replace hbw := bo_ hbw hb6;clear hb6 hg6 hl6
  cases h2 : inB 1 6 (h.secs.length : Nat)
  ·
   refine EL.callg rfl rfl (cA3 cF35 rfl rfl rfl) rfl (ZW q6 h2) ?_
   rintro e w7 ⟨rfl, hc7⟩
   refine ⟨_, rfl, ?_⟩;replace q1 := q1.bl hc7;replace q2 := q2.bl hc7;replace q3 := q3.bl hc7;replace q6 := q6.bl hc7;replace hbw := bo_ hbw hc7;clear hc7;refine EL.valg rfl rfl (ZV rfl) rfl (EL.pf rfl rfl rfl (EL.nil (EX.seq (EC.yes rfl (EC.seq (EC.region (EL.as rfl rfl (EL.as rfl rfl (EL.nil ?_)))))))));refine EX.seq (EC.ret (EX.seq_ret ?_))
   exact EX.done (res2 rfl rfl rfl) ⟨.inl ⟨QBl (.inr (.inl h2)), rfl⟩, hbw⟩
  ·
   refine EL.callg rfl rfl (cA3 cF35 rfl rfl rfl) rfl (ZW q6 h2) ?_
   rintro e w8 ⟨rfl, hc8⟩
   refine ⟨_, rfl, ?_⟩;replace q1 := q1.bl hc8;replace q2 := q2.bl hc8;replace q3 := q3.bl hc8;replace q6 := q6.bl hc8;replace hbw := bo_ hbw hc8;clear hc8;refine EL.valg rfl rfl (ZV rfl) rfl (EL.pf rfl rfl rfl (EL.nil (EX.seq (EC.no rfl (EC.skip (EX.seq (EC.seq (EC.region (EL.as rfl rfl ?_)))))))));refine EL.nil (EX.seq (EC.seq (EC.seq (EC.region (EL.val (Yc rfl) rfl (EL.val (QAb rfl (q1.at (j := 1) rfl)) rfl (EL.val (QAp rfl) rfl (EL.mv rfl rfl (EL.nil ?_)))))))));refine EX.seq (EC.block ?_);have hsome := inB_iff.1 h2;refine EC.loopD [2, 3, 5, 7, 32, 33, 34, 35, 36, 37, 38, 39, 40, 41, 42, 43, 44, 45, 46, 47, 48, 49, 50, 51, 52, 53, 54, 55, 56, 57, 58, 59, 60, 61, 62, 63, 64, 65, 66, 67, 68, 69, 70, 71, 72, 73, 74, 75, 76, 77, 78, 79, 80, 81, 82, 83, 84, 85, 86, 87, 88] (fun k : Nat => [(5, .int .i64 (YN (h.secs.take k))), (32, .int .i64 (k : Nat))]) (fun k W => k ≤ h.secs.length ∧ (h.secs.take k).all secB = true ∧ Blk W g1 44 #[.int .i64 h.lot, .slice A h.secs.length c] ∧ Blk W g2 125 #[.int .i64 h.lot, .slice A h.secs.length c, .slice none 0 0, .int .i64 (sumS Sec.len (h.secs.take k)), .int .i64 (sumS Sec.light (h.secs.take k)), .int .i64 0, .int .i64 (sumS Sec.trim (h.secs.take k)), .int .i64 (limS (h.secs.take k))] ∧ Below w.heap.size w W) (fun k => h.secs.length - k) 0 ⟨Nat.zero_le _, rfl, q1, q2, hbw⟩ ⟨rfl, rfl, trivial⟩ ?_
   clear q1 q2 hbw
   rintro k wk ⟨hk, hall, q1, q2, hbw⟩
   by_cases hltk : k < h.secs.length
   ·
    obtain ⟨b, o, rfl, _, sc⟩ := hr.cells k hltk;have hc1 := hr.curve k hltk;have hh1 := hr.holds k hltk;have hfk := hfew _ (getD_mem (d := sec0) hltk);have es1 := YT Sec.len hltk;have es2 := YT Sec.light hltk;have es3 := YT Sec.trim hltk;have es4 := QHt hltk;have es5 : YN (h.secs.take (k + 1)) = YN (h.secs.take k) + ((h.secs.getD k sec0).holds.length : Nat) := YT (fun s => ((s.holds.length : Nat) : Int)) hltk
    have hsm := getD_mem (d := sec0) hltk;have hsu := QJh (l := h.secs) hltk;obtain ⟨y, ey⟩ : ∃ z, z = h.secs.getD k sec0 := ⟨_, rfl⟩;rw [← ey] at sc hc1 hh1 hfk es1 es2 es3 es4 es5 hsm hsu;obtain ⟨⟨vc, vh⟩, ep⟩ : ∃ z, z = vs.getD k uu := ⟨_, rfl⟩;rw [← ep] at sc hc1 hh1
    dsimp only at hc1 hh1
    obtain ⟨Ac, cc_, evc, _⟩ := hc1.shape;obtain ⟨Ah, ch_, evh, _⟩ := hh1.shape;subst evc evh;have hso := QJu hall;have hSk := QAS (n := 6) hso (by rw [List.length_take]; omega)
    have hmk := QFN hfew k (by omega)
    unfold YS at es4
    cases h3 : secB y
    ·
     refine EC.seq (EC.region ?_);refine EL.val (ZO rfl rfl (decide_eq_true (show (((k : Nat) : Int) < ((h.secs.length : Nat) : Int)) by omega))) rfl ?_
     refine EL.nil (EX.seq (EC.seq (EC.yes rfl (EC.skip (EX.seq (EC.seq (EC.block (EC.seq (EC.region ?_)))))))));refine EL.val (QFX rfl rfl hltk) rfl (EL.val (QAr rfl (ZD hbw sc.c0) (ZD hbw sc.c1) (ZD hbw sc.c2) (ZD hbw sc.c3) (ZD hbw sc.c4)) rfl (EL.newP QEE rfl ?_));intro g9 w9 q9 hb9 hg9 hl9;have n1_9 := q1.na hg9;have n2_9 := q2.na hg9;have bhbw_9 := Nat.le_trans hbw.size hg9;replace q1 := q1.bl hb9;replace q2 := q2.bl hb9;replace hbw := bo_ hbw hb9;clear hb9 hg9 hl9;refine EL.store rfl rfl q9 QDw rfl rfl rfl rfl ?_;intro w10 hq10 hg10;replace q1 := q1.gr hg10 n1_9;replace q2 := q2.gr hg10 n2_9;replace hbw := ZC hbw hg10 bhbw_9;replace q9 := hq10;clear hg10 hq10;refine EL.nil (EX.seq (EC.seq (EC.seq (EC.region (EL.val (QAr rfl (q9.at (j := 0) rfl) (q9.at (j := 1) rfl) (q9.at (j := 2) rfl) (q9.at (j := 3) rfl) (q9.at (j := 4) rfl)) rfl ?_)))));refine EL.call (cA1 cF55 rfl) rfl (QGg h3 _ _ _ B (hc1.below (hbw.mono hB)) (hh1.below (hbw.mono hB)) (Nat.le_trans hB hbw.size) (by omega) (by omega)) ?_
     rintro e w11 ⟨rfl, hc11⟩
     refine ⟨_, rfl, ?_⟩;replace q1 := q1.bl hc11;replace q2 := q2.bl hc11;replace q9 := q9.bl hc11;replace hbw := bo_ hbw hc11;clear hc11;refine EL.val (ZV rfl) rfl (EL.nil (EX.seq (EC.yes rfl (EC.seq (EC.region (EL.as rfl rfl (EL.as rfl rfl (EL.nil (EX.seq ?_)))))))));refine EC.ret (EX.seq_ret (EX.blk_ret (EX.seq_ret (EX.seq_ret (EX.blk_ret (EX.seq_ret ?_))))))
     exact EX.done (res2 rfl rfl rfl) ⟨.inl ⟨QBl (.inr (.inr (.inl (QKd hltk (ey ▸ h3))))), rfl⟩, hbw⟩
    ·
     have hok := QF3 h3;obtain ⟨bc, oc, rfl, _, rc⟩ := Z9 y.curve (y.curve.length - 1) (by have := hok.curve.len; omega) w B _ _ _ hc1
     have hcl := hok.curve.len;have hkl := hok.last
     unfold YS at hkl
     have hl0 := hok.len;have hl1 := hok.light;have hl2 := hok.trim;have hS1 := hSk.long;have hS2 := hSk.light;have hS3 := hSk.trim;refine EC.seq (EC.region ?_);refine EL.val (ZO rfl rfl (decide_eq_true (show (((k : Nat) : Int) < ((h.secs.length : Nat) : Int)) by omega))) rfl ?_
     refine EL.nil (EX.seq (EC.seq (EC.yes rfl (EC.skip (EX.seq (EC.seq (EC.block (EC.seq (EC.region ?_)))))))));refine EL.val (QFX rfl rfl hltk) rfl (EL.val (QAr rfl (ZD hbw sc.c0) (ZD hbw sc.c1) (ZD hbw sc.c2) (ZD hbw sc.c3) (ZD hbw sc.c4)) rfl (EL.newP QEE rfl ?_));intro g12 w12 q12 hb12 hg12 hl12;have n1_12 := q1.na hg12;have n2_12 := q2.na hg12;have bhbw_12 := Nat.le_trans hbw.size hg12;replace q1 := q1.bl hb12;replace q2 := q2.bl hb12;replace hbw := bo_ hbw hb12;clear hb12 hg12 hl12;refine EL.store rfl rfl q12 QDw rfl rfl rfl rfl ?_;intro w13 hq13 hg13;replace q1 := q1.gr hg13 n1_12;replace q2 := q2.gr hg13 n2_12;replace hbw := ZC hbw hg13 bhbw_12;replace q12 := hq13;clear hg13 hq13;refine EL.nil (EX.seq (EC.seq (EC.seq (EC.region (EL.val (QAr rfl (q12.at (j := 0) rfl) (q12.at (j := 1) rfl) (q12.at (j := 2) rfl) (q12.at (j := 3) rfl) (q12.at (j := 4) rfl)) rfl ?_)))));refine EL.call (cA1 cF55 rfl) rfl (QGg h3 _ _ _ B (hc1.below (hbw.mono hB)) (hh1.below (hbw.mono hB)) (Nat.le_trans hB hbw.size) (by omega) (by omega)) ?_
     rintro e w14 ⟨rfl, hc14⟩
     refine ⟨_, rfl, ?_⟩;replace q1 := q1.bl hc14;replace q2 := q2.bl hc14;replace q12 := q12.bl hc14;replace hbw := bo_ hbw hc14;clear hc14;refine EL.val (ZV rfl) rfl (EL.nil (EX.seq (EC.no rfl (EC.skip (EX.seq (EC.seq ?_))))));have lt_1 := q1.lt;have lt_2 := q2.lt;have lt_12 := q12.lt;refine EC.regionP [[], [0], [0, 1], [0, 1, 2], [], [4], [0, 1, 2, 3, 4, 5], [0, 1, 2, 3, 4, 5, 6], [0, 1, 2, 3, 4, 5, 6, 7], [0, 1, 2, 3, 4, 5, 6, 7, 8]] 7 [] (phi (fun i_ r => match i_ with | 0 => r 0 = .pointer (some ⟨g2, 0, none⟩) | 1 => r 1 = .pointer (some ⟨g2, 0, none⟩) | 2 => r 2 = .pointer (some ⟨g2, 3, none⟩) | 3 => r 3 = .int .i64 (sumS Sec.len (h.secs.take k)) | 4 => r 4 = .pointer (some ⟨g12, 0, none⟩) | 5 => r 5 = .int .i64 y.len | 6 => r 6 = .int .i64 ((sumS Sec.len (h.secs.take k)) + y.len) | _ => True) []) (by kernel_rfl) rfl rfl (ZY) (fun i_ hi_ => ?_) ?_
     ·match i_, hi_ with
      | 0, _ =>
       intro val w1 a hb ha hd;have ha := ha.s0 (d := 4) rfl
       exact ZB ha rfl rfl (ZH rfl) rfl rfl
      | 1, _ =>
       intro val w1 a hb ha hd;have e0 : val 0 = _ := hd 0 (ZA.1 rfl);have ha := ha.s1 (d := 39) rfl e0
       exact ZB ha rfl rfl (ZK rfl) rfl rfl
      | 2, _ =>
       intro val w1 a hb ha hd;have e1 : val 1 = _ := hd 1 (ZA.1 rfl);have ha := ha.s1 (d := 40) rfl e1
       exact ZB ha rfl rfl (QAt rfl) rfl rfl
      | 3, _ =>
       intro val w1 a hb ha hd;have e2 : val 2 = _ := hd 2 (ZA.1 rfl);have ha := ha.s1 (d := 41) rfl e2
       exact ZB ha rfl rfl (ld_3 rfl ((q2.below hb q2.lt).at (j := 3) rfl)) rfl rfl
      | 4, _ =>
       intro val w1 a hb ha hd;have ha := ha.s0 (d := 7) rfl
       exact ZB ha rfl rfl (QBp rfl) rfl rfl
      | 5, _ =>
       intro val w1 a hb ha hd;have e4 : val 4 = _ := hd 4 (ZA.1 rfl);have ha := ha.s1 (d := 43) rfl e4
       exact ZB ha rfl rfl (ld_3 rfl ((q12.below hb q12.lt).at (j := 0) rfl)) rfl rfl
      | 6, _ =>
       intro val w1 a hb ha hd;have e3 : val 3 = _ := hd 3 (ZA.1 rfl);have e5 : val 5 = _ := hd 5 (ZA.1 rfl);have ha := ha.s2 (d := 44) (e := 42) rfl e5 rfl e3
       exact ZB ha rfl rfl (ZM rfl rfl (by first | assumption | exact IntWalk.i64_in _ ⟨by omega, by omega⟩)) rfl rfl
      | k + 7, h => exact absurd h (by omega)
     ·intro val wR10 hb halc hd
      have e0 : val 0 = _ := hd 0 (by omega)
      have e1 : val 1 = _ := hd 1 (by omega)
      have e2 : val 2 = _ := hd 2 (by omega)
      have e3 : val 3 = _ := hd 3 (by omega)
      have e4 : val 4 = _ := hd 4 (by omega)
      have e5 : val 5 = _ := hd 5 (by omega)
      have e6 : val 6 = _ := hd 6 (by omega)
      refine EL.ends (cs := [_, _, _, _, _, _, _]) ⟨e0, e1, e2, e3, e4, e5, e6, trivial⟩ rfl ?_;replace q1 := q1.bl hb;replace q2 := q2.bl hb;replace q12 := q12.bl hb;replace hbw := bo_ hbw hb;clear hb;refine EL.val (ZK rfl) rfl (EL.val (QAt rfl) rfl (EL.store rfl rfl q2 sz_3 rfl rfl rfl rfl ?_));intro w15 hq15 hg15;replace q1 := q1.gr hg15 n1_2;replace q12 := q12.gr hg15 n2_12.symm;replace hbw := ZC hbw hg15 bhbw_2;replace q2 := hq15;clear hg15 hq15;refine EL.nil (EX.seq (EC.seq ?_));have lt_1 := q1.lt;have lt_2 := q2.lt;have lt_12 := q12.lt;refine EC.regionP [[], [0], [0, 1], [0, 1, 2], [], [4], [0, 1, 2, 3, 4, 5], [0, 1, 2, 3, 4, 5, 6], [0, 1, 2, 3, 4, 5, 6, 7], [0, 1, 2, 3, 4, 5, 6, 7, 8]] 7 [] (phi (fun i_ r => match i_ with | 0 => r 0 = .pointer (some ⟨g2, 0, none⟩) | 1 => r 1 = .pointer (some ⟨g2, 0, none⟩) | 2 => r 2 = .pointer (some ⟨g2, 4, none⟩) | 3 => r 3 = .int .i64 (sumS Sec.light (h.secs.take k)) | 4 => r 4 = .pointer (some ⟨g12, 1, none⟩) | 5 => r 5 = .int .i64 y.light | 6 => r 6 = .int .i64 ((sumS Sec.light (h.secs.take k)) + y.light) | _ => True) []) (by kernel_rfl) rfl rfl (ZY) (fun i_ hi_ => ?_) ?_
      ·match i_, hi_ with
       | 0, _ =>
        intro val w1 a hb ha hd;have ha := ha.s0 (d := 4) rfl
        exact ZB ha rfl rfl (ZH rfl) rfl rfl
       | 1, _ =>
        intro val w1 a hb ha hd;have e0 : val 0 = _ := hd 0 (ZA.1 rfl);have ha := ha.s1 (d := 48) rfl e0
        exact ZB ha rfl rfl (ZK rfl) rfl rfl
       | 2, _ =>
        intro val w1 a hb ha hd;have e1 : val 1 = _ := hd 1 (ZA.1 rfl);have ha := ha.s1 (d := 49) rfl e1
        exact ZB ha rfl rfl (QDX rfl) rfl rfl
       | 3, _ =>
        intro val w1 a hb ha hd;have e2 : val 2 = _ := hd 2 (ZA.1 rfl);have ha := ha.s1 (d := 50) rfl e2
        exact ZB ha rfl rfl (ld_3 rfl ((q2.below hb q2.lt).at (j := 4) rfl)) rfl rfl
       | 4, _ =>
        intro val w1 a hb ha hd;have ha := ha.s0 (d := 7) rfl
        exact ZB ha rfl rfl (QEk rfl) rfl rfl
       | 5, _ =>
        intro val w1 a hb ha hd;have e4 : val 4 = _ := hd 4 (ZA.1 rfl);have ha := ha.s1 (d := 52) rfl e4
        exact ZB ha rfl rfl (ld_3 rfl ((q12.below hb q12.lt).at (j := 1) rfl)) rfl rfl
       | 6, _ =>
        intro val w1 a hb ha hd;have e3 : val 3 = _ := hd 3 (ZA.1 rfl);have e5 : val 5 = _ := hd 5 (ZA.1 rfl);have ha := ha.s2 (d := 53) (e := 51) rfl e5 rfl e3
        exact ZB ha rfl rfl (ZM rfl rfl (by first | assumption | exact IntWalk.i64_in _ ⟨by omega, by omega⟩)) rfl rfl
       | k + 7, h => exact absurd h (by omega)
      ·intro val wR11 hb halc hd
       have e0 : val 0 = _ := hd 0 (by omega)
       have e1 : val 1 = _ := hd 1 (by omega)
       have e2 : val 2 = _ := hd 2 (by omega)
       have e3 : val 3 = _ := hd 3 (by omega)
       have e4 : val 4 = _ := hd 4 (by omega)
       have e5 : val 5 = _ := hd 5 (by omega)
       have e6 : val 6 = _ := hd 6 (by omega)
       refine EL.ends (cs := [_, _, _, _, _, _, _]) ⟨e0, e1, e2, e3, e4, e5, e6, trivial⟩ rfl ?_;replace q1 := q1.bl hb;replace q2 := q2.bl hb;replace q12 := q12.bl hb;replace hbw := bo_ hbw hb;clear hb;refine EL.val (ZK rfl) rfl (EL.val (QDX rfl) rfl (EL.store rfl rfl q2 sz_3 rfl rfl rfl rfl ?_));intro w16 hq16 hg16;replace q1 := q1.gr hg16 n1_2;replace q12 := q12.gr hg16 n2_12.symm;replace hbw := ZC hbw hg16 bhbw_2;replace q2 := hq16;clear hg16 hq16;refine EL.nil (EX.seq (EC.seq ?_));have lt_1 := q1.lt;have lt_2 := q2.lt;have lt_12 := q12.lt;refine EC.regionP [[], [0], [0, 1], [0, 1, 2], [], [4], [0, 1, 2, 3, 4, 5], [0, 1, 2, 3, 4, 5, 6], [0, 1, 2, 3, 4, 5, 6, 7], [0, 1, 2, 3, 4, 5, 6, 7, 8]] 7 [] (phi (fun i_ r => match i_ with | 0 => r 0 = .pointer (some ⟨g2, 0, none⟩) | 1 => r 1 = .pointer (some ⟨g2, 0, none⟩) | 2 => r 2 = .pointer (some ⟨g2, 6, none⟩) | 3 => r 3 = .int .i64 (sumS Sec.trim (h.secs.take k)) | 4 => r 4 = .pointer (some ⟨g12, 2, none⟩) | 5 => r 5 = .int .i64 y.trim | 6 => r 6 = .int .i64 ((sumS Sec.trim (h.secs.take k)) + y.trim) | _ => True) []) (by kernel_rfl) rfl rfl (ZY) (fun i_ hi_ => ?_) ?_
       ·match i_, hi_ with
        | 0, _ =>
         intro val w1 a hb ha hd;have ha := ha.s0 (d := 4) rfl
         exact ZB ha rfl rfl (ZH rfl) rfl rfl
        | 1, _ =>
         intro val w1 a hb ha hd;have e0 : val 0 = _ := hd 0 (ZA.1 rfl);have ha := ha.s1 (d := 57) rfl e0
         exact ZB ha rfl rfl (ZK rfl) rfl rfl
        | 2, _ =>
         intro val w1 a hb ha hd;have e1 : val 1 = _ := hd 1 (ZA.1 rfl);have ha := ha.s1 (d := 58) rfl e1
         exact ZB ha rfl rfl (QBs rfl) rfl rfl
        | 3, _ =>
         intro val w1 a hb ha hd;have e2 : val 2 = _ := hd 2 (ZA.1 rfl);have ha := ha.s1 (d := 59) rfl e2
         exact ZB ha rfl rfl (ld_3 rfl ((q2.below hb q2.lt).at (j := 6) rfl)) rfl rfl
        | 4, _ =>
         intro val w1 a hb ha hd;have ha := ha.s0 (d := 7) rfl
         exact ZB ha rfl rfl (QG9 rfl) rfl rfl
        | 5, _ =>
         intro val w1 a hb ha hd;have e4 : val 4 = _ := hd 4 (ZA.1 rfl);have ha := ha.s1 (d := 61) rfl e4
         exact ZB ha rfl rfl (ld_3 rfl ((q12.below hb q12.lt).at (j := 2) rfl)) rfl rfl
        | 6, _ =>
         intro val w1 a hb ha hd;have e3 : val 3 = _ := hd 3 (ZA.1 rfl);have e5 : val 5 = _ := hd 5 (ZA.1 rfl);have ha := ha.s2 (d := 62) (e := 60) rfl e5 rfl e3
         exact ZB ha rfl rfl (ZM rfl rfl (by first | assumption | exact IntWalk.i64_in _ ⟨by omega, by omega⟩)) rfl rfl
        | k + 7, h => exact absurd h (by omega)
       ·intro val wR12 hb halc hd
        have e0 : val 0 = _ := hd 0 (by omega)
        have e1 : val 1 = _ := hd 1 (by omega)
        have e2 : val 2 = _ := hd 2 (by omega)
        have e3 : val 3 = _ := hd 3 (by omega)
        have e4 : val 4 = _ := hd 4 (by omega)
        have e5 : val 5 = _ := hd 5 (by omega)
        have e6 : val 6 = _ := hd 6 (by omega)
        refine EL.ends (cs := [_, _, _, _, _, _, _]) ⟨e0, e1, e2, e3, e4, e5, e6, trivial⟩ rfl ?_;replace q1 := q1.bl hb;replace q2 := q2.bl hb;replace q12 := q12.bl hb;replace hbw := bo_ hbw hb;clear hb;refine EL.val (ZK rfl) rfl (EL.val (QBs rfl) rfl (EL.store rfl rfl q2 sz_3 rfl rfl rfl rfl ?_));intro w17 hq17 hg17;replace q1 := q1.gr hg17 n1_2;replace q12 := q12.gr hg17 n2_12.symm;replace hbw := ZC hbw hg17 bhbw_2;replace q2 := hq17;clear hg17 hq17;refine EL.nil (EX.seq (EC.seq ?_));have lt_1 := q1.lt;have lt_2 := q2.lt;have lt_12 := q12.lt;refine EC.regionP [[], [], [1], [1, 2], [1, 2, 3], [], [5], [], [7], [7, 8], [7, 8, 9], [5, 6, 7, 8, 9, 10], [5, 6, 7, 8, 9, 10, 11], [5, 6, 7, 8, 9, 10, 11, 12], [1, 2, 3, 4, 5, 6, 7, 8, 9, 10, 11, 12, 13], [0, 1, 2, 3, 4, 5, 6, 7, 8, 9, 10, 11, 12, 13, 14], [0, 1, 2, 3, 4, 5, 6, 7, 8, 9, 10, 11, 12, 13, 14, 15], [0, 1, 2, 3, 4, 5, 6, 7, 8, 9, 10, 11, 12, 13, 14, 15, 16]] 15 [] (phi (fun i_ r => match i_ with | 0 => r 0 = .pointer (some ⟨g2, 0, none⟩) | 1 => r 1 = .pointer (some ⟨g2, 0, none⟩) | 2 => r 2 = .pointer (some ⟨g2, 0, none⟩) | 3 => r 3 = .pointer (some ⟨g2, 7, none⟩) | 4 => r 4 = .int .i64 (limS (h.secs.take k)) | 5 => r 5 = .pointer (some ⟨g12, 3, none⟩) | 6 => r 6 = .slice (some ⟨bc, oc, none⟩) y.curve.length cc_ | 7 => r 7 = .pointer (some ⟨g12, 3, none⟩) | 8 => r 8 = .slice (some ⟨bc, oc, none⟩) y.curve.length cc_ | 9 => r 9 = .int .i64 (y.curve.length : Nat) | 10 => r 10 = .int .i64 ((y.curve.length - 1) : Nat) | 11 => r 11 = .pointer (some ⟨bc, oc + (y.curve.length - 1) * 2, none⟩) | 12 => r 12 = .pointer (some ⟨bc, oc + (y.curve.length - 1) * 2, none⟩) | 13 => r 13 = .int .i64 (y.curve.getD (y.curve.length - 1) ZL).draft | 14 => r 14 = .int .i64 (min (limS (h.secs.take k)) (y.curve.getD (y.curve.length - 1) ZL).draft) | _ => True) []) (by kernel_rfl) rfl rfl (ZY) (fun i_ hi_ => ?_) ?_
        ·match i_, hi_ with
         | 0, _ =>
          intro val w1 a hb ha hd;have ha := ha.s0 (d := 4) rfl
          exact ZB ha rfl rfl (ZH rfl) rfl rfl
         | 1, _ =>
          intro val w1 a hb ha hd;have ha := ha.s0 (d := 4) rfl
          exact ZB ha rfl rfl (ZH rfl) rfl rfl
         | 2, _ =>
          intro val w1 a hb ha hd;have e1 : val 1 = _ := hd 1 (ZA.1 rfl);have ha := ha.s1 (d := 67) rfl e1
          exact ZB ha rfl rfl (ZK rfl) rfl rfl
         | 3, _ =>
          intro val w1 a hb ha hd;have e2 : val 2 = _ := hd 2 (ZA.1 rfl);have ha := ha.s1 (d := 68) rfl e2
          exact ZB ha rfl rfl (Y7 rfl) rfl rfl
         | 4, _ =>
          intro val w1 a hb ha hd;have e3 : val 3 = _ := hd 3 (ZA.1 rfl);have ha := ha.s1 (d := 69) rfl e3
          exact ZB ha rfl rfl (ld_3 rfl ((q2.below hb q2.lt).at (j := 7) rfl)) rfl rfl
         | 5, _ =>
          intro val w1 a hb ha hd;have ha := ha.s0 (d := 7) rfl
          exact ZB ha rfl rfl (Yz rfl) rfl rfl
         | 6, _ =>
          intro val w1 a hb ha hd;have e5 : val 5 = _ := hd 5 (ZA.1 rfl);have ha := ha.s1 (d := 71) rfl e5
          exact ZB ha rfl rfl (QCN rfl ((q12.below hb q12.lt).at (j := 3) rfl)) rfl rfl
         | 7, _ =>
          intro val w1 a hb ha hd;have ha := ha.s0 (d := 7) rfl
          exact ZB ha rfl rfl (Yz rfl) rfl rfl
         | 8, _ =>
          intro val w1 a hb ha hd;have e7 : val 7 = _ := hd 7 (ZA.1 rfl);have ha := ha.s1 (d := 73) rfl e7
          exact ZB ha rfl rfl (QCN rfl ((q12.below hb q12.lt).at (j := 3) rfl)) rfl rfl
         | 9, _ =>
          intro val w1 a hb ha hd;have e8 : val 8 = _ := hd 8 (ZA.1 rfl);have ha := ha.s1 (d := 74) rfl e8
          exact ZB ha rfl rfl (QG0 rfl) rfl rfl
         | 10, _ =>
          intro val w1 a hb ha hd;have e9 : val 9 = _ := hd 9 (ZA.1 rfl);have ha := ha.s1 (d := 75) rfl e9
          exact ZB ha rfl rfl (Z4 rfl rfl (c := ((y.curve.length - 1 : Nat) : Int)) ((IntWalk.i64_in _ ⟨by omega, by omega⟩).trans (by omega))) rfl rfl
         | 11, _ =>
          intro val w1 a hb ha hd;have e6 : val 6 = _ := hd 6 (ZA.1 rfl);have e10 : val 10 = _ := hd 10 (ZA.1 rfl);have ha := ha.s2 (d := 76) (e := 72) rfl e10 rfl e6
          exact ZB ha rfl rfl (QAs rfl rfl (show y.curve.length - 1 < y.curve.length by omega)) rfl rfl
         | 12, _ =>
          intro val w1 a hb ha hd;have e11 : val 11 = _ := hd 11 (ZA.1 rfl);have ha := ha.s1 (d := 77) rfl e11
          exact ZB ha rfl rfl (YJ rfl) rfl rfl
         | 13, _ =>
          intro val w1 a hb ha hd;have e12 : val 12 = _ := hd 12 (ZA.1 rfl);have ha := ha.s1 (d := 78) rfl e12
          exact ZB ha rfl rfl (ld_3 rfl (ZD (hbw.trans (hb.mono hbw.size)) rc.c0)) rfl rfl
         | 14, _ =>
          intro val w1 a hb ha hd;have e4 : val 4 = _ := hd 4 (ZA.1 rfl);have e13 : val 13 = _ := hd 13 (ZA.1 rfl);have ha := ha.s2 (d := 79) (e := 70) rfl e13 rfl e4
          exact ZB ha rfl rfl (QCA rfl rfl rfl) rfl rfl
         | k + 15, h => exact absurd h (by omega)
        ·intro val wR13 hb halc hd
         have e0 : val 0 = _ := hd 0 (by omega)
         have e1 : val 1 = _ := hd 1 (by omega)
         have e2 : val 2 = _ := hd 2 (by omega)
         have e3 : val 3 = _ := hd 3 (by omega)
         have e4 : val 4 = _ := hd 4 (by omega)
         have e5 : val 5 = _ := hd 5 (by omega)
         have e6 : val 6 = _ := hd 6 (by omega)
         have e7 : val 7 = _ := hd 7 (by omega)
         have e8 : val 8 = _ := hd 8 (by omega)
         have e9 : val 9 = _ := hd 9 (by omega)
         have e10 : val 10 = _ := hd 10 (by omega)
         have e11 : val 11 = _ := hd 11 (by omega)
         have e12 : val 12 = _ := hd 12 (by omega)
         have e13 : val 13 = _ := hd 13 (by omega)
         have e14 : val 14 = _ := hd 14 (by omega)
         refine EL.ends (cs := [_, _, _, _, _, _, _, _, _, _, _, _, _, _, _]) ⟨e0, e1, e2, e3, e4, e5, e6, e7, e8, e9, e10, e11, e12, e13, e14, trivial⟩ rfl ?_;replace q1 := q1.bl hb;replace q2 := q2.bl hb;replace q12 := q12.bl hb;replace hbw := bo_ hbw hb;clear hb;refine EL.val (ZK rfl) rfl (EL.val (Y7 rfl) rfl (EL.store rfl rfl q2 sz_3 rfl rfl rfl rfl ?_));intro w18 hq18 hg18;replace q1 := q1.gr hg18 n1_2;replace q12 := q12.gr hg18 n2_12.symm;replace hbw := ZC hbw hg18 bhbw_2;replace q2 := hq18;clear hg18 hq18;refine EL.nil (EX.seq (EC.region (EL.mv rfl rfl (EL.val (QBo rfl) rfl (EL.val (QG2 rfl (q12.at (j := 4) rfl)) rfl (EL.val (QI3 rfl) rfl ?_))))));refine EL.val (ZM rfl rfl (IntWalk.i64_in _ ⟨by omega, by omega⟩)) rfl ?_
         refine EL.as rfl rfl (EL.nil (EX.blk (EX.seq (EC.region ?_))));refine EL.val (ZM rfl rfl (c := ((k + 1 : Nat) : Int)) ((IntWalk.i64_in _ ⟨by first | omega | (simp only; omega), by first | omega | (simp only; omega)⟩).trans (by first | omega | (simp only; omega)))) rfl ?_
         refine EL.mv rfl rfl (EL.nil ?_);refine EX.roundD (k + 1) ⟨by rw [es5]; rfl, rfl, trivial⟩ (by repeat first | with_reducible exact .refl _ | refine sp_ rfl ?_ | exact .refl _ | refine sd_ rfl ?_ | refine sn_ ?_) ⟨by omega, by rw [hsu, hall, h3]; rfl, q1, by rw [es1, es2, es3, es4]; exact q2, hbw⟩ (by omega)
   ·
    obtain rfl : k = h.secs.length := by omega
    rw [List.take_length] at hall ⊢;have hso := List.all_eq_true.1 hall
    simp only [List.take_length] at q2
    have hmf := QFN hfew h.secs.length (by omega)
    rw [List.take_length] at hmf;refine EC.seq (EC.region ?_);refine EL.val (ZO rfl rfl (decide_eq_false (show ¬(((h.secs.length : Nat) : Int) < ((h.secs.length : Nat) : Int)) by omega))) rfl ?_
    refine EL.nil (EX.seq (EC.seq (EC.no rfl (EC.exit (EX.seq_exit (EX.seq_exit (EX.blk_here (EX.seq (EC.seq ?_)))))))));refine EC.seq (EC.region (EL.mv rfl rfl (EL.val (ZK rfl) rfl (EL.val (QAt rfl) rfl (EL.val (ld_3 rfl (q2.at (j := 3) rfl)) rfl ?_)))))
    by_cases h4 : 200 < sumS Sec.len h.secs
    ·
     refine EL.val (YP (r := true) rfl rfl (decide_eq_true (by omega))) rfl ?_
     refine EL.mv rfl rfl (EL.skip rfl rfl rfl rfl (EL.skip rfl rfl rfl rfl (EL.pt rfl rfl rfl (EL.nil (EX.seq (EC.yes rfl (EC.seq (EC.region (EL.as rfl rfl ?_)))))))));refine EL.as rfl rfl (EL.nil (EX.seq (EC.ret (EX.seq_ret ?_))))
     exact EX.done (res2 rfl rfl rfl) ⟨.inl ⟨QBl (.inr (.inr (.inr (.inl h4)))), rfl⟩, hbw⟩
    ·
     refine EL.val (YP (r := false) rfl rfl (decide_eq_false (by omega))) rfl ?_
     refine EL.mv rfl rfl (EL.mg rfl rfl rfl rfl ?_)
     by_cases h5 : 4 < YN h.secs
     ·
      refine EL.valg rfl rfl (YP (r := true) rfl rfl (decide_eq_true (by omega))) rfl ?_
      refine EL.pf rfl rfl rfl (EL.nil (EX.seq (EC.yes rfl (EC.seq (EC.region (EL.as rfl rfl (EL.as rfl rfl (EL.nil (EX.seq ?_)))))))));refine EC.ret (EX.seq_ret ?_)
      exact EX.done (res2 rfl rfl rfl) ⟨.inl ⟨QBl (.inr (.inr (.inr (.inr h5)))), rfl⟩, hbw⟩
     ·
      refine EL.valg rfl rfl (YP (r := false) rfl rfl (decide_eq_false (by omega))) rfl ?_
      refine EL.pf rfl rfl rfl (EL.nil (EX.seq (EC.no rfl (EC.skip (EX.seq (EC.seq (EC.region (EL.as rfl rfl (EL.nil ?_)))))))));refine EX.seq (EC.seq (EC.seq (EC.region (EL.val (Yc rfl) rfl (EL.val (QAb rfl (q1.at (j := 1) rfl)) rfl (EL.val (QAp rfl) rfl (EL.mv rfl rfl (EL.nil (EX.seq ?_)))))))));refine EC.block ?_;have hH : HulOk h := QBS (by unfold hulB; simp only [Bool.and_eq_true, decide_eq_true_eq]; exact ⟨⟨h1, h2⟩, hall, by omega, by omega⟩)
      clear hmf hso;have hg15 := bhbw_2;refine EC.loopD [8, 10, 12, 101, 102, 103, 104, 105, 106, 107, 108, 109, 110, 111, 112, 113, 114, 115, 116, 117, 118, 119, 120, 121, 122, 123, 124, 125, 126, 127, 128, 129, 130, 131, 132, 133, 134, 135, 136, 137, 138, 139, 140, 141, 142, 143, 144, 145, 146, 147, 148, 149, 150, 151, 152, 153, 154, 155, 156, 157, 158, 159] (fun x : Nat × Value => [(8, .int .i64 (sumS Sec.len (h.secs.take x.1))), (101, .int .i64 (x.1 : Nat))]) (fun x W => x.1 ≤ h.secs.length ∧ Blk W g2 125 #[.int .i64 h.lot, .slice A h.secs.length c, x.2, .int .i64 (sumS Sec.len h.secs), .int .i64 (sumS Sec.light h.secs), .int .i64 (momS (sumS Sec.len h.secs) 0 (h.secs.take x.1)), .int .i64 (sumS Sec.trim h.secs), .int .i64 (limS h.secs)] ∧ W.ownsRow w.heap.size 127 2 x.2 (armsS (sumS Sec.len h.secs) 0 (h.secs.take x.1)).length (holdsC (armsS (sumS Sec.len h.secs) 0 (h.secs.take x.1))) ∧ Below w.heap.size w W) (fun x => h.secs.length - x.1) (0, .slice none 0 0) ⟨Nat.zero_le _, q2, own_nil _ _ _ _, hbw⟩ ⟨rfl, rfl, trivial⟩ ?_
      clear q2 hbw
      rintro ⟨k, hv⟩ wk ⟨hk, q15, ho, hbw⟩
      dsimp only at hk q15 ho
      by_cases hltk : k < h.secs.length
      ·
       obtain ⟨b, o, rfl, _, sc⟩ := hr.cells k hltk;have hc1 := hr.curve k hltk;have hh1 := hr.holds k hltk;have hfk := hfew _ (getD_mem (d := sec0) hltk);have es1 := YT Sec.len hltk;have es2 := QHk (sumS Sec.len h.secs) hltk;have es3 := QGS (sumS Sec.len h.secs) hltk;have hsm := getD_mem (d := sec0) hltk;obtain ⟨y, ey⟩ : ∃ z, z = h.secs.getD k sec0 := ⟨_, rfl⟩;rw [← ey] at sc hc1 hh1 hfk es1 es2 es3 hsm;obtain ⟨⟨vc, vh⟩, ep⟩ : ∃ z, z = vs.getD k uu := ⟨_, rfl⟩;rw [← ep] at sc hc1 hh1
       dsimp only at hc1 hh1
       obtain ⟨Ac, cc_, evc, _⟩ := hc1.shape;obtain ⟨Ah, ch_, evh, _⟩ := hh1.shape;subst evc evh;have hok := hH.secs y hsm;have hl0 := hok.len;have hl1 := hok.light;have hlb := hH.bds.1
       unfold QAo at hlb
       have hpt := (QAS (n := 6) (l := h.secs.take k) (fun s hs => hH.secs s (List.mem_of_mem_take hs)) (by rw [List.length_take]; have := hH.some; omega)).long
       have hps := QHT hH hltk;rw [← ey] at hps;have hmu := QEh (a := y.light) (A := 10000) (b := 2 * sumS Sec.len (h.secs.take k) + y.len - (sumS Sec.len h.secs)) (B := 700) hl1.1 hl1.2 (by omega) (by omega)
       have hmo := QEU (long := (sumS Sec.len h.secs)) (by omega) (h.secs.take k) 0 (fun s hs => hH.secs s (List.mem_of_mem_take hs)) (by omega) (by omega)
       have hkn : (h.secs.take k).length ≤ 6 := by rw [List.length_take]; have := hH.some; omega
       obtain ⟨mo, emo⟩ : ∃ z, z = momS (sumS Sec.len h.secs) 0 (h.secs.take k) := ⟨_, rfl⟩;rw [← emo] at q15 es2 hmo;obtain ⟨at_, eat⟩ : ∃ z, z = sumS Sec.len (h.secs.take k) := ⟨_, rfl⟩;rw [← eat] at es1 es2 es3 hmu hpt hps ⊢;refine EC.seq (EC.region ?_);refine EL.val (ZO rfl rfl (decide_eq_true (show (((k : Nat) : Int) < ((h.secs.length : Nat) : Int)) by omega))) rfl ?_
       refine EL.nil (EX.seq (EC.seq (EC.yes rfl (EC.skip (EX.seq (EC.seq (EC.block (EC.seq (EC.region ?_)))))))));refine EL.val (QFX rfl rfl hltk) rfl (EL.val (QAr rfl (ZD hbw sc.c0) (ZD hbw sc.c1) (ZD hbw sc.c2) (ZD hbw sc.c3) (ZD hbw sc.c4)) rfl (EL.newP QEE rfl ?_));intro g19 w19 q19 hb19 hg19 hl19;have n2_19 := q15.na hg19;have bhbw_19 := Nat.le_trans hbw.size hg19;replace q15 := q15.bl hb19;replace ho := own_below ho hb19 (Nat.le_refl _);replace hbw := bo_ hbw hb19;clear hb19 hg19 hl19;refine EL.store rfl rfl q19 QDw rfl rfl rfl rfl ?_;intro w20 hq20 hg20;replace q15 := q15.gr hg20 n2_19;replace ho := ZF ho q19 rfl hg20;replace hbw := ZC hbw hg20 bhbw_19;replace q19 := hq20;clear hg20 hq20;refine EL.nil (EX.seq (EC.seq ?_));have lt_2 := q15.lt;have lt_19 := q19.lt;refine EC.regionP [[], [0], [0, 1], [0, 1, 2], [], [4], [], [6], [], [8], [6, 7, 8, 9], [], [11], [11, 12], [11, 12, 13], [6, 7, 8, 9, 10, 11, 12, 13, 14], [4, 5, 6, 7, 8, 9, 10, 11, 12, 13, 14, 15], [0, 1, 2, 3, 4, 5, 6, 7, 8, 9, 10, 11, 12, 13, 14, 15, 16], [0, 1, 2, 3, 4, 5, 6, 7, 8, 9, 10, 11, 12, 13, 14, 15, 16, 17], [0, 1, 2, 3, 4, 5, 6, 7, 8, 9, 10, 11, 12, 13, 14, 15, 16, 17, 18], [0, 1, 2, 3, 4, 5, 6, 7, 8, 9, 10, 11, 12, 13, 14, 15, 16, 17, 18, 19]] 18 [] (phi (fun i_ r => match i_ with | 0 => r 0 = .pointer (some ⟨g2, 0, none⟩) | 1 => r 1 = .pointer (some ⟨g2, 0, none⟩) | 2 => r 2 = .pointer (some ⟨g2, 5, none⟩) | 3 => r 3 = .int .i64 mo | 4 => r 4 = .pointer (some ⟨g19, 1, none⟩) | 5 => r 5 = .int .i64 y.light | 6 => r 6 = .int .i64 at_ | 7 => r 7 = .int .i64 (2 * at_) | 8 => r 8 = .pointer (some ⟨g19, 0, none⟩) | 9 => r 9 = .int .i64 y.len | 10 => r 10 = .int .i64 (2 * at_ + y.len) | 11 => r 11 = .pointer (some ⟨g2, 0, none⟩) | 12 => r 12 = .pointer (some ⟨g2, 0, none⟩) | 13 => r 13 = .pointer (some ⟨g2, 3, none⟩) | 14 => r 14 = .int .i64 (sumS Sec.len h.secs) | 15 => r 15 = .int .i64 (2 * at_ + y.len - (sumS Sec.len h.secs)) | 16 => r 16 = .int .i64 (y.light * (2 * at_ + y.len - (sumS Sec.len h.secs))) | 17 => r 17 = .int .i64 (mo + (y.light * (2 * at_ + y.len - (sumS Sec.len h.secs)))) | _ => True) []) (by kernel_rfl) rfl rfl (ZY) (fun i_ hi_ => ?_) ?_
       ·match i_, hi_ with
        | 0, _ =>
         intro val w1 a hb ha hd;have ha := ha.s0 (d := 4) rfl
         exact ZB ha rfl rfl (ZH rfl) rfl rfl
        | 1, _ =>
         intro val w1 a hb ha hd;have e0 : val 0 = _ := hd 0 (ZA.1 rfl);have ha := ha.s1 (d := 105) rfl e0
         exact ZB ha rfl rfl (ZK rfl) rfl rfl
        | 2, _ =>
         intro val w1 a hb ha hd;have e1 : val 1 = _ := hd 1 (ZA.1 rfl);have ha := ha.s1 (d := 106) rfl e1
         exact ZB ha rfl rfl (QDW rfl) rfl rfl
        | 3, _ =>
         intro val w1 a hb ha hd;have e2 : val 2 = _ := hd 2 (ZA.1 rfl);have ha := ha.s1 (d := 107) rfl e2
         exact ZB ha rfl rfl (ld_3 rfl ((q15.below hb q15.lt).at (j := 5) rfl)) rfl rfl
        | 4, _ =>
         intro val w1 a hb ha hd;have ha := ha.s0 (d := 10) rfl
         exact ZB ha rfl rfl (QEk rfl) rfl rfl
        | 5, _ =>
         intro val w1 a hb ha hd;have e4 : val 4 = _ := hd 4 (ZA.1 rfl);have ha := ha.s1 (d := 109) rfl e4
         exact ZB ha rfl rfl (ld_3 rfl ((q19.below hb q19.lt).at (j := 1) rfl)) rfl rfl
        | 6, _ =>
         intro val w1 a hb ha hd;have ha := ha.s0 (d := 8) rfl
         exact ZB ha rfl rfl (ZH rfl) rfl rfl
        | 7, _ =>
         intro val w1 a hb ha hd;have e6 : val 6 = _ := hd 6 (ZA.1 rfl);have ha := ha.s1 (d := 111) rfl e6
         exact ZB ha rfl rfl (QAc rfl rfl (IntWalk.i64_in _ ⟨by omega, by omega⟩)) rfl rfl
        | 8, _ =>
         intro val w1 a hb ha hd;have ha := ha.s0 (d := 10) rfl
         exact ZB ha rfl rfl (QBp rfl) rfl rfl
        | 9, _ =>
         intro val w1 a hb ha hd;have e8 : val 8 = _ := hd 8 (ZA.1 rfl);have ha := ha.s1 (d := 113) rfl e8
         exact ZB ha rfl rfl (ld_3 rfl ((q19.below hb q19.lt).at (j := 0) rfl)) rfl rfl
        | 10, _ =>
         intro val w1 a hb ha hd;have e7 : val 7 = _ := hd 7 (ZA.1 rfl);have e9 : val 9 = _ := hd 9 (ZA.1 rfl);have ha := ha.s2 (d := 114) (e := 112) rfl e9 rfl e7
         exact ZB ha rfl rfl (ZM rfl rfl (IntWalk.i64_in _ ⟨by omega, by omega⟩)) rfl rfl
        | 11, _ =>
         intro val w1 a hb ha hd;have ha := ha.s0 (d := 4) rfl
         exact ZB ha rfl rfl (ZH rfl) rfl rfl
        | 12, _ =>
         intro val w1 a hb ha hd;have e11 : val 11 = _ := hd 11 (ZA.1 rfl);have ha := ha.s1 (d := 116) rfl e11
         exact ZB ha rfl rfl (ZK rfl) rfl rfl
        | 13, _ =>
         intro val w1 a hb ha hd;have e12 : val 12 = _ := hd 12 (ZA.1 rfl);have ha := ha.s1 (d := 117) rfl e12
         exact ZB ha rfl rfl (QAt rfl) rfl rfl
        | 14, _ =>
         intro val w1 a hb ha hd;have e13 : val 13 = _ := hd 13 (ZA.1 rfl);have ha := ha.s1 (d := 118) rfl e13
         exact ZB ha rfl rfl (ld_3 rfl ((q15.below hb q15.lt).at (j := 3) rfl)) rfl rfl
        | 15, _ =>
         intro val w1 a hb ha hd;have e10 : val 10 = _ := hd 10 (ZA.1 rfl);have e14 : val 14 = _ := hd 14 (ZA.1 rfl);have ha := ha.s2 (d := 119) (e := 115) rfl e14 rfl e10
         exact ZB ha rfl rfl (Z4 rfl rfl (IntWalk.i64_in _ ⟨by omega, by omega⟩)) rfl rfl
        | 16, _ =>
         intro val w1 a hb ha hd;have e5 : val 5 = _ := hd 5 (ZA.1 rfl);have e15 : val 15 = _ := hd 15 (ZA.1 rfl);have ha := ha.s2 (d := 120) (e := 110) rfl e15 rfl e5
         exact ZB ha rfl rfl (QAc rfl rfl (IntWalk.i64_in _ ⟨by omega, by omega⟩)) rfl rfl
        | 17, _ =>
         intro val w1 a hb ha hd;have e3 : val 3 = _ := hd 3 (ZA.1 rfl);have e16 : val 16 = _ := hd 16 (ZA.1 rfl);have ha := ha.s2 (d := 121) (e := 108) rfl e16 rfl e3
         exact ZB ha rfl rfl (ZM rfl rfl (IntWalk.i64_in _ ⟨by omega, by omega⟩)) rfl rfl
        | k + 18, h => exact absurd h (by omega)
       ·intro val wR22 hb halc hd
        have e0 : val 0 = _ := hd 0 (by omega)
        have e1 : val 1 = _ := hd 1 (by omega)
        have e2 : val 2 = _ := hd 2 (by omega)
        have e3 : val 3 = _ := hd 3 (by omega)
        have e4 : val 4 = _ := hd 4 (by omega)
        have e5 : val 5 = _ := hd 5 (by omega)
        have e6 : val 6 = _ := hd 6 (by omega)
        have e7 : val 7 = _ := hd 7 (by omega)
        have e8 : val 8 = _ := hd 8 (by omega)
        have e9 : val 9 = _ := hd 9 (by omega)
        have e10 : val 10 = _ := hd 10 (by omega)
        have e11 : val 11 = _ := hd 11 (by omega)
        have e12 : val 12 = _ := hd 12 (by omega)
        have e13 : val 13 = _ := hd 13 (by omega)
        have e14 : val 14 = _ := hd 14 (by omega)
        have e15 : val 15 = _ := hd 15 (by omega)
        have e16 : val 16 = _ := hd 16 (by omega)
        have e17 : val 17 = _ := hd 17 (by omega)
        refine EL.ends (cs := [_, _, _, _, _, _, _, _, _, _, _, _, _, _, _, _, _, _]) ⟨e0, e1, e2, e3, e4, e5, e6, e7, e8, e9, e10, e11, e12, e13, e14, e15, e16, e17, trivial⟩ rfl ?_;replace q15 := q15.bl hb;replace q19 := q19.bl hb;replace ho := own_below ho hb (Nat.le_refl _);replace hbw := bo_ hbw hb;clear hb;refine EL.val (ZK rfl) rfl (EL.val (QDW rfl) rfl (EL.store rfl rfl q15 sz_3 rfl rfl rfl rfl ?_));intro w21 hq21 hg21;replace q19 := q19.gr hg21 n2_19.symm;replace ho := ZF ho q15 rfl hg21;replace hbw := ZC hbw hg21 bhbw_2;replace q15 := hq21;clear hg21 hq21;refine EL.nil (EX.seq (EC.seq (EC.seq (EC.region (EL.val (QBo rfl) rfl (EL.val (QG2 rfl (q19.at (j := 4) rfl)) rfl (EL.val (QI3 rfl) rfl (EL.mv rfl rfl (EL.nil ?_)))))))));refine EX.seq (EC.block ?_);have hg10 := bhbw_19;refine EC.loopD [12, 128, 129, 130, 131, 132, 133, 134, 135, 136, 137, 138, 139, 140, 141, 142, 143, 144, 145, 146, 147, 148, 149, 150, 151, 152, 153, 154] (fun x : Nat × Value => [(128, .int .i64 (x.1 : Nat))]) (fun x W => x.1 ≤ y.holds.length ∧ Blk W g2 125 #[.int .i64 h.lot, .slice (some ⟨b, o, none⟩) h.secs.length c, x.2, .int .i64 (sumS Sec.len h.secs), .int .i64 (sumS Sec.light h.secs), .int .i64 (mo + y.light * (2 * at_ + y.len - (sumS Sec.len h.secs))), .int .i64 (sumS Sec.trim h.secs), .int .i64 (limS h.secs)] ∧ Blk W g19 70 #[.int .i64 y.len, .int .i64 y.light, .int .i64 y.trim, .slice Ac y.curve.length cc_, .slice Ah y.holds.length ch_] ∧ W.ownsRow w.heap.size 127 2 x.2 (armsS (sumS Sec.len h.secs) 0 (h.secs.take k) ++ (y.holds.take x.1).map (armH (sumS Sec.len h.secs) at_)).length (holdsC (armsS (sumS Sec.len h.secs) 0 (h.secs.take k) ++ (y.holds.take x.1).map (armH (sumS Sec.len h.secs) at_))) ∧ Below w.heap.size w W) (fun x => y.holds.length - x.1) (0, hv) ⟨Nat.zero_le _, q15, q19, by rw [List.take_zero, List.map_nil, List.append_nil]; exact ho, hbw⟩ ⟨rfl, trivial⟩ ?_
        clear q15 q19 ho hbw
        rintro ⟨j, hvj⟩ wj ⟨hj, q15, q10, ho, hbw⟩
        dsimp only at hj q15 ho
        by_cases hltj : j < y.holds.length
        ·
         obtain ⟨b2, o2, eh, _, hc⟩ := YV y.holds j hltj w B _ _ _ hh1;subst eh;have hxb := hok.holds _ (getD_mem (d := Z6) hltj);have hsz := QJe hH (long := (sumS Sec.len h.secs)) (at_ := at_) (j := j) hltk;have hsn := QJf (sumS Sec.len h.secs) at_ (armsS (sumS Sec.len h.secs) 0 (h.secs.take k)) hltj;rw [← ey] at hsz;obtain ⟨x, ex⟩ : ∃ z, z = y.holds.getD j Z6 := ⟨_, rfl⟩;rw [← ex] at hc hxb hsn;obtain ⟨AS, eAS⟩ : ∃ z, z = (armsS (sumS Sec.len h.secs) 0 (h.secs.take k) ++ (y.holds.take j).map (armH (sumS Sec.len h.secs) at_)) := ⟨_, rfl⟩;rw [← eAS] at ho hsn hsz;obtain ⟨Al, cl, rfl, _⟩ := (Rd.of_own ho).shape;refine EC.seq (EC.region ?_);refine EL.val (ZO rfl rfl (decide_eq_true (show (((j : Nat) : Int) < ((y.holds.length : Nat) : Int)) by omega))) rfl ?_
         refine EL.nil (EX.seq (EC.seq (EC.yes rfl (EC.skip (EX.seq (EC.seq (EC.block (EC.seq (EC.region ?_)))))))));refine EL.val (QKp rfl rfl hltj) rfl (EL.val (QKl rfl (ZD hbw hc.c0) (ZD hbw hc.c1)) rfl (EL.newP QLr rfl ?_));intro g22 w22 q22 hb22 hg22 hl22;have n2_22 := q15.na hg22;have n19_22 := q10.na hg22;have bhbw_22 := Nat.le_trans hbw.size hg22;replace q15 := q15.bl hb22;replace q10 := q10.bl hb22;replace ho := own_below ho hb22 (Nat.le_refl _);replace hbw := bo_ hbw hb22;clear hb22 hg22 hl22;refine EL.store rfl rfl q22 QLa rfl rfl rfl rfl ?_;intro w23 hq23 hg23;replace q15 := q15.gr hg23 n2_22;replace q10 := q10.gr hg23 n19_22;replace ho := ZF ho q22 rfl hg23;replace hbw := ZC hbw hg23 bhbw_22;replace q22 := hq23;clear hg23 hq23;refine EL.nil (EX.seq ?_);have hW := Zb ho (w1 := w23) ⟨rfl, rfl, rfl, Nat.le_refl _, fun _ _ _ => rfl⟩ hbw.size
         clear hW;have lt_2 := q15.lt;have lt_19 := q10.lt;have lt_22 := q22.lt;refine EC.regionS [[], [], [1], [1, 2], [1, 2, 3], [], [], [6], [5, 6, 7], [5, 6, 7, 8], [], [10], [10, 11], [10, 11, 12], [5, 6, 7, 8, 9, 10, 11, 12, 13], [], [15], [5, 6, 7, 8, 9, 10, 11, 12, 13, 14, 15, 16], [5, 6, 7, 8, 9, 10, 11, 12, 13, 14, 15, 16, 17], [1, 2, 3, 4, 5, 6, 7, 8, 9, 10, 11, 12, 13, 14, 15, 16, 17, 18], [0, 1, 2, 3, 4, 5, 6, 7, 8, 9, 10, 11, 12, 13, 14, 15, 16, 17, 18, 19], [0, 1, 2, 3, 4, 5, 6, 7, 8, 9, 10, 11, 12, 13, 14, 15, 16, 17, 18, 19, 20], [0, 1, 2, 3, 4, 5, 6, 7, 8, 9, 10, 11, 12, 13, 14, 15, 16, 17, 18, 19, 20, 21]] 20 [] [19] (fun fl w_ => w23.grownBy w_ ((.slice Al AS.length cl) : Value).ownBlock ∧ (fl 19 = false → w_.ownsRow w.heap.size 127 2 (.slice Al AS.length cl) AS.length (holdsC AS))) (phiS (fun i_ r => match i_ with | 0 => r 0 = .pointer (some ⟨g2, 0, none⟩) | 1 => r 1 = .pointer (some ⟨g2, 0, none⟩) | 2 => r 2 = .pointer (some ⟨g2, 0, none⟩) | 3 => r 3 = .pointer (some ⟨g2, 2, none⟩) | 4 => r 4 = .slice Al AS.length cl | 5 => r 5 = .int .i64 at_ | 6 => r 6 = .pointer (some ⟨g22, 0, none⟩) | 7 => r 7 = .int .i64 x.pos | 8 => r 8 = .int .i64 (at_ + x.pos) | 9 => r 9 = .int .i64 (2 * (at_ + x.pos)) | 10 => r 10 = .pointer (some ⟨g2, 0, none⟩) | 11 => r 11 = .pointer (some ⟨g2, 0, none⟩) | 12 => r 12 = .pointer (some ⟨g2, 3, none⟩) | 13 => r 13 = .int .i64 (sumS Sec.len h.secs) | 14 => r 14 = .int .i64 (2 * (at_ + x.pos) - (sumS Sec.len h.secs)) | 15 => r 15 = .pointer (some ⟨g22, 1, none⟩) | 16 => r 16 = .int .i64 x.lots | 17 => r 17 = .agg #[.int .i64 (2 * (at_ + x.pos) - (sumS Sec.len h.secs)), .int .i64 x.lots] | _ => True) [(18, fun fl r w_ => fl 19 = false → (∃ g_, r 18 = .slice (some ⟨g_, 0, none⟩) 1 1 ∧ Blk w_ g_ 127 #[.int .i64 (2 * (at_ + x.pos) - (sumS Sec.len h.secs)), .int .i64 x.lots] ∧ w23.heap.size ≤ g_)), (19, fun _ r w_ => w_.ownsRow w.heap.size 127 2 (r 19) (AS.length + 1) ((holdsC AS) ++ [.int .i64 (2 * (at_ + x.pos) - (sumS Sec.len h.secs)), .int .i64 x.lots]) ∧ ∀ b, (r 19).ownBlock = some b → ((.slice Al AS.length cl) : Value).ownBlock = some b ∨ w23.heap.size ≤ b)]) (by kernel_rfl) rfl rfl (by intro i hi; simp at hi; subst hi; exact ⟨by simp, by omega⟩) (QJc ho) (ZU (Y4 Zw) (ZU (QHj (e := 19) (C := fun u_ => ∀ b, u_.ownBlock = some b → ((.slice Al AS.length cl) : Value).ownBlock = some b ∨ w23.heap.size ≤ b)) (YZ))) (fun i_ hi_ hs_ => ?_) (fun i_ hi_ => ?_) ?_
         ·match i_, hi_ with
          | 0, _ =>
           intro val fl w1 a hb ha hd hfl;obtain ⟨hgb, hg0⟩ := hb;have hb := Zb ho hgb hbw.size;have ha := ha.s0 (d := 4) rfl
           exact ZJ ha rfl rfl (ZH rfl) rfl rfl
          | 1, _ =>
           intro val fl w1 a hb ha hd hfl;obtain ⟨hgb, hg0⟩ := hb;have hb := Zb ho hgb hbw.size;have ha := ha.s0 (d := 4) rfl
           exact ZJ ha rfl rfl (ZH rfl) rfl rfl
          | 2, _ =>
           intro val fl w1 a hb ha hd hfl;obtain ⟨hgb, hg0⟩ := hb;have hb := Zb ho hgb hbw.size;have e1 : val 1 = _ := hd 1 (ZA.1 rfl);have ha := ha.s1 (d := 133) rfl e1
           exact ZJ ha rfl rfl (ZK rfl) rfl rfl
          | 3, _ =>
           intro val fl w1 a hb ha hd hfl;obtain ⟨hgb, hg0⟩ := hb;have hb := Zb ho hgb hbw.size;have e2 : val 2 = _ := hd 2 (ZA.1 rfl);have ha := ha.s1 (d := 134) rfl e2
           exact ZJ ha rfl rfl (Y8 rfl) rfl rfl
          | 4, _ =>
           intro val fl w1 a hb ha hd hfl;obtain ⟨hgb, hg0⟩ := hb;have hb := Zb ho hgb hbw.size;have e3 : val 3 = _ := hd 3 (ZA.1 rfl);have ha := ha.s1 (d := 135) rfl e3
           exact ZJ ha rfl rfl (QAG rfl ((YM q15 ho rfl hgb).at (j := 2) rfl)) rfl rfl
          | 5, _ =>
           intro val fl w1 a hb ha hd hfl;obtain ⟨hgb, hg0⟩ := hb;have hb := Zb ho hgb hbw.size;have ha := ha.s0 (d := 8) rfl
           exact ZJ ha rfl rfl (ZH rfl) rfl rfl
          | 6, _ =>
           intro val fl w1 a hb ha hd hfl;obtain ⟨hgb, hg0⟩ := hb;have hb := Zb ho hgb hbw.size;have ha := ha.s0 (d := 12) rfl
           exact ZJ ha rfl rfl (QHA rfl) rfl rfl
          | 7, _ =>
           intro val fl w1 a hb ha hd hfl;obtain ⟨hgb, hg0⟩ := hb;have hb := Zb ho hgb hbw.size;have e6 : val 6 = _ := hd 6 (ZA.1 rfl);have ha := ha.s1 (d := 138) rfl e6
           exact ZJ ha rfl rfl (ld_3 rfl ((YM q22 ho rfl hgb).at (j := 0) rfl)) rfl rfl
          | 8, _ =>
           intro val fl w1 a hb ha hd hfl;obtain ⟨hgb, hg0⟩ := hb;have hb := Zb ho hgb hbw.size;have e5 : val 5 = _ := hd 5 (ZA.1 rfl);have e7 : val 7 = _ := hd 7 (ZA.1 rfl);have ha := ha.s2 (d := 139) (e := 137) rfl e7 rfl e5
           exact ZJ ha rfl rfl (ZM rfl rfl (IntWalk.i64_in _ ⟨by omega, by omega⟩)) rfl rfl
          | 9, _ =>
           intro val fl w1 a hb ha hd hfl;obtain ⟨hgb, hg0⟩ := hb;have hb := Zb ho hgb hbw.size;have e8 : val 8 = _ := hd 8 (ZA.1 rfl);have ha := ha.s1 (d := 140) rfl e8
           exact ZJ ha rfl rfl (QAc rfl rfl (IntWalk.i64_in _ ⟨by omega, by omega⟩)) rfl rfl
          | 10, _ =>
           intro val fl w1 a hb ha hd hfl;obtain ⟨hgb, hg0⟩ := hb;have hb := Zb ho hgb hbw.size;have ha := ha.s0 (d := 4) rfl
           exact ZJ ha rfl rfl (ZH rfl) rfl rfl
          | 11, _ =>
           intro val fl w1 a hb ha hd hfl;obtain ⟨hgb, hg0⟩ := hb;have hb := Zb ho hgb hbw.size;have e10 : val 10 = _ := hd 10 (ZA.1 rfl);have ha := ha.s1 (d := 142) rfl e10
           exact ZJ ha rfl rfl (ZK rfl) rfl rfl
          | 12, _ =>
           intro val fl w1 a hb ha hd hfl;obtain ⟨hgb, hg0⟩ := hb;have hb := Zb ho hgb hbw.size;have e11 : val 11 = _ := hd 11 (ZA.1 rfl);have ha := ha.s1 (d := 143) rfl e11
           exact ZJ ha rfl rfl (QAt rfl) rfl rfl
          | 13, _ =>
           intro val fl w1 a hb ha hd hfl;obtain ⟨hgb, hg0⟩ := hb;have hb := Zb ho hgb hbw.size;have e12 : val 12 = _ := hd 12 (ZA.1 rfl);have ha := ha.s1 (d := 144) rfl e12
           exact ZJ ha rfl rfl (ld_3 rfl ((YM q15 ho rfl hgb).at (j := 3) rfl)) rfl rfl
          | 14, _ =>
           intro val fl w1 a hb ha hd hfl;obtain ⟨hgb, hg0⟩ := hb;have hb := Zb ho hgb hbw.size;have e9 : val 9 = _ := hd 9 (ZA.1 rfl);have e13 : val 13 = _ := hd 13 (ZA.1 rfl);have ha := ha.s2 (d := 145) (e := 141) rfl e13 rfl e9
           exact ZJ ha rfl rfl (Z4 rfl rfl (IntWalk.i64_in _ ⟨by omega, by omega⟩)) rfl rfl
          | 15, _ =>
           intro val fl w1 a hb ha hd hfl;obtain ⟨hgb, hg0⟩ := hb;have hb := Zb ho hgb hbw.size;have ha := ha.s0 (d := 12) rfl
           exact ZJ ha rfl rfl (QG_ rfl) rfl rfl
          | 16, _ =>
           intro val fl w1 a hb ha hd hfl;obtain ⟨hgb, hg0⟩ := hb;have hb := Zb ho hgb hbw.size;have e15 : val 15 = _ := hd 15 (ZA.1 rfl);have ha := ha.s1 (d := 147) rfl e15
           exact ZJ ha rfl rfl (ld_3 rfl ((YM q22 ho rfl hgb).at (j := 1) rfl)) rfl rfl
          | 17, _ =>
           intro val fl w1 a hb ha hd hfl;obtain ⟨hgb, hg0⟩ := hb;have hb := Zb ho hgb hbw.size;have e14 : val 14 = _ := hd 14 (ZA.1 rfl);have e16 : val 16 = _ := hd 16 (ZA.1 rfl);have ha := ha.s2 (d := 148) (e := 146) rfl e16 rfl e14
           exact ZJ ha rfl rfl (QGQ rfl rfl) rfl rfl
          | 18, _ =>
           intro val fl w1 a hb ha hd hfl;obtain ⟨hgb, hg0⟩ := hb;have hb := Zb ho hgb hbw.size;have e17 : val 17 = _ := hd 17 (ZA.1 rfl);have ha := ha.s1 (d := 149) rfl e17
           exact QGc ha rfl rfl (QJZ rfl) rfl (fun g w' hq _ hge => fun _ => ⟨g, rfl, hq, Nat.le_trans hgb.size hge⟩)
          | 19, _ =>
           exact absurd (by simp) hs_
          | k + 20, h => exact absurd h (by omega)
         ·simp only [List.mem_singleton] at hi_; subst hi_
          intro val fl w1 a hb hfi ha hd hfl;obtain ⟨hgb, hg0⟩ := hb;have hb := Zb ho hgb hbw.size;have e4 : val 4 = _ := hd 4 (ZA.1 rfl);obtain ⟨g18_, e18, q18_, h18_⟩ := hd 18 (ZA.1 rfl) hfi;change val 18 = _ at e18;have ha := ha.s2 (d := 150) (e := 136) rfl e18 rfl e4;refine QJs QJ_ ha rfl rfl rfl (hg0 hfi) (QB9 (l := [.int .i64 (2 * (at_ + x.pos) - (sumS Sec.len h.secs)), .int .i64 x.lots]) q18_ rfl) (by intro u hu; simp only [List.mem_cons, List.not_mem_nil, or_false] at hu; rcases hu with rfl | rfl <;> rfl) (by omega) rfl (Nat.le_trans hbw.size hgb.size) ?_
          intro v' w' ho' hgr hat;refine ⟨v', rfl, hgr.size, ⟨QFd hgb hgr, fun h => by rw [Zs] at h; cases h⟩, ⟨ho', fun b hb' => ?_⟩, fun j _ hj hn hA => ?_⟩
          ·rcases hat with h | h
           ·exact .inl (h ▸ hb')
           ·refine .inr ?_
            change v'.ownBlock = some b at hb';rw [h] at hb'
            injection hb' with hb'
            have := hgb.size
            omega
          ·exact ZG (C := fun j => j ≠ 19 ∧ 19 ∉ clsAt [[], [], [1], [1, 2], [1, 2, 3], [], [], [6], [5, 6, 7], [5, 6, 7, 8], [], [10], [10, 11], [10, 11, 12], [5, 6, 7, 8, 9, 10, 11, 12, 13], [], [15], [5, 6, 7, 8, 9, 10, 11, 12, 13, 14, 15, 16], [5, 6, 7, 8, 9, 10, 11, 12, 13, 14, 15, 16, 17], [1, 2, 3, 4, 5, 6, 7, 8, 9, 10, 11, 12, 13, 14, 15, 16, 17, 18], [0, 1, 2, 3, 4, 5, 6, 7, 8, 9, 10, 11, 12, 13, 14, 15, 16, 17, 18, 19], [0, 1, 2, 3, 4, 5, 6, 7, 8, 9, 10, 11, 12, 13, 14, 15, 16, 17, 18, 19, 20], [0, 1, 2, 3, 4, 5, 6, 7, 8, 9, 10, 11, 12, 13, 14, 15, 16, 17, 18, 19, 20, 21]] j) (fun _ _ h => by rw [Zs] at h; cases h) (ZG (fun hc => absurd rfl hc.1) (fun _ _ h => h)) j ⟨hj, hn⟩
         ·intro val fl w' hfl hb halc hd
          obtain ⟨hgb, _⟩ := hb;have hb := Zb ho hgb hbw.size;have e0 : val 0 = _ := hd 0 (by omega)
          have e1 : val 1 = _ := hd 1 (by omega)
          have e2 : val 2 = _ := hd 2 (by omega)
          have e3 : val 3 = _ := hd 3 (by omega)
          have e4 : val 4 = _ := hd 4 (by omega)
          have e5 : val 5 = _ := hd 5 (by omega)
          have e6 : val 6 = _ := hd 6 (by omega)
          have e7 : val 7 = _ := hd 7 (by omega)
          have e8 : val 8 = _ := hd 8 (by omega)
          have e9 : val 9 = _ := hd 9 (by omega)
          have e10 : val 10 = _ := hd 10 (by omega)
          have e11 : val 11 = _ := hd 11 (by omega)
          have e12 : val 12 = _ := hd 12 (by omega)
          have e13 : val 13 = _ := hd 13 (by omega)
          have e14 : val 14 = _ := hd 14 (by omega)
          have e15 : val 15 = _ := hd 15 (by omega)
          have e16 : val 16 = _ := hd 16 (by omega)
          have e17 : val 17 = _ := hd 17 (by omega)
          obtain ⟨ho19, hn19⟩ := hd 19 (by omega)
          change w'.ownsRow _ _ _ (val 19) _ _ at ho19;refine EL.ends (cs := [_, _, _, _, _, _, _, _, _, _, _, _, _, _, _, _, _, _, val 18, val 19]) ⟨e0, e1, e2, e3, e4, e5, e6, e7, e8, e9, e10, e11, e12, e13, e14, e15, e16, e17, rfl, rfl, trivial⟩ rfl ?_;replace q15 := YM q15 ho rfl hgb;replace q10 := YM q10 ho rfl hgb;replace q22 := YM q22 ho rfl hgb;replace hbw := hbw.trans (hb.mono (Nat.le_refl _));obtain ⟨v19, ev19⟩ : ∃ z, z = val 19 := ⟨_, rfl⟩;rw [← ev19] at ho19 ⊢;obtain ⟨A2, c2, rfl, _⟩ := (Rd.of_own ho19).shape;refine EL.val (ZK rfl) rfl (EL.val (Y8 rfl) rfl (EL.store rfl rfl q15 QK6 rfl rfl rfl rfl ?_));intro w24 hq24 hg24;replace q10 := q10.gr hg24 n2_19.symm;replace q22 := q22.gr hg24 n2_22.symm;replace ho19 := ZF ho19 q15 rfl hg24;replace hbw := ZC hbw hg24 bhbw_2;replace q15 := hq24;clear hg24 hq24;refine EL.nil (EX.blk (EX.seq (EC.region ?_)));refine EL.val (ZM rfl rfl (c := ((j + 1 : Nat) : Int)) ((IntWalk.i64_in _ ⟨by first | omega | (simp only; omega), by first | omega | (simp only; omega)⟩).trans (by first | omega | (simp only; omega)))) rfl ?_
          refine EL.mv rfl rfl (EL.nil ?_);refine EX.roundD (j + 1, _) ⟨rfl, trivial⟩ (by repeat first | with_reducible exact .refl _ | refine sp_ rfl ?_ | exact .refl _ | refine sd_ rfl ?_ | refine sn_ ?_) ⟨by omega, q15, q10, by rw [hsn, QGF, List.length_append]; exact ho19, hbw⟩ (by simp only; omega)
        ·
         obtain rfl : j = y.holds.length := by omega
         rw [List.take_length] at ho;refine EC.seq (EC.region ?_);refine EL.val (ZO rfl rfl (decide_eq_false (show ¬(((y.holds.length : Nat) : Int) < ((y.holds.length : Nat) : Int)) by omega))) rfl ?_
         refine EL.nil (EX.seq (EC.seq (EC.no rfl (EC.exit (EX.seq_exit (EX.seq_exit (EX.blk_here (EX.seq (EC.region ?_)))))))));refine EL.mv rfl rfl (EL.val (QBp rfl) rfl (EL.val (ld_3 rfl (q10.at (j := 0) rfl)) rfl ?_));refine EL.val (ZM rfl rfl (IntWalk.i64_in _ ⟨by omega, by omega⟩)) rfl ?_
         refine EL.as rfl rfl (EL.nil (EX.blk (EX.seq (EC.region ?_))));refine EL.val (ZM rfl rfl (c := ((k + 1 : Nat) : Int)) ((IntWalk.i64_in _ ⟨by first | omega | (simp only; omega), by first | omega | (simp only; omega)⟩).trans (by first | omega | (simp only; omega)))) rfl ?_
         refine EL.mv rfl rfl (EL.nil ?_);refine EX.roundD (k + 1, hvj) ⟨by rw [es1]; rfl, rfl, trivial⟩ (by repeat first | with_reducible exact .refl _ | refine sp_ rfl ?_ | exact .refl _ | refine sd_ rfl ?_ | refine sn_ ?_) ⟨by omega, by rw [es2]; exact q15, by rw [es3]; exact ho, hbw⟩ (by simp only; omega)
      ·
       obtain rfl : k = h.secs.length := by omega
       rw [List.take_length] at q15 ho;refine EC.seq (EC.region ?_);refine EL.val (ZO rfl rfl (decide_eq_false (show ¬(((h.secs.length : Nat) : Int) < ((h.secs.length : Nat) : Int)) by omega))) rfl ?_
       refine EL.nil (EX.seq (EC.seq (EC.no rfl (EC.exit (EX.seq_exit (EX.seq_exit (EX.blk_here (EX.seq (EC.seq ?_)))))))));refine EC.region (EL.mv rfl rfl (EL.as rfl rfl (EL.as rfl rfl (EL.nil (EX.seq (EC.ret ?_))))))
       exact EX.done (res2 rfl rfl rfl) ⟨.inr ⟨by unfold hulB; simp only [Bool.and_eq_true, decide_eq_true_eq]; exact ⟨⟨h1, h2⟩, hall, by omega, by omega⟩, _, _, rfl, hg15, ⟨q15, q15.lt, (hr.below (hbw.mono hB)).more (Nat.le_trans hB hbw.size), rd_of_own ho⟩, ⟨q15, hg15, ho⟩⟩, hbw⟩
theorem QBm {h : Hul} (hh : hulB h = false) (v : Value) (vs : List (Value × Value)) (w : World) (B : Nat) (hr : RdSecs w B v h.secs vs) (hB : B ≤ w.heap.size) (hl : h.secs.length ≤ 1048576) (hfew : Zl h.secs) :
  Calls Try.prog 39 #[.agg #[.int .i64 h.lot, v]] w fun e w' => e = .returned (.tuple #[.pointer none, .int .i64 2]) ∧ Below w.heap.size w w' :=
 (QCF h v vs w B hr hB hl hfew).mono fun e w' hp => by
  refine ⟨?_, hp.2⟩
  rcases hp.1 with h1 | h1
  ·exact h1.2
  ·exact absurd (h1.1.symm.trans hh) (by decide)
theorem QDP {h : Hul} (hh : hulB h = true) (v : Value) (vs : List (Value × Value)) (w : World) (B : Nat) (hr : RdSecs w B v h.secs vs) (hB : B ≤ w.heap.size) (hl : h.secs.length ≤ 1048576) (hfew : Zl h.secs) :
  Calls Try.prog 39 #[.agg #[.int .i64 h.lot, v]] w fun e w' => (∃ g hv, e = .returned (.tuple #[.pointer (some ⟨g, 0, none⟩), .int .i64 0]) ∧ w.heap.size ≤ g ∧ RdShip w' w'.heap.size g h v hv vs) ∧ Below w.heap.size w w' :=
 (QCF h v vs w B hr hB hl hfew).mono fun e w' hp => by
  refine ⟨?_, hp.2⟩
  rcases hp.1 with h1 | h1
  ·exact absurd (h1.1.symm.trans hh) (by decide)
  ·obtain ⟨_, g, hv, h2, h3, h4, _⟩ := h1; exact ⟨g, hv, h2, h3, h4⟩
theorem QH1 {h : Hul} (hh : hulB h = true) (v : Value) (vs : List (Value × Value)) (w : World) (B : Nat) (hr : RdSecs w B v h.secs vs) (hB : B ≤ w.heap.size) (hl : h.secs.length ≤ 1048576) (hfew : Zl h.secs) :
  Calls Try.prog 39 #[.agg #[.int .i64 h.lot, v]] w fun e w' => (∃ g hv, e = .returned (.tuple #[.pointer (some ⟨g, 0, none⟩), .int .i64 0]) ∧ OwnShip w' w.heap.size g h v hv) ∧ Below w.heap.size w w' :=
 (QCF h v vs w B hr hB hl hfew).mono fun e w' hp => by
  refine ⟨?_, hp.2⟩
  rcases hp.1 with h1 | h1
  ·exact absurd (h1.1.symm.trans hh) (by decide)
  ·obtain ⟨_, g, hv, h2, h3, h4, h5⟩ := h1; exact ⟨g, hv, h2, h5⟩
section
variable {n : Nat} {σ : Sg} {w : World} {dst : Option Tmp} {ty : TypeId} {pos : String} {af : Array Edge} {g : Option (Nat × Bool)} {x y z : Operand} {at' : Array TypeId}
theorem QBt {m : Int} (hx : evS σ x = some (.int .i64 m)) (hm : IntKind.u64.wrap m = m) : ZE Try.prog n σ w ⟨dst, .convert 3 188 x, ty, pos, af, g⟩ (.int .u64 m) := fun a ha => by
 simp only [execOp, ha.eval hx]
 simp [go_sem, hm]
theorem QBu {m : Int} (hx : evS σ x = some (.int .u64 m)) (hm : IntKind.i64.wrap m = m) : ZE Try.prog n σ w ⟨dst, .convert 188 3 x, ty, pos, af, g⟩ (.int .i64 m) := fun a ha => by
 simp only [execOp, ha.eval hx]
 simp [go_sem, hm]
theorem QBw {xf x0 : Operand} {v0 p0 p1 : Value} (hf : evS σ xf = some (.func (.func 84) #[] #[p0, p1])) (h0 : evS σ x0 = some v0) (a : Act) (ha : Env n σ a) : (execOp a.eval ⟨dst, .call { callee := .value xf, args := #[x0], argTypes := at' }, ty, pos, af, g⟩).run Try.prog w = .ok (.enter 84 #[v0, p0, p1]) w := by
 simp only [execOp, resolve, List.map_toArray, List.map_cons, List.map_nil, ha.eval hf, ha.eval h0]
 simp [go_sem, Deferred.ofValue]
theorem QHo {x0 x1 : Operand} {v0 v1 : Value} (h0 : evS σ x0 = some v0) (h1 : evS σ x1 = some v1) : ZE Try.prog n σ w ⟨dst, .makeFunc (.func 84) #[] #[x0, x1], ty, pos, af, g⟩ (.func (.func 84) #[] #[v0, v1]) := fun a ha => by
 simp only [execOp, List.map_toArray, List.map_cons, List.map_nil, ha.eval h0, ha.eval h1]
 simp [go_sem]
theorem cF83 : cF 83 := fun _ _ => by simp [go_sem]
theorem QAu {b o : Nat} (hx : evS σ x = some (.pointer (some ⟨b, o, none⟩))) : ZE Try.prog n σ w ⟨dst, .fieldAddr 125 x 0, ty, pos, af, g⟩ (.pointer (some ⟨b, o, none⟩)) := fun a ha => by
 simp only [execOp, ha.eval hx]
 simp [go_sem]
theorem cF61 : cF 61 := fun _ _ => by simp [go_sem]
theorem QAU {b o : Nat} {v0 : Value} (hx : evS σ x = some (.pointer (some ⟨b, o, none⟩))) (c0 : w.cell? ⟨b, o, none⟩ = some v0) : ZE Try.prog n σ w ⟨dst, .load 115 x, ty, pos, af, g⟩ (v0) := fun a ha => by
 simp only [execOp, ha.eval hx]
 simp [go_sem, c0]
theorem cF44 : cF 44 := fun _ _ => by simp [go_sem]
theorem QBv {xf x0 : Operand} {v0 p0 p1 : Value} (hf : evS σ xf = some (.func (.func 96) #[] #[p0, p1])) (h0 : evS σ x0 = some v0) (a : Act) (ha : Env n σ a) : (execOp a.eval ⟨dst, .call { callee := .value xf, args := #[x0], argTypes := at' }, ty, pos, af, g⟩).run Try.prog w = .ok (.enter 96 #[v0, p0, p1]) w := by
 simp only [execOp, resolve, List.map_toArray, List.map_cons, List.map_nil, ha.eval hf, ha.eval h0]
 simp [go_sem, Deferred.ofValue]
theorem QJV {v0 : Value} (hx : evS σ x = some (v0)) (h1 : v0.oneCell' = true) (a : Act) (ha : Env n σ a) : (execOp a.eval ⟨dst, .box 115 x, ty, pos, af, g⟩).run Try.prog w = .ok (.value (.pointer (some ⟨w.heap.size, 0, none⟩))) (w.alloc (.cells #[v0] 115)) := by
 simp only [execOp, ha.eval hx]
 cases v0 <;> first | (simp [Value.oneCell'] at h1; done) | simp [go_sem, Value.cells]
theorem al_3 (a : Act) (_ : Env n σ a) : (execOp a.eval ⟨dst, .alloc 3, ty, pos, af, g⟩).run Try.prog w = .ok (.value (.pointer (some ⟨w.heap.size, 0, none⟩))) (w.alloc (.cells #[.int .i64 0] 3)) := by
 simp only [execOp]
 simp [go_sem]
theorem QHn {x0 x1 : Operand} {v0 v1 : Value} (h0 : evS σ x0 = some v0) (h1 : evS σ x1 = some v1) : ZE Try.prog n σ w ⟨dst, .makeFunc (.func 96) #[] #[x0, x1], ty, pos, af, g⟩ (.func (.func 96) #[] #[v0, v1]) := fun a ha => by
 simp only [execOp, List.map_toArray, List.map_cons, List.map_nil, ha.eval h0, ha.eval h1]
 simp [go_sem]
end
section
variable {P : Program} {n : Nat} {σ : Sg} {w : World} {dst : Option Tmp} {ty t t' : TypeId} {pos : String} {af : Array Edge} {g : Option (Nat × Bool)} {x y : Operand}
theorem QK4 {s i : Nat} (hx : evS σ x = some (.int .u64 (s : Int))) (hy : evS σ y = some (.int .u64 (i : Int))) (hi : i ≤ 64) : ZE P n σ w ⟨dst, .binOp .shr t x y t', ty, pos, af, g⟩ (.int .u64 ((s / 2 ^ i : Nat) : Int)) := fun a ha => by
 have k0 : ¬((i : Int) < 0) := by omega
 have k1 : min (i : Int).toNat 64 = i := by rw [Int.toNat_natCast]; omega
 simp only [execOp, ha.eval hx, ha.eval hy]
 simp [go_sem, Op.shift, IntKind.bits, QIq, show min i 64 = i by omega]
theorem QEF {s : Nat} (hx : evS σ x = some (.int .u64 (s : Int))) (hy : evS σ y = some (.int .u64 1)) : ZE P n σ w ⟨dst, .binOp .shr t x y t', ty, pos, af, g⟩ (.int .u64 ((s / 2 : Nat) : Int)) := QK4 (i := 1) hx hy (by omega)
end
theorem QJx (n : Nat) (p : Nat → Bool) (hup : UpB p n) (hn : n ≤ 1048576) (u1 u2 : Value) (w : World) (hc : ∀ i, i < n → ∀ W, Below w.heap.size w W → Calls Try.prog 84 #[.int .i64 (i : Nat), u1, u2] W fun e w' => e = .returned (.bool (p i)) ∧ Below W.heap.size W w') :
  Calls Try.prog 83 #[.int .i64 (n : Nat), .func (.func 84) #[] #[u1, u2]] w fun e w' => e = .returned (.int .i64 (fstN p n : Nat)) ∧ Below w.heap.size w w' := by
 have hiff := fun i hi => QIM hup (i := i) hi
 have hNn := QBB p n;obtain ⟨N, eN⟩ : ∃ N, N = fstN p n := ⟨_, rfl⟩;rw [← eN] at hNn ⊢
 simp only [← eN] at hiff
 clear eN;have hbw := Below.refl w.heap.size w;refine EC.enter 26 Try.func83 rfl rfl rfl (EC.seq (EC.region (EL.as rfl rfl (EL.nil (EX.seq (EC.seq (EC.region (EL.mv rfl rfl (EL.as rfl rfl ?_)))))))));refine EL.as rfl rfl (EL.nil (EX.seq (EC.seq (EC.block ?_))));refine EC.loopD [5, 6, 7, 9, 10, 11, 12, 13, 14, 15, 16, 17, 18, 19, 20, 21, 22, 23, 24] (fun x : Nat × Nat => [(5, .int .i64 (x.1 : Nat)), (6, .int .i64 (x.2 : Nat))]) (fun x W => x.1 ≤ N ∧ N ≤ x.2 ∧ x.2 ≤ n ∧ Below w.heap.size w W) (fun x => x.2 - x.1) (0, n) ⟨Nat.zero_le _, hNn, Nat.le_refl _, hbw⟩ ⟨rfl, rfl, trivial⟩ ?_
 clear hbw
 rintro ⟨a, b⟩ wk ⟨ha, hb, hbn, hbw⟩
 dsimp only at ha hb hbn
 by_cases hab : a < b
 ·
  obtain ⟨m, em⟩ : ∃ m, m = (a + b) / 2 := ⟨_, rfl⟩;have hm : m < n := by omega
  have hi := hiff m hm
  cases hx : p m
  ·
   rw [hx] at hi;refine EC.seq (EC.seq (EC.region (EL.mv rfl rfl (EL.mv rfl rfl ?_))));refine EL.val (ZO (r := true) rfl rfl (decide_eq_true (by omega))) rfl ?_
   refine EL.nil (EX.seq (EC.yes rfl (EC.skip (EX.seq (EC.block (EC.seq (EC.region (EL.mv rfl rfl (EL.mv rfl rfl ?_)))))))));refine EL.val (ZM rfl rfl (c := ((a + b : Nat) : Int)) ((IntWalk.i64_in _ ⟨by omega, by omega⟩).trans (by omega))) rfl ?_
   refine EL.val (QBt rfl (by rw [IntKind.wrap]; simp [IntKind.bits, IntKind.signed]; omega)) rfl ?_
   refine EL.val (QEF rfl rfl) rfl ?_;refine EL.val (QBu rfl (IntWalk.i64_in _ ⟨by omega, by omega⟩)) rfl ?_
   refine EL.as rfl rfl (EL.nil (EX.seq (EC.seq (EC.region (EL.mv rfl rfl (EL.mv rfl rfl ?_))))));refine EL.call (QBw rfl rfl) rfl (by have key := hc m hm _ hbw; rw [hx, em] at key; exact key) ?_
   rintro e w1 ⟨rfl, hc1⟩
   refine ⟨_, rfl, ?_⟩;replace hbw := bo_ hbw hc1;clear hc1;refine EL.val (ZV rfl) rfl (EL.nil (EX.seq (EC.yes rfl (EC.region (EL.mv rfl rfl ?_)))));refine EL.val (ZM rfl rfl (c := (((a + b) / 2 + 1 : Nat) : Int)) ((IntWalk.i64_in _ ⟨by omega, by omega⟩).trans (by omega))) rfl ?_
   refine EL.as rfl rfl (EL.nil (EX.blk ?_));have hN : ¬ N ≤ m := fun h => by have := hi.2 h; cases this
   refine EX.roundD ((a + b) / 2 + 1, b) ⟨rfl, rfl, trivial⟩ (by repeat first | with_reducible exact .refl _ | refine sp_ rfl ?_ | exact .refl _ | refine sd_ rfl ?_ | refine sn_ ?_) ⟨by simp only; omega, hb, hbn, hbw⟩ (by simp only; omega)
  ·
   rw [hx] at hi;refine EC.seq (EC.seq (EC.region (EL.mv rfl rfl (EL.mv rfl rfl ?_))));refine EL.val (ZO (r := true) rfl rfl (decide_eq_true (by omega))) rfl ?_
   refine EL.nil (EX.seq (EC.yes rfl (EC.skip (EX.seq (EC.block (EC.seq (EC.region (EL.mv rfl rfl (EL.mv rfl rfl ?_)))))))));refine EL.val (ZM rfl rfl (c := ((a + b : Nat) : Int)) ((IntWalk.i64_in _ ⟨by omega, by omega⟩).trans (by omega))) rfl ?_
   refine EL.val (QBt rfl (by rw [IntKind.wrap]; simp [IntKind.bits, IntKind.signed]; omega)) rfl ?_
   refine EL.val (QEF rfl rfl) rfl ?_;refine EL.val (QBu rfl (IntWalk.i64_in _ ⟨by omega, by omega⟩)) rfl ?_
   refine EL.as rfl rfl (EL.nil (EX.seq (EC.seq (EC.region (EL.mv rfl rfl (EL.mv rfl rfl ?_))))));refine EL.call (QBw rfl rfl) rfl (by have key := hc m hm _ hbw; rw [hx, em] at key; exact key) ?_
   rintro e w2 ⟨rfl, hc2⟩
   refine ⟨_, rfl, ?_⟩;replace hbw := bo_ hbw hc2;clear hc2;refine EL.val (ZV rfl) rfl (EL.nil (EX.seq (EC.no rfl (EC.region (EL.mv rfl rfl (EL.as rfl rfl (EL.nil (EX.blk ?_))))))));have hN := hi.1 rfl;refine EX.roundD (a, (a + b) / 2) ⟨rfl, rfl, trivial⟩ (by repeat first | with_reducible exact .refl _ | refine sp_ rfl ?_ | exact .refl _ | refine sd_ rfl ?_ | refine sn_ ?_) ⟨ha, by simp only; omega, by simp only; omega, hbw⟩ (by simp only; omega)
 ·
  obtain rfl : a = N := by omega
  refine EC.seq (EC.seq (EC.region (EL.mv rfl rfl (EL.mv rfl rfl ?_))));refine EL.val (ZO (r := false) rfl rfl (decide_eq_false (by omega))) rfl ?_
  refine EL.nil (EX.seq (EC.no rfl (EC.exit (EX.seq_exit (EX.seq_exit (EX.blk_here (EX.seq (EC.seq (EC.region ?_)))))))));refine EL.mv rfl rfl (EL.as rfl rfl (EL.nil (EX.seq (EC.ret ?_))))
  exact EX.done (res1 rfl rfl) ⟨rfl, hbw⟩
theorem QIL (s : Sec) (b o cc : Nat) (vh : Value) (d : Int) (g1 g2 i : Nat) (w : World) (B : Nat) (hc : Rd w B 2 (.slice (some ⟨b, o, none⟩) s.curve.length cc) s.curve.length (hrowsC s.curve)) (hi : i < s.curve.length - 1) (hlen : s.curve.length ≤ 20)
  (hq1 : Blk w g1 70 #[.int .i64 s.len, .int .i64 s.light, .int .i64 s.trim, .slice (some ⟨b, o, none⟩) s.curve.length cc, vh]) (hq2 : Blk w g2 3 #[.int .i64 d]) :
  Calls Try.prog 84 #[.int .i64 (i : Nat), .pointer (some ⟨g1, 0, none⟩), .pointer (some ⟨g2, 0, none⟩)] w fun e w' => e = .returned (.bool (decide (d ≤ (s.curve.getD (i + 1) ZL).draft))) ∧ Below w.heap.size w w' := by
 have hbw := Below.refl w.heap.size w;obtain ⟨b_, o_, eb_, _, rc⟩ := Z9 s.curve (i + 1) (by omega) w B _ _ _ hc
 injection eb_ with eb_
 injection eb_ with e1_ e2_
 subst e1_ e2_;refine EC.enter 14 Try.func84 rfl rfl rfl (EC.seq (EC.region (EL.as rfl rfl (EL.nil (EX.seq (EC.seq ?_))))));have lt_1 := hq1.lt;have lt_2 := hq2.lt;refine EC.regionP [[], [0], [], [2], [0, 1, 2, 3], [0, 1, 2, 3, 4], [0, 1, 2, 3, 4, 5], [], [0, 1, 2, 3, 4, 5, 6, 7], [0, 1, 2, 3, 4, 5, 6, 7, 8]] 9 [] (phi (fun i_ r => match i_ with | 0 => r 0 = .pointer (some ⟨g1, 3, none⟩) | 1 => r 1 = .slice (some ⟨b, o, none⟩) s.curve.length cc | 2 => r 2 = .int .i64 (i : Nat) | 3 => r 3 = .int .i64 ((i + 1) : Nat) | 4 => r 4 = .pointer (some ⟨b, o + (i + 1) * 2, none⟩) | 5 => r 5 = .pointer (some ⟨b, o + (i + 1) * 2, none⟩) | 6 => r 6 = .int .i64 (s.curve.getD (i + 1) ZL).draft | 7 => r 7 = .int .i64 d | 8 => r 8 = .bool (decide (d ≤ (s.curve.getD (i + 1) ZL).draft)) | _ => True) []) (by kernel_rfl) rfl rfl (ZY) (fun i_ hi_ => ?_) ?_
 ·match i_, hi_ with
  | 0, _ =>
   intro val w1 a hb ha hd;have ha := ha.s0 (d := 1) rfl
   exact ZB ha rfl rfl (Yz rfl) rfl rfl
  | 1, _ =>
   intro val w1 a hb ha hd;have e0 : val 0 = _ := hd 0 (ZA.1 rfl);have ha := ha.s1 (d := 5) rfl e0
   exact ZB ha rfl rfl (QCN rfl ((hq1.below hb hq1.lt).at (j := 3) rfl)) rfl rfl
  | 2, _ =>
   intro val w1 a hb ha hd;have ha := ha.s0 (d := 0) rfl
   exact ZB ha rfl rfl (ZH rfl) rfl rfl
  | 3, _ =>
   intro val w1 a hb ha hd;have e2 : val 2 = _ := hd 2 (ZA.1 rfl);have ha := ha.s1 (d := 7) rfl e2
   exact ZB ha rfl rfl (ZM rfl rfl (c := ((i + 1 : Nat) : Int)) ((IntWalk.i64_in _ ⟨by omega, by omega⟩).trans (by omega))) rfl rfl
  | 4, _ =>
   intro val w1 a hb ha hd;have e1 : val 1 = _ := hd 1 (ZA.1 rfl);have e3 : val 3 = _ := hd 3 (ZA.1 rfl);have ha := ha.s2 (d := 8) (e := 6) rfl e3 rfl e1
   exact ZB ha rfl rfl (QAs rfl rfl (show i + 1 < s.curve.length by omega)) rfl rfl
  | 5, _ =>
   intro val w1 a hb ha hd;have e4 : val 4 = _ := hd 4 (ZA.1 rfl);have ha := ha.s1 (d := 9) rfl e4
   exact ZB ha rfl rfl (YJ rfl) rfl rfl
  | 6, _ =>
   intro val w1 a hb ha hd;have e5 : val 5 = _ := hd 5 (ZA.1 rfl);have ha := ha.s1 (d := 10) rfl e5
   exact ZB ha rfl rfl (ld_3 rfl (ZD (hbw.trans hb) rc.c0)) rfl rfl
  | 7, _ =>
   intro val w1 a hb ha hd;have ha := ha.s0 (d := 2) rfl
   exact ZB ha rfl rfl (ld_3 rfl ((hq2.below hb hq2.lt).at (j := 0) rfl)) rfl rfl
  | 8, _ =>
   intro val w1 a hb ha hd;have e6 : val 6 = _ := hd 6 (ZA.1 rfl);have e7 : val 7 = _ := hd 7 (ZA.1 rfl);have ha := ha.s2 (d := 12) (e := 11) rfl e7 rfl e6
   exact ZB ha rfl rfl (QAA rfl rfl rfl) rfl rfl
  | k + 9, h => exact absurd h (by omega)
 ·intro val wR1 hb halc hd
  have e0 : val 0 = _ := hd 0 (by omega)
  have e1 : val 1 = _ := hd 1 (by omega)
  have e2 : val 2 = _ := hd 2 (by omega)
  have e3 : val 3 = _ := hd 3 (by omega)
  have e4 : val 4 = _ := hd 4 (by omega)
  have e5 : val 5 = _ := hd 5 (by omega)
  have e6 : val 6 = _ := hd 6 (by omega)
  have e7 : val 7 = _ := hd 7 (by omega)
  have e8 : val 8 = _ := hd 8 (by omega)
  refine EL.ends (cs := [_, _, _, _, _, _, _, _, _]) ⟨e0, e1, e2, e3, e4, e5, e6, e7, e8, trivial⟩ rfl ?_;replace hq1 := hq1.bl hb;replace hq2 := hq2.bl hb;replace hbw := bo_ hbw hb;clear hb;refine EL.as rfl rfl (EL.nil (EX.seq (EC.ret ?_)))
  exact EX.done (res1 rfl rfl) ⟨rfl, hbw⟩
set_option maxRecDepth 100000 in
theorem QJo (s : Sec) (vc vh : Value) (d : Int) (w : World) (B : Nat) (hc : Rd w B 2 vc s.curve.length (hrowsC s.curve)) (hB : B ≤ w.heap.size) (hk : CurveOk s.curve) (h0 : 0 ≤ d) (h1 : d ≤ YS s.curve) :
  Calls Try.prog 61 #[.agg #[.int .i64 s.len, .int .i64 s.light, .int .i64 s.trim, vc, vh], .int .i64 d] w fun e w' => e = .returned (.int .i64 (volC s.curve d)) ∧ Below w.heap.size w w' := by
 have hln := hk.len;obtain ⟨A, cc, rfl, _⟩ := hc.shape;obtain ⟨b, o, rfl, _, _⟩ := Z9 s.curve 0 (by omega) w B _ _ _ hc
 have hbw := Below.refl w.heap.size w;refine EC.enter 44 Try.func61 rfl rfl rfl (EC.seq (EC.region (EL.newP (QKt rfl) rfl ?_)));intro g1 w1 q1 hb1 hg1 hl1;have bhbw_1 := Nat.le_trans hbw.size hg1;replace hbw := bo_ hbw hb1;clear hb1 hg1 hl1;refine EL.newP (bx_3 rfl rfl) rfl ?_;intro g2 w2 q2 hb2 hg2 hl2;have n1_2 := q1.na hg2;have bhbw_2 := Nat.le_trans hbw.size hg2;replace q1 := q1.bl hb2;replace hbw := bo_ hbw hb2;clear hb2 hg2 hl2;refine EL.as rfl rfl (EL.nil (EX.seq (EC.seq (EC.region (EL.val (Yz rfl) rfl (EL.val (QCN rfl (q1.at (j := 3) rfl)) rfl (EL.val (QG0 rfl) rfl ?_)))))));refine EL.val (Z4 rfl rfl (c := ((s.curve.length - 1 : Nat) : Int)) ((IntWalk.i64_in _ ⟨by omega, by omega⟩).trans (by omega))) rfl ?_
 refine EL.val (QHo rfl rfl) rfl ?_;refine EL.call (cA2 cF83 rfl rfl) rfl (QJx (s.curve.length - 1) (fun i => decide (d ≤ (s.curve.getD (i + 1) ZL).draft)) (QLX hk d) (by omega) _ _ w2 (fun i hi W hW => QIL s b o cc vh d _ _ i W B ((hc.below (hbw.mono hB)).below (hW.mono (Nat.le_trans hB hbw.size))) hi (by omega) (q1.below hW q1.lt) (q2.below hW q2.lt))) ?_
 rintro e w3 ⟨rfl, hc3⟩
 refine ⟨_, rfl, ?_⟩;replace q1 := q1.bl hc3;replace q2 := q2.bl hc3;replace hbw := bo_ hbw hc3;clear hc3;refine EL.as rfl rfl (EL.nil (EX.seq (EC.seq ?_)));obtain ⟨k, ek⟩ : ∃ k : Nat, k = atS s.curve d := ⟨_, rfl⟩;rw [show fstN (fun i => decide (d ≤ (s.curve.getD (i + 1) ZL).draft)) (s.curve.length - 1) = k from ek.symm]
 have hat := hk.at_ h0 h1;have hway := QIK hk h0 h1;have hvb := QEH hk h0 h1
 unfold volC at hvb ⊢
 rw [← ek] at hat hway hvb ⊢;have hsg := QCd (hk.up hat.1).1 (hk.up hat.1).2 hat.2.2 hat.2.1
 unfold segV at hsg
 have hpb := hk.bd (k := k) (by omega)
 have hqb := hk.bd hat.1;obtain ⟨b1_, o1_, eb_, _, ra⟩ := Z9 s.curve k (by omega) w B _ _ _ hc
 injection eb_ with eb_
 injection eb_ with e1_ e2_
 subst e1_ e2_;obtain ⟨b1_, o1_, eb_, _, rb⟩ := Z9 s.curve (k + 1) (by omega) w B _ _ _ hc
 injection eb_ with eb_
 injection eb_ with e1_ e2_
 subst e1_ e2_;obtain ⟨p, ep⟩ : ∃ z, z = s.curve.getD k ZL := ⟨_, rfl⟩;obtain ⟨q, eq_⟩ : ∃ z, z = s.curve.getD (k + 1) ZL := ⟨_, rfl⟩;rw [← ep] at ra hway hvb hat hsg hpb ⊢;rw [← eq_] at rb hway hvb hat hsg hqb ⊢;have lt_1 := q1.lt;have lt_2 := q2.lt;refine EC.regionS [[], [0], [], [0, 1, 2], [0, 1, 2, 3], [], [5], [], [7], [5, 6, 7, 8], [5, 6, 7, 8, 9], [], [], [0, 1, 2, 3, 4, 11, 12], [0, 1, 2, 3, 4, 5, 6, 7, 8, 9, 10, 11, 12, 13]] 15 [11, 12] [13, 14] (fun _ w_ => Below w3.heap.size w3 w_) (phiS (fun i_ r => match i_ with | 0 => r 0 = .pointer (some ⟨g1, 3, none⟩) | 1 => r 1 = .slice (some ⟨b, o, none⟩) s.curve.length cc | 2 => r 2 = .int .i64 (k : Nat) | 3 => r 3 = .pointer (some ⟨b, o + k * 2, none⟩) | 4 => r 4 = .agg #[.int .i64 p.draft, .int .i64 p.vol] | 5 => r 5 = .pointer (some ⟨g1, 3, none⟩) | 6 => r 6 = .slice (some ⟨b, o, none⟩) s.curve.length cc | 7 => r 7 = .int .i64 (k : Nat) | 8 => r 8 = .int .i64 ((k + 1) : Nat) | 9 => r 9 = .pointer (some ⟨b, o + (k + 1) * 2, none⟩) | 10 => r 10 = .agg #[.int .i64 q.draft, .int .i64 q.vol] | _ => True) [(11, fun fl r w_ => ∃ g_, r 11 = .pointer (some ⟨g_, 0, none⟩) ∧ w3.heap.size ≤ g_ ∧ (fl 13 = false → Blk w_ g_ 111 #[.int .i64 0, .int .i64 0])), (12, fun fl r w_ => ∃ g_, r 12 = .pointer (some ⟨g_, 0, none⟩) ∧ w3.heap.size ≤ g_ ∧ (fl 14 = false → Blk w_ g_ 111 #[.int .i64 0, .int .i64 0])), (13, fun _ r w_ => ∃ g_, r 11 = .pointer (some ⟨g_, 0, none⟩) ∧ Blk w_ g_ 111 #[.int .i64 p.draft, .int .i64 p.vol]), (14, fun _ r w_ => ∃ g_, r 12 = .pointer (some ⟨g_, 0, none⟩) ∧ Blk w_ g_ 111 #[.int .i64 q.draft, .int .i64 q.vol])]) (by kernel_rfl) rfl rfl (by intro i hi; simp at hi; first | (subst hi; exact ⟨by simp, by omega⟩) | (rcases hi with rfl | rfl | rfl <;> exact ⟨by simp, by omega⟩) | (rcases hi with rfl | rfl <;> exact ⟨by simp, by omega⟩)) (QBT w3) (ZU QAD (ZU QAD (ZU QAm (ZU QAm (YZ))))) (fun i_ hi_ hs_ => ?_) (fun i_ hi_ => ?_) ?_
 ·match i_, hi_ with
  | 0, _ =>
   intro val fl w1 a hb ha hd hfl;have ha := ha.s0 (d := 2) rfl
   exact ZJ ha rfl rfl (Yz rfl) rfl rfl
  | 1, _ =>
   intro val fl w1 a hb ha hd hfl;have e0 : val 0 = _ := hd 0 (ZA.1 rfl);have ha := ha.s1 (d := 14) rfl e0
   exact ZJ ha rfl rfl (QCN rfl ((q1.below hb q1.lt).at (j := 3) rfl)) rfl rfl
  | 2, _ =>
   intro val fl w1 a hb ha hd hfl;have ha := ha.s0 (d := 5) rfl
   exact ZJ ha rfl rfl (ZH rfl) rfl rfl
  | 3, _ =>
   intro val fl w1 a hb ha hd hfl;have e1 : val 1 = _ := hd 1 (ZA.1 rfl);have e2 : val 2 = _ := hd 2 (ZA.1 rfl);have ha := ha.s2 (d := 16) (e := 15) rfl e2 rfl e1
   exact ZJ ha rfl rfl (QAs rfl rfl (show k < s.curve.length by omega)) rfl rfl
  | 4, _ =>
   intro val fl w1 a hb ha hd hfl;have e3 : val 3 = _ := hd 3 (ZA.1 rfl);have ha := ha.s1 (d := 17) rfl e3
   exact ZJ ha rfl rfl (QEf rfl (ZD (hbw.trans (hb.mono hbw.size)) ra.c0) (ZD (hbw.trans (hb.mono hbw.size)) ra.c1)) rfl rfl
  | 5, _ =>
   intro val fl w1 a hb ha hd hfl;have ha := ha.s0 (d := 2) rfl
   exact ZJ ha rfl rfl (Yz rfl) rfl rfl
  | 6, _ =>
   intro val fl w1 a hb ha hd hfl;have e5 : val 5 = _ := hd 5 (ZA.1 rfl);have ha := ha.s1 (d := 19) rfl e5
   exact ZJ ha rfl rfl (QCN rfl ((q1.below hb q1.lt).at (j := 3) rfl)) rfl rfl
  | 7, _ =>
   intro val fl w1 a hb ha hd hfl;have ha := ha.s0 (d := 5) rfl
   exact ZJ ha rfl rfl (ZH rfl) rfl rfl
  | 8, _ =>
   intro val fl w1 a hb ha hd hfl;have e7 : val 7 = _ := hd 7 (ZA.1 rfl);have ha := ha.s1 (d := 21) rfl e7
   exact ZJ ha rfl rfl (ZM rfl rfl (c := ((k + 1 : Nat) : Int)) ((IntWalk.i64_in _ ⟨by omega, by omega⟩).trans (by omega))) rfl rfl
  | 9, _ =>
   intro val fl w1 a hb ha hd hfl;have e6 : val 6 = _ := hd 6 (ZA.1 rfl);have e8 : val 8 = _ := hd 8 (ZA.1 rfl);have ha := ha.s2 (d := 22) (e := 20) rfl e8 rfl e6
   exact ZJ ha rfl rfl (QAs rfl rfl (show k + 1 < s.curve.length by omega)) rfl rfl
  | 10, _ =>
   intro val fl w1 a hb ha hd hfl;have e9 : val 9 = _ := hd 9 (ZA.1 rfl);have ha := ha.s1 (d := 23) rfl e9
   exact ZJ ha rfl rfl (QEf rfl (ZD (hbw.trans (hb.mono hbw.size)) rb.c0) (ZD (hbw.trans (hb.mono hbw.size)) rb.c1)) rfl rfl
  | 11, _ =>
   intro val fl w1 a hb ha hd hfl;have ha := ha.sub (Sub.nil _)
   exact QCa ha rfl rfl QGV (fun g w' hq _ hge => ⟨g, rfl, Nat.le_trans hb.size hge, fun _ => hq⟩)
  | 12, _ =>
   intro val fl w1 a hb ha hd hfl;have ha := ha.sub (Sub.nil _)
   exact QCa ha rfl rfl QGV (fun g w' hq _ hge => ⟨g, rfl, Nat.le_trans hb.size hge, fun _ => hq⟩)
  | 13, _ =>
   exact absurd (by simp) hs_
  | 14, _ =>
   exact absurd (by simp) hs_
  | k + 15, h => exact absurd h (by omega)
 ·simp only [List.mem_cons, List.not_mem_nil, or_false] at hi_; rcases hi_ with rfl | rfl
  ·
   intro val fl w1 a hb hfi ha hd hfl;obtain ⟨g11_, e11, hg11_, q11_⟩ := hd 11 (ZA.1 rfl);change val 11 = _ at e11;have e4 : val 4 = _ := hd 4 (ZA.1 rfl);have ha := ha.s2 (d := 18) (e := 6) rfl e4 rfl e11;refine YD ha rfl rfl rfl (q11_ hfi) QFz rfl rfl rfl rfl ?_;intro w' hq hgr;refine ⟨undef, rfl, hgr.size, ZC hb hgr hg11_, ⟨g11_, e11, hq⟩, fun j _ hj hn hA => ?_⟩
   exact ZG (C := fun j => j ≠ 13 ∧ 13 ∉ clsAt [[], [0], [], [0, 1, 2], [0, 1, 2, 3], [], [5], [], [7], [5, 6, 7, 8], [5, 6, 7, 8, 9], [], [], [0, 1, 2, 3, 4, 11, 12], [0, 1, 2, 3, 4, 5, 6, 7, 8, 9, 10, 11, 12, 13]] j ∧ ∀ p ∈ [11, 12], (p = j ∨ p ∈ clsAt [[], [0], [], [0, 1, 2], [0, 1, 2, 3], [], [5], [], [7], [5, 6, 7, 8], [5, 6, 7, 8, 9], [], [], [0, 1, 2, 3, 4, 11, 12], [0, 1, 2, 3, 4, 5, 6, 7, 8, 9, 10, 11, 12, 13]] j) → ∀ q ∈ [11, 12], (q = 13 ∨ q ∈ clsAt [[], [0], [], [0, 1, 2], [0, 1, 2, 3], [], [5], [], [7], [5, 6, 7, 8], [5, 6, 7, 8, 9], [], [], [0, 1, 2, 3, 4, 11, 12], [0, 1, 2, 3, 4, 5, 6, 7, 8, 9, 10, 11, 12, 13]] 13) → p ≠ q → val p ≠ val q) (fun _ ⟨g, h1, h2, _⟩ => ⟨g, h1, h2, fun h => by rw [Zs] at h; cases h⟩) (ZG (fun hc ⟨g, h1, h2, h3⟩ => ⟨g, h1, h2, fun h => (h3 (by rwa [Yj rfl] at h)).grown hgr (fun h => hc.2.2 12 (by simp) (.inl rfl) 11 (by simp) (.inr (ZA.1 rfl)) (by simp) (by have h1' : val 12 = _ := h1; rw [h1', e11]; injection h with h; rw [h]))⟩) (ZG (fun hc => absurd rfl hc.1) (ZG (fun hc ⟨g, h1, h2⟩ => ⟨g, h1, h2.grown hgr (fun h => hc.2.2 12 (by simp) (.inr (ZA.1 rfl)) 11 (by simp) (.inr (ZA.1 rfl)) (by simp) (by have h1' : val 12 = _ := h1; rw [h1', e11]; injection h with h; rw [h]))⟩) (fun _ _ h => h)))) j ⟨hj, hn, hA⟩
  ·
   intro val fl w1 a hb hfi ha hd hfl;obtain ⟨g12_, e12, hg12_, q12_⟩ := hd 12 (ZA.1 rfl);change val 12 = _ at e12;have e10 : val 10 = _ := hd 10 (ZA.1 rfl);have ha := ha.s2 (d := 24) (e := 7) rfl e10 rfl e12;refine YD ha rfl rfl rfl (q12_ hfi) QFz rfl rfl rfl rfl ?_;intro w' hq hgr;refine ⟨undef, rfl, hgr.size, ZC hb hgr hg12_, ⟨g12_, e12, hq⟩, fun j _ hj hn hA => ?_⟩
   exact ZG (C := fun j => j ≠ 14 ∧ 14 ∉ clsAt [[], [0], [], [0, 1, 2], [0, 1, 2, 3], [], [5], [], [7], [5, 6, 7, 8], [5, 6, 7, 8, 9], [], [], [0, 1, 2, 3, 4, 11, 12], [0, 1, 2, 3, 4, 5, 6, 7, 8, 9, 10, 11, 12, 13]] j ∧ ∀ p ∈ [11, 12], (p = j ∨ p ∈ clsAt [[], [0], [], [0, 1, 2], [0, 1, 2, 3], [], [5], [], [7], [5, 6, 7, 8], [5, 6, 7, 8, 9], [], [], [0, 1, 2, 3, 4, 11, 12], [0, 1, 2, 3, 4, 5, 6, 7, 8, 9, 10, 11, 12, 13]] j) → ∀ q ∈ [11, 12], (q = 14 ∨ q ∈ clsAt [[], [0], [], [0, 1, 2], [0, 1, 2, 3], [], [5], [], [7], [5, 6, 7, 8], [5, 6, 7, 8, 9], [], [], [0, 1, 2, 3, 4, 11, 12], [0, 1, 2, 3, 4, 5, 6, 7, 8, 9, 10, 11, 12, 13]] 14) → p ≠ q → val p ≠ val q) (fun hc ⟨g, h1, h2, h3⟩ => ⟨g, h1, h2, fun h => (h3 (by rwa [Yj rfl] at h)).grown hgr (fun h => hc.2.2 11 (by simp) (.inl rfl) 12 (by simp) (.inr (ZA.1 rfl)) (by simp) (by have h1' : val 11 = _ := h1; rw [h1', e12]; injection h with h; rw [h]))⟩) (ZG (fun _ ⟨g, h1, h2, _⟩ => ⟨g, h1, h2, fun h => by rw [Zs] at h; cases h⟩) (ZG (fun hc ⟨g, h1, h2⟩ => ⟨g, h1, h2.grown hgr (fun h => hc.2.2 11 (by simp) (.inr (ZA.1 rfl)) 12 (by simp) (.inr (ZA.1 rfl)) (by simp) (by have h1' : val 11 = _ := h1; rw [h1', e12]; injection h with h; rw [h]))⟩) (ZG (fun hc => absurd rfl hc.1) (fun _ _ h => h)))) j ⟨hj, hn, hA⟩
 ·intro val fl wR2 hfl hb halc hd
  have e0 : val 0 = _ := hd 0 (by omega)
  have e1 : val 1 = _ := hd 1 (by omega)
  have e2 : val 2 = _ := hd 2 (by omega)
  have e3 : val 3 = _ := hd 3 (by omega)
  have e4 : val 4 = _ := hd 4 (by omega)
  have e5 : val 5 = _ := hd 5 (by omega)
  have e6 : val 6 = _ := hd 6 (by omega)
  have e7 : val 7 = _ := hd 7 (by omega)
  have e8 : val 8 = _ := hd 8 (by omega)
  have e9 : val 9 = _ := hd 9 (by omega)
  have e10 : val 10 = _ := hd 10 (by omega)
  obtain ⟨ga11_2, e11, qa11_2⟩ := hd 13 (by omega)
  change val 11 = _ at e11;obtain ⟨ga12_2, e12, qa12_2⟩ := hd 14 (by omega)
  change val 12 = _ at e12;refine EL.ends (cs := [_, _, _, _, _, _, _, _, _, _, _, _, _, val 13, val 14]) ⟨e0, e1, e2, e3, e4, e5, e6, e7, e8, e9, e10, e11, e12, rfl, rfl, trivial⟩ rfl ?_;replace q1 := q1.bl hb;replace q2 := q2.bl hb;have bge4 := QCJ halc (i := 11) rfl rfl e11;have n1_4 : g1 ≠ ga11_2 := Nat.ne_of_lt (Nat.lt_of_lt_of_le lt_1 bge4);have n2_4 : g2 ≠ ga11_2 := Nat.ne_of_lt (Nat.lt_of_lt_of_le lt_2 bge4);have bhbw_4 := Nat.le_trans hbw.size bge4;have bge5 := QCJ halc (i := 12) rfl rfl e12;have n1_5 : g1 ≠ ga12_2 := Nat.ne_of_lt (Nat.lt_of_lt_of_le lt_1 bge5);have n2_5 : g2 ≠ ga12_2 := Nat.ne_of_lt (Nat.lt_of_lt_of_le lt_2 bge5);have n4_5 : ga11_2 ≠ ga12_2 := QJj halc (i := 11) (j := 12) rfl rfl rfl rfl rfl e11 e12;have bhbw_5 := Nat.le_trans hbw.size bge5;replace hbw := bo_ hbw hb;refine EL.nil (EX.seq (EC.seq ?_));have lt_1 := q1.lt;have lt_2 := q2.lt;have lt_4 := qa11_2.lt;have lt_5 := qa12_2.lt;refine EC.regionP [[], [0], [], [], [3], [2, 3, 4], [], [6], [], [8], [6, 7, 8, 9], [2, 3, 4, 5, 6, 7, 8, 9, 10], [], [12], [], [14], [12, 13, 14, 15], [2, 3, 4, 5, 6, 7, 8, 9, 10, 11, 12, 13, 14, 15, 16], [0, 1, 2, 3, 4, 5, 6, 7, 8, 9, 10, 11, 12, 13, 14, 15, 16, 17], [0, 1, 2, 3, 4, 5, 6, 7, 8, 9, 10, 11, 12, 13, 14, 15, 16, 17, 18]] 19 [] (phi (fun i_ r => match i_ with | 0 => r 0 = .pointer (some ⟨ga11_2, 1, none⟩) | 1 => r 1 = .int .i64 p.vol | 2 => r 2 = .int .i64 d | 3 => r 3 = .pointer (some ⟨ga11_2, 0, none⟩) | 4 => r 4 = .int .i64 p.draft | 5 => r 5 = .int .i64 (d - p.draft) | 6 => r 6 = .pointer (some ⟨ga12_2, 1, none⟩) | 7 => r 7 = .int .i64 q.vol | 8 => r 8 = .pointer (some ⟨ga11_2, 1, none⟩) | 9 => r 9 = .int .i64 p.vol | 10 => r 10 = .int .i64 (q.vol - p.vol) | 11 => r 11 = .int .i64 ((d - p.draft) * (q.vol - p.vol)) | 12 => r 12 = .pointer (some ⟨ga12_2, 0, none⟩) | 13 => r 13 = .int .i64 q.draft | 14 => r 14 = .pointer (some ⟨ga11_2, 0, none⟩) | 15 => r 15 = .int .i64 p.draft | 16 => r 16 = .int .i64 (q.draft - p.draft) | 17 => r 17 = .int .i64 ((d - p.draft) * (q.vol - p.vol) / (q.draft - p.draft)) | 18 => r 18 = .int .i64 (p.vol + (d - p.draft) * (q.vol - p.vol) / (q.draft - p.draft)) | _ => True) []) (by kernel_rfl) rfl rfl (ZY) (fun i_ hi_ => ?_) ?_
  ·match i_, hi_ with
   | 0, _ =>
    intro val w1 a hb ha hd;have ha := ha.s0 (d := 6) rfl
    exact ZB ha rfl rfl (Y9 rfl) rfl rfl
   | 1, _ =>
    intro val w1 a hb ha hd;have e0 : val 0 = _ := hd 0 (ZA.1 rfl);have ha := ha.s1 (d := 25) rfl e0
    exact ZB ha rfl rfl (ld_3 rfl ((qa11_2.below hb qa11_2.lt).at (j := 1) rfl)) rfl rfl
   | 2, _ =>
    intro val w1 a hb ha hd;have ha := ha.s0 (d := 3) rfl
    exact ZB ha rfl rfl (ld_3 rfl ((q2.below hb q2.lt).at (j := 0) rfl)) rfl rfl
   | 3, _ =>
    intro val w1 a hb ha hd;have ha := ha.s0 (d := 6) rfl
    exact ZB ha rfl rfl (YJ rfl) rfl rfl
   | 4, _ =>
    intro val w1 a hb ha hd;have e3 : val 3 = _ := hd 3 (ZA.1 rfl);have ha := ha.s1 (d := 28) rfl e3
    exact ZB ha rfl rfl (ld_3 rfl ((qa11_2.below hb qa11_2.lt).at (j := 0) rfl)) rfl rfl
   | 5, _ =>
    intro val w1 a hb ha hd;have e2 : val 2 = _ := hd 2 (ZA.1 rfl);have e4 : val 4 = _ := hd 4 (ZA.1 rfl);have ha := ha.s2 (d := 29) (e := 27) rfl e4 rfl e2
    exact ZB ha rfl rfl (Z4 rfl rfl (IntWalk.i64_in _ ⟨by omega, by omega⟩)) rfl rfl
   | 6, _ =>
    intro val w1 a hb ha hd;have ha := ha.s0 (d := 7) rfl
    exact ZB ha rfl rfl (Y9 rfl) rfl rfl
   | 7, _ =>
    intro val w1 a hb ha hd;have e6 : val 6 = _ := hd 6 (ZA.1 rfl);have ha := ha.s1 (d := 31) rfl e6
    exact ZB ha rfl rfl (ld_3 rfl ((qa12_2.below hb qa12_2.lt).at (j := 1) rfl)) rfl rfl
   | 8, _ =>
    intro val w1 a hb ha hd;have ha := ha.s0 (d := 6) rfl
    exact ZB ha rfl rfl (Y9 rfl) rfl rfl
   | 9, _ =>
    intro val w1 a hb ha hd;have e8 : val 8 = _ := hd 8 (ZA.1 rfl);have ha := ha.s1 (d := 33) rfl e8
    exact ZB ha rfl rfl (ld_3 rfl ((qa11_2.below hb qa11_2.lt).at (j := 1) rfl)) rfl rfl
   | 10, _ =>
    intro val w1 a hb ha hd;have e7 : val 7 = _ := hd 7 (ZA.1 rfl);have e9 : val 9 = _ := hd 9 (ZA.1 rfl);have ha := ha.s2 (d := 34) (e := 32) rfl e9 rfl e7
    exact ZB ha rfl rfl (Z4 rfl rfl (IntWalk.i64_in _ ⟨by omega, by omega⟩)) rfl rfl
   | 11, _ =>
    intro val w1 a hb ha hd;have e5 : val 5 = _ := hd 5 (ZA.1 rfl);have e10 : val 10 = _ := hd 10 (ZA.1 rfl);have ha := ha.s2 (d := 35) (e := 30) rfl e10 rfl e5
    exact ZB ha rfl rfl (QAc rfl rfl (IntWalk.i64_in _ ⟨by omega, by omega⟩)) rfl rfl
   | 12, _ =>
    intro val w1 a hb ha hd;have ha := ha.s0 (d := 7) rfl
    exact ZB ha rfl rfl (YJ rfl) rfl rfl
   | 13, _ =>
    intro val w1 a hb ha hd;have e12 : val 12 = _ := hd 12 (ZA.1 rfl);have ha := ha.s1 (d := 37) rfl e12
    exact ZB ha rfl rfl (ld_3 rfl ((qa12_2.below hb qa12_2.lt).at (j := 0) rfl)) rfl rfl
   | 14, _ =>
    intro val w1 a hb ha hd;have ha := ha.s0 (d := 6) rfl
    exact ZB ha rfl rfl (YJ rfl) rfl rfl
   | 15, _ =>
    intro val w1 a hb ha hd;have e14 : val 14 = _ := hd 14 (ZA.1 rfl);have ha := ha.s1 (d := 39) rfl e14
    exact ZB ha rfl rfl (ld_3 rfl ((qa11_2.below hb qa11_2.lt).at (j := 0) rfl)) rfl rfl
   | 16, _ =>
    intro val w1 a hb ha hd;have e13 : val 13 = _ := hd 13 (ZA.1 rfl);have e15 : val 15 = _ := hd 15 (ZA.1 rfl);have ha := ha.s2 (d := 40) (e := 38) rfl e15 rfl e13
    exact ZB ha rfl rfl (Z4 rfl rfl (IntWalk.i64_in _ ⟨by omega, by omega⟩)) rfl rfl
   | 17, _ =>
    intro val w1 a hb ha hd;have e11 : val 11 = _ := hd 11 (ZA.1 rfl);have e16 : val 16 = _ := hd 16 (ZA.1 rfl);have ha := ha.s2 (d := 41) (e := 36) rfl e16 rfl e11
    exact ZB ha rfl rfl (QGY rfl rfl (c := (d - p.draft) * (q.vol - p.vol) / (q.draft - p.draft)) (by omega) (by rw [Int.tdiv_eq_ediv_of_nonneg hway.2.2.1.1]; exact IntWalk.i64_in _ ⟨by omega, by omega⟩)) rfl rfl
   | 18, _ =>
    intro val w1 a hb ha hd;have e1 : val 1 = _ := hd 1 (ZA.1 rfl);have e17 : val 17 = _ := hd 17 (ZA.1 rfl);have ha := ha.s2 (d := 42) (e := 26) rfl e17 rfl e1
    exact ZB ha rfl rfl (ZM rfl rfl (IntWalk.i64_in _ ⟨by omega, by omega⟩)) rfl rfl
   | k + 19, h => exact absurd h (by omega)
  ·intro val wR3 hb halc hd
   have e0 : val 0 = _ := hd 0 (by omega)
   have e1 : val 1 = _ := hd 1 (by omega)
   have e2 : val 2 = _ := hd 2 (by omega)
   have e3 : val 3 = _ := hd 3 (by omega)
   have e4 : val 4 = _ := hd 4 (by omega)
   have e5 : val 5 = _ := hd 5 (by omega)
   have e6 : val 6 = _ := hd 6 (by omega)
   have e7 : val 7 = _ := hd 7 (by omega)
   have e8 : val 8 = _ := hd 8 (by omega)
   have e9 : val 9 = _ := hd 9 (by omega)
   have e10 : val 10 = _ := hd 10 (by omega)
   have e11 : val 11 = _ := hd 11 (by omega)
   have e12 : val 12 = _ := hd 12 (by omega)
   have e13 : val 13 = _ := hd 13 (by omega)
   have e14 : val 14 = _ := hd 14 (by omega)
   have e15 : val 15 = _ := hd 15 (by omega)
   have e16 : val 16 = _ := hd 16 (by omega)
   have e17 : val 17 = _ := hd 17 (by omega)
   have e18 : val 18 = _ := hd 18 (by omega)
   refine EL.ends (cs := [_, _, _, _, _, _, _, _, _, _, _, _, _, _, _, _, _, _, _]) ⟨e0, e1, e2, e3, e4, e5, e6, e7, e8, e9, e10, e11, e12, e13, e14, e15, e16, e17, e18, trivial⟩ rfl ?_;replace q1 := q1.bl hb;replace q2 := q2.bl hb;replace qa11_2 := qa11_2.bl hb;replace qa12_2 := qa12_2.bl hb;replace hbw := bo_ hbw hb;clear hb;refine EL.as rfl rfl (EL.nil (EX.seq (EC.ret ?_)))
   exact EX.done (res1 rfl rfl) ⟨rfl, hbw⟩
theorem QE9 {h : Hul} (hh : HulOk h) (v hv : Value) (vs : List (Value × Value)) (g : Nat) (w : World) (B : Nat) (hs : RdShip w B g h v hv vs) (hB : B ≤ w.heap.size) (d : Int) (h0 : 0 ≤ d) (h1 : d ≤ limH h) :
  Calls Try.prog 44 #[.pointer (some ⟨g, 0, none⟩), .int .i64 d] w fun e w' => e = .returned (.int .i64 (volH h d)) ∧ Below w.heap.size w w' := by
 have hln := hh.some;obtain ⟨A, c, rfl⟩ := hs.secs.shape;have hbw := Below.refl w.heap.size w;refine EC.enter 24 Try.func44 rfl rfl rfl (EC.seq (EC.region (EL.as rfl rfl (EL.nil (EX.seq (EC.seq (EC.seq (EC.region (EL.mv rfl rfl ?_)))))))));refine EL.val (ZK rfl) rfl (EL.val (QAu rfl) rfl (EL.val (Yc rfl) rfl (EL.val (QAb rfl (ZD hbw (hs.c (j := 1) rfl))) rfl (EL.val (QAp rfl) rfl (EL.mv rfl rfl (EL.nil (EX.seq (EC.block ?_))))))));refine EC.loopD [4, 6, 13, 14, 15, 16, 17, 18, 19, 20, 21, 22] (fun k : Nat => [(4, .int .i64 (sumS (fun s => volC s.curve d) (h.secs.take k))), (13, .int .i64 (k : Nat))]) (fun k W => k ≤ h.secs.length ∧ Below w.heap.size w W) (fun k => h.secs.length - k) 0 ⟨Nat.zero_le _, hbw⟩ ⟨rfl, rfl, trivial⟩ ?_
 clear  hbw
 rintro k wk ⟨hk, hbw⟩
 by_cases hltk : k < h.secs.length
 ·
  obtain ⟨b, o, rfl, _, sc⟩ := hs.secs.cells k hltk;have hc1 := hs.secs.curve k hltk;have hh1 := hs.secs.holds k hltk;have hsm := getD_mem (d := sec0) hltk;have es := YT (fun s => volC s.curve d) hltk
  have hlim := QEa _ hsm;have hvb := QHN hh h0 h1 k;obtain ⟨y, ey⟩ : ∃ z, z = h.secs.getD k sec0 := ⟨_, rfl⟩;rw [← ey] at sc hc1 hh1 hsm es hlim;obtain ⟨⟨vc, vh⟩, ep⟩ : ∃ z, z = vs.getD k uu := ⟨_, rfl⟩;rw [← ep] at sc hc1 hh1
  dsimp only at hc1 hh1
  obtain ⟨Ac, cc_, evc, _⟩ := hc1.shape;obtain ⟨Ah, ch_, evh, _⟩ := hh1.shape;subst evc evh;have hok := (hh.secs y hsm).curve;have hv1 := QEH hok h0 (by unfold limH at h1; omega)
  refine EC.seq (EC.region ?_);refine EL.val (ZO rfl rfl (decide_eq_true (show (((k : Nat) : Int) < ((h.secs.length : Nat) : Int)) by omega))) rfl ?_
  refine EL.nil (EX.seq (EC.seq (EC.yes rfl (EC.skip (EX.seq (EC.seq (EC.block (EC.seq (EC.region ?_)))))))));refine EL.val (QFX rfl rfl hltk) rfl (EL.val (QAr rfl (ZD hbw sc.c0) (ZD hbw sc.c1) (ZD hbw sc.c2) (ZD hbw sc.c3) (ZD hbw sc.c4)) rfl (EL.newP QEE rfl ?_));intro g1 w1 q1 hb1 hg1 hl1;have bhbw_1 := Nat.le_trans hbw.size hg1;replace hbw := bo_ hbw hb1;clear hb1 hg1 hl1;refine EL.store rfl rfl q1 QDw rfl rfl rfl rfl ?_;intro w2 hq2 hg2;replace hbw := ZC hbw hg2 bhbw_1;replace q1 := hq2;clear hg2 hq2;refine EL.nil (EX.seq (EC.region (EL.mv rfl rfl (EL.val (QAr rfl (q1.at (j := 0) rfl) (q1.at (j := 1) rfl) (q1.at (j := 2) rfl) (q1.at (j := 3) rfl) (q1.at (j := 4) rfl)) rfl (EL.mv rfl rfl ?_)))));refine EL.call (cA2 cF61 rfl rfl) rfl (QJo y _ _ d _ B (hc1.below (hbw.mono hB)) (Nat.le_trans hB hbw.size) hok h0 (by unfold limH at h1; omega)) ?_
  rintro e w3 ⟨rfl, hc3⟩
  refine ⟨_, rfl, ?_⟩;replace q1 := q1.bl hc3;replace hbw := bo_ hbw hc3;clear hc3;refine EL.val (ZM rfl rfl (IntWalk.i64_in _ ⟨by omega, by omega⟩)) rfl ?_
  refine EL.as rfl rfl (EL.nil (EX.blk (EX.seq (EC.region ?_))));refine EL.val (ZM rfl rfl (c := ((k + 1 : Nat) : Int)) ((IntWalk.i64_in _ ⟨by first | omega | (simp only; omega), by first | omega | (simp only; omega)⟩).trans (by first | omega | (simp only; omega)))) rfl ?_
  refine EL.mv rfl rfl (EL.nil ?_);refine EX.roundD (k + 1) ⟨by rw [es]; rfl, rfl, trivial⟩ (by repeat first | with_reducible exact .refl _ | refine sp_ rfl ?_ | exact .refl _ | refine sd_ rfl ?_ | refine sn_ ?_) ⟨by omega, hbw⟩ (by omega)
 ·
  obtain rfl : k = h.secs.length := by omega
  rw [List.take_length];refine EC.seq (EC.region ?_);refine EL.val (ZO rfl rfl (decide_eq_false (show ¬(((h.secs.length : Nat) : Int) < ((h.secs.length : Nat) : Int)) by omega))) rfl ?_
  refine EL.nil (EX.seq (EC.seq (EC.no rfl (EC.exit (EX.seq_exit (EX.seq_exit (EX.blk_here (EX.seq (EC.seq ?_)))))))));refine EC.region (EL.mv rfl rfl (EL.as rfl rfl (EL.nil (EX.seq (EC.ret ?_)))))
  exact EX.done (res1 rfl rfl) ⟨rfl, hbw⟩
theorem QHs {h : Hul} (hh : HulOk h) (v hv : Value) (vs : List (Value × Value)) (g : Nat) (w : World) (B : Nat) (hs : RdShip w B g h v hv vs) (hB : B ≤ w.heap.size) (d m : Int) (h0 : 0 ≤ d) (h1 : d ≤ limH h) (g1 g2 : Nat) (hq1 : Blk w g1 115 #[.pointer (some ⟨g, 0, none⟩)]) (hq2 : Blk w g2 3 #[.int .i64 m]) :
  Calls Try.prog 96 #[.int .i64 d, .pointer (some ⟨g1, 0, none⟩), .pointer (some ⟨g2, 0, none⟩)] w fun e w' => e = .returned (.bool (decide (m ≤ volH h d))) ∧ Below w.heap.size w w' := by
 have hbw := Below.refl w.heap.size w;refine EC.enter 10 Try.func96 rfl rfl rfl (EC.seq (EC.region (EL.as rfl rfl (EL.nil (EX.seq (EC.seq ?_))))));have lt_1 := hq1.lt;have lt_2 := hq2.lt;refine EC.regionP [[], [], [0, 1], [], [0, 1, 2, 3], [0, 1, 2, 3, 4]] 5 [] (phi (fun i_ r => match i_ with | 0 => r 0 = .pointer (some ⟨g, 0, none⟩) | 1 => r 1 = .int .i64 d | 2 => r 2 = .int .i64 (volH h d) | 3 => r 3 = .int .i64 m | 4 => r 4 = .bool (decide (m ≤ volH h d)) | _ => True) []) (by kernel_rfl) rfl rfl (ZY) (fun i_ hi_ => ?_) ?_
 ·match i_, hi_ with
  | 0, _ =>
   intro val w1 a hb ha hd;have ha := ha.s0 (d := 1) rfl
   exact ZB ha rfl rfl (QAU rfl ((hq1.below hb hq1.lt).at (j := 0) rfl)) rfl rfl
  | 1, _ =>
   intro val w1 a hb ha hd;have ha := ha.s0 (d := 0) rfl
   exact ZB ha rfl rfl (ZH rfl) rfl rfl
  | 2, _ =>
   intro val w1 a hb ha hd;have e0 : val 0 = _ := hd 0 (ZA.1 rfl);have e1 : val 1 = _ := hd 1 (ZA.1 rfl);have ha := ha.s2 (d := 6) (e := 5) rfl e1 rfl e0;refine Zf ha rfl rfl (cA2 cF44 rfl rfl) (QE9 hh v hv vs g _ B ((hs.below (hbw.mono hB)).below (hb.mono (Nat.le_trans hB hbw.size))) (Nat.le_trans hB (Nat.le_trans hbw.size hb.size)) d h0 h1) rfl ?_
   rintro e w' ⟨rfl, hb'⟩
   exact ⟨_, rfl, hb', rfl⟩
  | 3, _ =>
   intro val w1 a hb ha hd;have ha := ha.s0 (d := 2) rfl
   exact ZB ha rfl rfl (ld_3 rfl ((hq2.below hb hq2.lt).at (j := 0) rfl)) rfl rfl
  | 4, _ =>
   intro val w1 a hb ha hd;have e2 : val 2 = _ := hd 2 (ZA.1 rfl);have e3 : val 3 = _ := hd 3 (ZA.1 rfl);have ha := ha.s2 (d := 8) (e := 7) rfl e3 rfl e2
   exact ZB ha rfl rfl (QAA rfl rfl rfl) rfl rfl
  | k + 5, h => exact absurd h (by omega)
 ·intro val wR1 hb halc hd
  have e0 : val 0 = _ := hd 0 (by omega)
  have e1 : val 1 = _ := hd 1 (by omega)
  have e2 : val 2 = _ := hd 2 (by omega)
  have e3 : val 3 = _ := hd 3 (by omega)
  have e4 : val 4 = _ := hd 4 (by omega)
  refine EL.ends (cs := [_, _, _, _, _]) ⟨e0, e1, e2, e3, e4, trivial⟩ rfl ?_;replace hq1 := hq1.bl hb;replace hq2 := hq2.bl hb;replace hbw := bo_ hbw hb;clear hb;refine EL.as rfl rfl (EL.nil (EX.seq (EC.ret ?_)))
  exact EX.done (res1 rfl rfl) ⟨rfl, hbw⟩
theorem QJy (n : Nat) (p : Nat → Bool) (hup : UpB p n) (hn : n ≤ 1048576) (u1 u2 : Value) (w : World) (hc : ∀ i, i < n → ∀ W, Below w.heap.size w W → Calls Try.prog 96 #[.int .i64 (i : Nat), u1, u2] W fun e w' => e = .returned (.bool (p i)) ∧ Below W.heap.size W w') :
  Calls Try.prog 83 #[.int .i64 (n : Nat), .func (.func 96) #[] #[u1, u2]] w fun e w' => e = .returned (.int .i64 (fstN p n : Nat)) ∧ Below w.heap.size w w' := by
 have hiff := fun i hi => QIM hup (i := i) hi
 have hNn := QBB p n;obtain ⟨N, eN⟩ : ∃ N, N = fstN p n := ⟨_, rfl⟩;rw [← eN] at hNn ⊢
 simp only [← eN] at hiff
 clear eN;have hbw := Below.refl w.heap.size w;refine EC.enter 26 Try.func83 rfl rfl rfl (EC.seq (EC.region (EL.as rfl rfl (EL.nil (EX.seq (EC.seq (EC.region (EL.mv rfl rfl (EL.as rfl rfl ?_)))))))));refine EL.as rfl rfl (EL.nil (EX.seq (EC.seq (EC.block ?_))));refine EC.loopD [5, 6, 7, 9, 10, 11, 12, 13, 14, 15, 16, 17, 18, 19, 20, 21, 22, 23, 24] (fun x : Nat × Nat => [(5, .int .i64 (x.1 : Nat)), (6, .int .i64 (x.2 : Nat))]) (fun x W => x.1 ≤ N ∧ N ≤ x.2 ∧ x.2 ≤ n ∧ Below w.heap.size w W) (fun x => x.2 - x.1) (0, n) ⟨Nat.zero_le _, hNn, Nat.le_refl _, hbw⟩ ⟨rfl, rfl, trivial⟩ ?_
 clear hbw
 rintro ⟨a, b⟩ wk ⟨ha, hb, hbn, hbw⟩
 dsimp only at ha hb hbn
 by_cases hab : a < b
 ·
  obtain ⟨m, em⟩ : ∃ m, m = (a + b) / 2 := ⟨_, rfl⟩;have hm : m < n := by omega
  have hi := hiff m hm
  cases hx : p m
  ·
   rw [hx] at hi;refine EC.seq (EC.seq (EC.region (EL.mv rfl rfl (EL.mv rfl rfl ?_))));refine EL.val (ZO (r := true) rfl rfl (decide_eq_true (by omega))) rfl ?_
   refine EL.nil (EX.seq (EC.yes rfl (EC.skip (EX.seq (EC.block (EC.seq (EC.region (EL.mv rfl rfl (EL.mv rfl rfl ?_)))))))));refine EL.val (ZM rfl rfl (c := ((a + b : Nat) : Int)) ((IntWalk.i64_in _ ⟨by omega, by omega⟩).trans (by omega))) rfl ?_
   refine EL.val (QBt rfl (by rw [IntKind.wrap]; simp [IntKind.bits, IntKind.signed]; omega)) rfl ?_
   refine EL.val (QEF rfl rfl) rfl ?_;refine EL.val (QBu rfl (IntWalk.i64_in _ ⟨by omega, by omega⟩)) rfl ?_
   refine EL.as rfl rfl (EL.nil (EX.seq (EC.seq (EC.region (EL.mv rfl rfl (EL.mv rfl rfl ?_))))));refine EL.call (QBv rfl rfl) rfl (by have key := hc m hm _ hbw; rw [hx, em] at key; exact key) ?_
   rintro e w1 ⟨rfl, hc1⟩
   refine ⟨_, rfl, ?_⟩;replace hbw := bo_ hbw hc1;clear hc1;refine EL.val (ZV rfl) rfl (EL.nil (EX.seq (EC.yes rfl (EC.region (EL.mv rfl rfl ?_)))));refine EL.val (ZM rfl rfl (c := (((a + b) / 2 + 1 : Nat) : Int)) ((IntWalk.i64_in _ ⟨by omega, by omega⟩).trans (by omega))) rfl ?_
   refine EL.as rfl rfl (EL.nil (EX.blk ?_));have hN : ¬ N ≤ m := fun h => by have := hi.2 h; cases this
   refine EX.roundD ((a + b) / 2 + 1, b) ⟨rfl, rfl, trivial⟩ (by repeat first | with_reducible exact .refl _ | refine sp_ rfl ?_ | exact .refl _ | refine sd_ rfl ?_ | refine sn_ ?_) ⟨by simp only; omega, hb, hbn, hbw⟩ (by simp only; omega)
  ·
   rw [hx] at hi;refine EC.seq (EC.seq (EC.region (EL.mv rfl rfl (EL.mv rfl rfl ?_))));refine EL.val (ZO (r := true) rfl rfl (decide_eq_true (by omega))) rfl ?_
   refine EL.nil (EX.seq (EC.yes rfl (EC.skip (EX.seq (EC.block (EC.seq (EC.region (EL.mv rfl rfl (EL.mv rfl rfl ?_)))))))));refine EL.val (ZM rfl rfl (c := ((a + b : Nat) : Int)) ((IntWalk.i64_in _ ⟨by omega, by omega⟩).trans (by omega))) rfl ?_
   refine EL.val (QBt rfl (by rw [IntKind.wrap]; simp [IntKind.bits, IntKind.signed]; omega)) rfl ?_
   refine EL.val (QEF rfl rfl) rfl ?_;refine EL.val (QBu rfl (IntWalk.i64_in _ ⟨by omega, by omega⟩)) rfl ?_
   refine EL.as rfl rfl (EL.nil (EX.seq (EC.seq (EC.region (EL.mv rfl rfl (EL.mv rfl rfl ?_))))));refine EL.call (QBv rfl rfl) rfl (by have key := hc m hm _ hbw; rw [hx, em] at key; exact key) ?_
   rintro e w2 ⟨rfl, hc2⟩
   refine ⟨_, rfl, ?_⟩;replace hbw := bo_ hbw hc2;clear hc2;refine EL.val (ZV rfl) rfl (EL.nil (EX.seq (EC.no rfl (EC.region (EL.mv rfl rfl (EL.as rfl rfl (EL.nil (EX.blk ?_))))))));have hN := hi.1 rfl;refine EX.roundD (a, (a + b) / 2) ⟨rfl, rfl, trivial⟩ (by repeat first | with_reducible exact .refl _ | refine sp_ rfl ?_ | exact .refl _ | refine sd_ rfl ?_ | refine sn_ ?_) ⟨ha, by simp only; omega, by simp only; omega, hbw⟩ (by simp only; omega)
 ·
  obtain rfl : a = N := by omega
  refine EC.seq (EC.seq (EC.region (EL.mv rfl rfl (EL.mv rfl rfl ?_))));refine EL.val (ZO (r := false) rfl rfl (decide_eq_false (by omega))) rfl ?_
  refine EL.nil (EX.seq (EC.no rfl (EC.exit (EX.seq_exit (EX.seq_exit (EX.blk_here (EX.seq (EC.seq (EC.region ?_)))))))));refine EL.mv rfl rfl (EL.as rfl rfl (EL.nil (EX.seq (EC.ret ?_))))
  exact EX.done (res1 rfl rfl) ⟨rfl, hbw⟩
set_option maxRecDepth 100000 in
theorem QFM {h : Hul} (hh : HulOk h) (v hv : Value) (vs : List (Value × Value)) (g : Nat) (w : World) (B : Nat) (hs : RdShip w B g h v hv vs) (hB : B ≤ w.heap.size) (n dn : Int) (hn : 0 ≤ n ∧ n ≤ 80) (hdn : 900 ≤ dn ∧ dn ≤ 1100) :
  Calls Try.prog 82 #[.pointer (some ⟨g, 0, none⟩), .int .i64 n, .int .i64 dn] w fun e w' => e = .returned (.int .i64 (meanN h n dn : Nat)) ∧ Below w.heap.size w w' := by
 have hmb := QGw hh hn.1 hn.2;have hnb := QJ3 hh hn.1 hn.2 hdn.1;have hlm := hh.lim;have hli : limH h = limS h.secs := rfl;have hbd := hh.bds;have hlt := hh.lot;have hbw := Below.refl w.heap.size w;refine EC.enter 35 Try.func82 rfl rfl rfl (EC.seq (EC.region (EL.newP (QJV rfl rfl) rfl ?_)));intro g1 w1 q1 hb1 hg1 hl1;have bhbw_1 := Nat.le_trans hbw.size hg1;replace hbw := bo_ hbw hb1;clear hb1 hg1 hl1;refine EL.as rfl rfl (EL.nil (EX.seq (EC.seq ?_)));have lt_1 := q1.lt;refine EC.regionP [[], [0], [0, 1], [0, 1, 2], [], [4], [4, 5], [4, 5, 6], [4, 5, 6, 7], [], [4, 5, 6, 7, 8, 9], [0, 1, 2, 3, 4, 5, 6, 7, 8, 9, 10], [0, 1, 2, 3, 4, 5, 6, 7, 8, 9, 10, 11], [0, 1, 2, 3, 4, 5, 6, 7, 8, 9, 10, 11, 12]] 13 [] (phi (fun i_ r => match i_ with | 0 => r 0 = .pointer (some ⟨g, 0, none⟩) | 1 => r 1 = .pointer (some ⟨g, 0, none⟩) | 2 => r 2 = .pointer (some ⟨g, 4, none⟩) | 3 => r 3 = .int .i64 (sumS Sec.light h.secs) | 4 => r 4 = .pointer (some ⟨g, 0, none⟩) | 5 => r 5 = .pointer (some ⟨g, 0, none⟩) | 6 => r 6 = .pointer (some ⟨g, 0, none⟩) | 7 => r 7 = .pointer (some ⟨g, 0, none⟩) | 8 => r 8 = .int .i64 h.lot | 9 => r 9 = .int .i64 n | 10 => r 10 = .int .i64 (h.lot * n) | 11 => r 11 = .int .i64 (sumS Sec.light h.secs + h.lot * n) | 12 => r 12 = .int .i64 (QDD h n) | _ => True) []) (by kernel_rfl) rfl rfl (ZY) (fun i_ hi_ => ?_) ?_
 ·match i_, hi_ with
  | 0, _ =>
   intro val w1 a hb ha hd;have ha := ha.s0 (d := 3) rfl
   exact ZB ha rfl rfl (QAU rfl ((q1.below hb q1.lt).at (j := 0) rfl)) rfl rfl
  | 1, _ =>
   intro val w1 a hb ha hd;have e0 : val 0 = _ := hd 0 (ZA.1 rfl);have ha := ha.s1 (d := 9) rfl e0
   exact ZB ha rfl rfl (ZK rfl) rfl rfl
  | 2, _ =>
   intro val w1 a hb ha hd;have e1 : val 1 = _ := hd 1 (ZA.1 rfl);have ha := ha.s1 (d := 10) rfl e1
   exact ZB ha rfl rfl (QDX rfl) rfl rfl
  | 3, _ =>
   intro val w1 a hb ha hd;have e2 : val 2 = _ := hd 2 (ZA.1 rfl);have ha := ha.s1 (d := 11) rfl e2
   exact ZB ha rfl rfl (ld_3 rfl (ZD (hbw.trans (hb.mono hbw.size)) (hs.c (j := 4) rfl))) rfl rfl
  | 4, _ =>
   intro val w1 a hb ha hd;have ha := ha.s0 (d := 3) rfl
   exact ZB ha rfl rfl (QAU rfl ((q1.below hb q1.lt).at (j := 0) rfl)) rfl rfl
  | 5, _ =>
   intro val w1 a hb ha hd;have e4 : val 4 = _ := hd 4 (ZA.1 rfl);have ha := ha.s1 (d := 13) rfl e4
   exact ZB ha rfl rfl (ZK rfl) rfl rfl
  | 6, _ =>
   intro val w1 a hb ha hd;have e5 : val 5 = _ := hd 5 (ZA.1 rfl);have ha := ha.s1 (d := 14) rfl e5
   exact ZB ha rfl rfl (QAu rfl) rfl rfl
  | 7, _ =>
   intro val w1 a hb ha hd;have e6 : val 6 = _ := hd 6 (ZA.1 rfl);have ha := ha.s1 (d := 15) rfl e6
   exact ZB ha rfl rfl (QCl rfl) rfl rfl
  | 8, _ =>
   intro val w1 a hb ha hd;have e7 : val 7 = _ := hd 7 (ZA.1 rfl);have ha := ha.s1 (d := 16) rfl e7
   exact ZB ha rfl rfl (ld_3 rfl (ZD (hbw.trans (hb.mono hbw.size)) (hs.c (j := 0) rfl))) rfl rfl
  | 9, _ =>
   intro val w1 a hb ha hd;have ha := ha.s0 (d := 1) rfl
   exact ZB ha rfl rfl (ZH rfl) rfl rfl
  | 10, _ =>
   intro val w1 a hb ha hd;have e8 : val 8 = _ := hd 8 (ZA.1 rfl);have e9 : val 9 = _ := hd 9 (ZA.1 rfl);have ha := ha.s2 (d := 18) (e := 17) rfl e9 rfl e8
   exact ZB ha rfl rfl (QAc rfl rfl (IntWalk.i64_in _ ⟨by omega, by omega⟩)) rfl rfl
  | 11, _ =>
   intro val w1 a hb ha hd;have e3 : val 3 = _ := hd 3 (ZA.1 rfl);have e10 : val 10 = _ := hd 10 (ZA.1 rfl);have ha := ha.s2 (d := 19) (e := 12) rfl e10 rfl e3
   exact ZB ha rfl rfl (ZM rfl rfl (IntWalk.i64_in _ ⟨by omega, by omega⟩)) rfl rfl
  | 12, _ =>
   intro val w1 a hb ha hd;have e11 : val 11 = _ := hd 11 (ZA.1 rfl);have ha := ha.s1 (d := 20) rfl e11
   exact ZB ha rfl rfl (QAc rfl rfl (IntWalk.i64_in _ ⟨by omega, by omega⟩)) rfl rfl
  | k + 13, h => exact absurd h (by omega)
 ·intro val wR1 hb halc hd
  have e0 : val 0 = _ := hd 0 (by omega)
  have e1 : val 1 = _ := hd 1 (by omega)
  have e2 : val 2 = _ := hd 2 (by omega)
  have e3 : val 3 = _ := hd 3 (by omega)
  have e4 : val 4 = _ := hd 4 (by omega)
  have e5 : val 5 = _ := hd 5 (by omega)
  have e6 : val 6 = _ := hd 6 (by omega)
  have e7 : val 7 = _ := hd 7 (by omega)
  have e8 : val 8 = _ := hd 8 (by omega)
  have e9 : val 9 = _ := hd 9 (by omega)
  have e10 : val 10 = _ := hd 10 (by omega)
  have e11 : val 11 = _ := hd 11 (by omega)
  have e12 : val 12 = _ := hd 12 (by omega)
  refine EL.ends (cs := [_, _, _, _, _, _, _, _, _, _, _, _, _]) ⟨e0, e1, e2, e3, e4, e5, e6, e7, e8, e9, e10, e11, e12, trivial⟩ rfl ?_;replace q1 := q1.bl hb;replace hbw := bo_ hbw hb;clear hb;refine EL.as rfl rfl (EL.nil (EX.seq (EC.seq (EC.region (EL.mv rfl rfl (EL.mv rfl rfl ?_))))));refine EL.val (ZM rfl rfl (IntWalk.i64_in _ ⟨by omega, by omega⟩)) rfl ?_
  refine EL.val (Z4 rfl rfl (IntWalk.i64_in _ ⟨by omega, by omega⟩)) rfl ?_
  refine EL.mv rfl rfl ?_;refine EL.val (QGY rfl rfl (c := QBH h n dn) (by omega) (by rw [QJ2 hmb.2.1 hdn.1]; exact IntWalk.i64_in _ ⟨by omega, by omega⟩)) rfl ?_
  refine EL.newP al_3 rfl ?_;intro g2 w2 q2 hb2 hg2 hl2;have n1_2 := q1.na hg2;have bhbw_2 := Nat.le_trans hbw.size hg2;replace q1 := q1.bl hb2;replace hbw := bo_ hbw hb2;clear hb2 hg2 hl2;refine EL.store rfl rfl q2 sz_3 rfl rfl rfl rfl ?_;intro w3 hq3 hg3;replace q1 := q1.gr hg3 n1_2;replace hbw := ZC hbw hg3 bhbw_2;replace q2 := hq3;clear hg3 hq3;refine EL.nil (EX.seq (EC.seq (EC.region (EL.val (QAU rfl (q1.at (j := 0) rfl)) rfl (EL.val (ZK rfl) rfl (EL.val (Y7 rfl) rfl (EL.val (ld_3 rfl (ZD hbw (hs.c (j := 7) rfl))) rfl ?_)))))));refine EL.val (ZM rfl rfl (c := (((limH h + 1).toNat : Nat) : Int)) ((IntWalk.i64_in _ ⟨by omega, by omega⟩).trans (by omega))) rfl ?_
  refine EL.val (QHn rfl rfl) rfl ?_;refine EL.call (cA2 cF83 rfl rfl) rfl (QJy (limH h + 1).toNat (fun d => decide (QBH h n dn ≤ volH h d)) (up_vol hh _) (by omega) _ _ w3 (fun i hi W hW => QHs hh v hv vs g W B ((hs.below (hbw.mono hB)).below (hW.mono (Nat.le_trans hB hbw.size))) (Nat.le_trans hB (Nat.le_trans hbw.size hW.size)) i (QBH h n dn) (by omega) (by omega) _ _ (q1.below hW q1.lt) (q2.below hW q2.lt))) ?_
  rintro e w4 ⟨rfl, hc4⟩
  refine ⟨_, rfl, ?_⟩;replace q1 := q1.bl hc4;replace q2 := q2.bl hc4;replace hbw := bo_ hbw hc4;clear hc4;refine EL.as rfl rfl (EL.nil (EX.seq (EC.ret ?_)))
  exact EX.done (res1 rfl rfl) ⟨rfl, hbw⟩
section
variable {n : Nat} {σ : Sg} {w : World} {dst : Option Tmp} {ty : TypeId} {pos : String} {af : Array Edge} {g : Option (Nat × Bool)} {x y z : Operand} {at' : Array TypeId}
theorem QEg {b o m c k : Nat} (hx : evS σ x = some (.slice (some ⟨b, o, none⟩) m c)) (hy : evS σ y = some (.int .i64 (k : Int))) (hk : k < m) : ZE Try.prog n σ w ⟨dst, .indexAddr 123 x y, ty, pos, af, g⟩ (.pointer (some ⟨b, o + k * 2, none⟩)) := fun a ha => by
 have k0 : (0 : Int) ≤ (k : Int) := Int.natCast_nonneg _;have k1 : (k : Int) < (m : Int) := by omega
 simp only [execOp, ha.eval hx, ha.eval hy]
 simp [go_sem, k0, k1]
theorem QJS {b o : Nat} (hx : evS σ x = some (.pointer (some ⟨b, o, none⟩))) : ZE Try.prog n σ w ⟨dst, .fieldAddr 127 x 0, ty, pos, af, g⟩ (.pointer (some ⟨b, o, none⟩)) := fun a ha => by
 simp only [execOp, ha.eval hx]
 simp [go_sem]
theorem QCW (a : Act) (_ : Env n σ a) : (execOp a.eval ⟨dst, .alloc 76, ty, pos, af, g⟩).run Try.prog w = .ok (.value (.pointer (some ⟨w.heap.size, 0, none⟩))) (w.alloc (.cells #[.int .i64 0, .int .i64 0, .int .i64 0, .int .i64 0, .int .i64 0] 76)) := by
 simp only [execOp]
 simp [go_sem]
theorem cF81 : cF 81 := fun _ _ => by simp [go_sem]
theorem cF60 : cF 60 := fun _ _ => by simp [go_sem]
theorem cF59 : cF 59 := fun _ _ => by simp [go_sem]
theorem cF82 : cF 82 := fun _ _ => by simp [go_sem]
theorem QEj {b o : Nat} (hx : evS σ x = some (.pointer (some ⟨b, o, none⟩))) : ZE Try.prog n σ w ⟨dst, .fieldAddr 76 x 0, ty, pos, af, g⟩ (.pointer (some ⟨b, o, none⟩)) := fun a ha => by
 simp only [execOp, ha.eval hx]
 simp [go_sem]
theorem Yy {b o : Nat} (hx : evS σ x = some (.pointer (some ⟨b, o, none⟩))) : ZE Try.prog n σ w ⟨dst, .fieldAddr 76 x 1, ty, pos, af, g⟩ (.pointer (some ⟨b, o + 2, none⟩)) := fun a ha => by
 simp only [execOp, ha.eval hx]
 simp [go_sem]
theorem QG8 {b o : Nat} (hx : evS σ x = some (.pointer (some ⟨b, o, none⟩))) : ZE Try.prog n σ w ⟨dst, .fieldAddr 76 x 2, ty, pos, af, g⟩ (.pointer (some ⟨b, o + 4, none⟩)) := fun a ha => by
 simp only [execOp, ha.eval hx]
 simp [go_sem]
theorem QBi {b o : Nat} {v0 v1 v2 v3 v4 : Value} (hx : evS σ x = some (.pointer (some ⟨b, o, none⟩))) (c0 : w.cell? ⟨b, o, none⟩ = some v0) (c1 : w.cell? ⟨b, o + 1, none⟩ = some v1) (c2 : w.cell? ⟨b, o + 2, none⟩ = some v2) (c3 : w.cell? ⟨b, o + 3, none⟩ = some v3) (c4 : w.cell? ⟨b, o + 4, none⟩ = some v4) : ZE Try.prog n σ w ⟨dst, .load 76 x, ty, pos, af, g⟩ (.agg #[v0, v1, v2, v3, v4]) := fun a ha => by
 simp only [execOp, ha.eval hx]
 simp [go_sem, c0, c1, c2, c3, c4]
theorem Yp : (Try.prog.info? 76).map (·.size) = some 5 := by kernel_rfl
theorem QBI {b o : Nat} {v0 v1 v2 v3 v4 : Value} (c0 : w.cell? ⟨b, o, none⟩ = some v0) (c1 : w.cell? ⟨b, o + 1, none⟩ = some v1) (c2 : w.cell? ⟨b, o + 2, none⟩ = some v2) (c3 : w.cell? ⟨b, o + 3, none⟩ = some v3) (c4 : w.cell? ⟨b, o + 4, none⟩ = some v4) : (loadVar 76 ⟨b, o, none⟩).run Try.prog w = .ok (.agg #[v0, v1, v2, v3, v4]) w := by
 simp [go_sem, loadVar, c0, c1, c2, c3, c4]
end
theorem Zy {P : Program} {n : Nat} {σ : Sg} {w : World} {fn : Func} {c s1 : Tmp} {t : TypeId} {p : Addr} {v u1 : Value} (h : fn.results = #[.cell c t, .tmp s1]) (hc : σ c = some (.pointer (some p))) (h1 : σ s1 = some u1) (hl : (loadVar t p).run P w = .ok v w) (a : Act) (ha : Env n σ a) : (results fn a.tmps).run P w = .ok (.tuple #[v, u1]) w := by
 have e1 : a.tmps.getD c undef = .pointer (some p) := ha.eval (x := .tmp c) hc;have e2 : a.tmps.getD s1 undef = u1 := ha.eval (x := .tmp s1) h1;rw [Array.getD_eq_getD_getElem?] at e1 e2
 simp [results, h, e1, e2, asAddr, hl]
theorem QJI {xs : List Hold} {l : List Int} (hL : LoadOk xs l) (v : Value) (w : World) (B : Nat) (hr : Rd w B 1 v l.length (ints l)) (hB : B ≤ w.heap.size) :
  Calls Try.prog 81 #[v] w fun e w' => e = .returned (.int .i64 (sumI l)) ∧ Below w.heap.size w w' := by
 have hmy := hL.many;obtain ⟨A, c, rfl, _⟩ := hr.shape;have hbw := Below.refl w.heap.size w;refine EC.enter 16 Try.func81 rfl rfl rfl (EC.seq (EC.region (EL.as rfl rfl (EL.nil (EX.seq (EC.seq (EC.seq (EC.region (EL.mv rfl rfl ?_)))))))));refine EL.val (QFQ rfl) rfl (EL.mv rfl rfl (EL.nil (EX.seq (EC.block ?_))));refine EC.loopD [2, 4, 7, 8, 9, 10, 11, 12, 13, 14] (fun k : Nat => [(2, .int .i64 (sumI (l.take k))), (7, .int .i64 (k : Nat))]) (fun k W => k ≤ l.length ∧ Below w.heap.size w W) (fun k => l.length - k) 0 ⟨Nat.zero_le _, hbw⟩ ⟨rfl, rfl, trivial⟩ ?_
 clear  hbw
 rintro k wk ⟨hk, hbw⟩
 by_cases hltk : k < l.length
 ·
  obtain ⟨b, o, rfl, _, cc⟩ := Ys l k hltk w B _ _ _ hr;have es := QB4 hltk;have hak := hL.at_ hltk;have hsk := hL.sum k hk;refine EC.seq (EC.region ?_);refine EL.val (ZO rfl rfl (decide_eq_true (show (((k : Nat) : Int) < ((l.length : Nat) : Int)) by omega))) rfl ?_
  refine EL.nil (EX.seq (EC.seq (EC.yes rfl (EC.skip (EX.seq (EC.seq (EC.block (EC.seq (EC.region ?_)))))))));refine EL.val (QD5 rfl rfl hltk) rfl (EL.val (ld_3 rfl (ZD hbw cc)) rfl (EL.as rfl rfl (EL.nil (EX.seq (EC.region (EL.mv rfl rfl (EL.mv rfl rfl ?_)))))));refine EL.val (ZM rfl rfl (IntWalk.i64_in _ ⟨by omega, by omega⟩)) rfl ?_
  refine EL.as rfl rfl (EL.nil (EX.blk (EX.seq (EC.region ?_))));refine EL.val (ZM rfl rfl (c := ((k + 1 : Nat) : Int)) ((IntWalk.i64_in _ ⟨by first | omega | (simp only; omega), by first | omega | (simp only; omega)⟩).trans (by first | omega | (simp only; omega)))) rfl ?_
  refine EL.mv rfl rfl (EL.nil ?_);refine EX.roundD (k + 1) ⟨by rw [es]; rfl, rfl, trivial⟩ (by repeat first | with_reducible exact .refl _ | refine sp_ rfl ?_ | exact .refl _ | refine sd_ rfl ?_ | refine sn_ ?_) ⟨by omega, hbw⟩ (by omega)
 ·
  obtain rfl : k = l.length := by omega
  rw [List.take_length];refine EC.seq (EC.region ?_);refine EL.val (ZO rfl rfl (decide_eq_false (show ¬(((l.length : Nat) : Int) < ((l.length : Nat) : Int)) by omega))) rfl ?_
  refine EL.nil (EX.seq (EC.seq (EC.no rfl (EC.exit (EX.seq_exit (EX.seq_exit (EX.blk_here (EX.seq (EC.seq ?_)))))))));refine EC.region (EL.mv rfl rfl (EL.as rfl rfl (EL.nil (EX.seq (EC.ret ?_)))))
  exact EX.done (res1 rfl rfl) ⟨rfl, hbw⟩
set_option maxRecDepth 100000 in
theorem QDC {h : Hul} (hh : HulOk h) (v hv : Value) (vs : List (Value × Value)) (g : Nat) (w : World) (B : Nat) (hs : RdShip w B g h v hv vs) (hB : B ≤ w.heap.size) {l : List Int} (hL : LoadOk (ZN h) l) (vl : Value) (hr : Rd w B 1 vl l.length (ints l)) :
  Calls Try.prog 60 #[.pointer (some ⟨g, 0, none⟩), vl] w fun e w' => e = .returned (.int .i64 (momT h l)) ∧ Below w.heap.size w w' := by
 have hmy := hL.many;have hle := hL.len;have hbd := hh.bds;have hlt := hh.lot;obtain ⟨A, c, rfl, _⟩ := hr.shape;obtain ⟨Ah, cl, rfl, _⟩ := hs.holds.shape;have hbw := Below.refl w.heap.size w
 unfold momT
 refine EC.enter 39 Try.func60 rfl rfl rfl (EC.seq (EC.region (EL.as rfl rfl (EL.nil (EX.seq (EC.seq (EC.region (EL.mv rfl rfl (EL.val (ZK rfl) rfl ?_)))))))));refine EL.val (QDW rfl) rfl (EL.val (ld_3 rfl (ZD hbw (hs.c (j := 5) rfl))) rfl (EL.as rfl rfl (EL.nil (EX.seq (EC.seq (EC.seq (EC.region (EL.mv rfl rfl (EL.val (QFQ rfl) rfl ?_)))))))));refine EL.mv rfl rfl (EL.nil (EX.seq (EC.block ?_)));refine EC.loopD [5, 6, 7, 14, 15, 16, 17, 18, 19, 20, 21, 22, 23, 24, 25, 26, 27, 28, 29, 30, 31, 32, 33, 34, 35, 36, 37] (fun k : Nat => [(5, .int .i64 (momH h + momL h.lot ((ZN h).take k) (l.take k))), (14, .int .i64 (k : Nat))]) (fun k W => k ≤ l.length ∧ Below w.heap.size w W) (fun k => l.length - k) 0 ⟨Nat.zero_le _, hbw⟩ ⟨by rw [List.take_zero, List.take_zero]; simp only [momL, Int.add_zero]; rfl, rfl, trivial⟩ ?_
 clear  hbw
 rintro k wk ⟨hk, hbw⟩
 by_cases hltk : k < l.length
 ·
  have hka : k < (ZN h).length := by omega
  obtain ⟨b, o, rfl, _, cc⟩ := Ys l k hltk w B _ _ _ hr;obtain ⟨ba, oa, eb_, _, ca⟩ := YV (ZN h) k hka w B _ _ _ hs.holds;subst eb_;have es := QB_ h.lot k (ZN h) l hka hltk;have hmk := hL.mom hh.lot k hk;have hmu := hL.mul hh.lot hltk;have hak := hL.at_ hltk;obtain ⟨x, ex⟩ : ∃ z, z = (ZN h).getD k Z6 := ⟨_, rfl⟩;rw [← ex] at ca es hmu hak;obtain ⟨m, em⟩ : ∃ z, z = l.getD k 0 := ⟨_, rfl⟩;rw [← em] at cc es hmu hak;obtain ⟨q, eq_⟩ : ∃ z, z = momL h.lot ((ZN h).take k) (l.take k) := ⟨_, rfl⟩;rw [← eq_] at es hmk ⊢;refine EC.seq (EC.region ?_);refine EL.val (ZO rfl rfl (decide_eq_true (show (((k : Nat) : Int) < ((l.length : Nat) : Int)) by omega))) rfl ?_
  refine EL.nil (EX.seq (EC.seq (EC.yes rfl (EC.skip (EX.seq (EC.seq (EC.block (EC.seq (EC.region ?_)))))))));refine EL.mv rfl rfl (EL.val (QD5 rfl rfl hltk) rfl (EL.val (ld_3 rfl (ZD hbw cc)) rfl (EL.as rfl rfl (EL.as rfl rfl (EL.nil (EX.seq ?_))))));refine EC.regionP [[], [], [], [2], [2, 3], [2, 3, 4], [2, 3, 4, 5], [1, 2, 3, 4, 5, 6], [], [8], [8, 9], [8, 9, 10], [], [8, 9, 10, 11, 12], [8, 9, 10, 11, 12, 13], [8, 9, 10, 11, 12, 13, 14], [1, 2, 3, 4, 5, 6, 7, 8, 9, 10, 11, 12, 13, 14, 15], [0, 1, 2, 3, 4, 5, 6, 7, 8, 9, 10, 11, 12, 13, 14, 15, 16], [0, 1, 2, 3, 4, 5, 6, 7, 8, 9, 10, 11, 12, 13, 14, 15, 16, 17]] 18 [] (phi (fun i_ r => match i_ with | 0 => r 0 = .int .i64 (momH h + q) | 1 => r 1 = .int .i64 m | 2 => r 2 = .pointer (some ⟨g, 0, none⟩) | 3 => r 3 = .pointer (some ⟨g, 0, none⟩) | 4 => r 4 = .pointer (some ⟨g, 0, none⟩) | 5 => r 5 = .pointer (some ⟨g, 0, none⟩) | 6 => r 6 = .int .i64 h.lot | 7 => r 7 = .int .i64 (m * h.lot) | 8 => r 8 = .pointer (some ⟨g, 0, none⟩) | 9 => r 9 = .pointer (some ⟨g, 0, none⟩) | 10 => r 10 = .pointer (some ⟨g, 2, none⟩) | 11 => r 11 = .slice (some ⟨ba, oa, none⟩) (ZN h).length cl | 12 => r 12 = .int .i64 (k : Nat) | 13 => r 13 = .pointer (some ⟨ba, oa + k * 2, none⟩) | 14 => r 14 = .pointer (some ⟨ba, oa + k * 2, none⟩) | 15 => r 15 = .int .i64 x.pos | 16 => r 16 = .int .i64 ((m * h.lot) * x.pos) | 17 => r 17 = .int .i64 (momH h + q + m * h.lot * x.pos) | _ => True) []) (by kernel_rfl) rfl rfl (ZY) (fun i_ hi_ => ?_) ?_
  ·match i_, hi_ with
   | 0, _ =>
    intro val w1 a hb ha hd;have ha := ha.s0 (d := 5) rfl
    exact ZB ha rfl rfl (ZH rfl) rfl rfl
   | 1, _ =>
    intro val w1 a hb ha hd;have ha := ha.s0 (d := 7) rfl
    exact ZB ha rfl rfl (ZH rfl) rfl rfl
   | 2, _ =>
    intro val w1 a hb ha hd;have ha := ha.s0 (d := 0) rfl
    exact ZB ha rfl rfl (ZH rfl) rfl rfl
   | 3, _ =>
    intro val w1 a hb ha hd;have e2 : val 2 = _ := hd 2 (ZA.1 rfl);have ha := ha.s1 (d := 21) rfl e2
    exact ZB ha rfl rfl (ZK rfl) rfl rfl
   | 4, _ =>
    intro val w1 a hb ha hd;have e3 : val 3 = _ := hd 3 (ZA.1 rfl);have ha := ha.s1 (d := 22) rfl e3
    exact ZB ha rfl rfl (QAu rfl) rfl rfl
   | 5, _ =>
    intro val w1 a hb ha hd;have e4 : val 4 = _ := hd 4 (ZA.1 rfl);have ha := ha.s1 (d := 23) rfl e4
    exact ZB ha rfl rfl (QCl rfl) rfl rfl
   | 6, _ =>
    intro val w1 a hb ha hd;have e5 : val 5 = _ := hd 5 (ZA.1 rfl);have ha := ha.s1 (d := 24) rfl e5
    exact ZB ha rfl rfl (ld_3 rfl (ZD (hbw.trans (hb.mono hbw.size)) (hs.c (j := 0) rfl))) rfl rfl
   | 7, _ =>
    intro val w1 a hb ha hd;have e1 : val 1 = _ := hd 1 (ZA.1 rfl);have e6 : val 6 = _ := hd 6 (ZA.1 rfl);have ha := ha.s2 (d := 25) (e := 20) rfl e6 rfl e1
    exact ZB ha rfl rfl (QAc rfl rfl (IntWalk.i64_in _ ⟨by omega, by omega⟩)) rfl rfl
   | 8, _ =>
    intro val w1 a hb ha hd;have ha := ha.s0 (d := 0) rfl
    exact ZB ha rfl rfl (ZH rfl) rfl rfl
   | 9, _ =>
    intro val w1 a hb ha hd;have e8 : val 8 = _ := hd 8 (ZA.1 rfl);have ha := ha.s1 (d := 27) rfl e8
    exact ZB ha rfl rfl (ZK rfl) rfl rfl
   | 10, _ =>
    intro val w1 a hb ha hd;have e9 : val 9 = _ := hd 9 (ZA.1 rfl);have ha := ha.s1 (d := 28) rfl e9
    exact ZB ha rfl rfl (Y8 rfl) rfl rfl
   | 11, _ =>
    intro val w1 a hb ha hd;have e10 : val 10 = _ := hd 10 (ZA.1 rfl);have ha := ha.s1 (d := 29) rfl e10
    exact ZB ha rfl rfl (QAG rfl (ZD (hbw.trans (hb.mono hbw.size)) (hs.c (j := 2) rfl))) rfl rfl
   | 12, _ =>
    intro val w1 a hb ha hd;have ha := ha.s0 (d := 6) rfl
    exact ZB ha rfl rfl (ZH rfl) rfl rfl
   | 13, _ =>
    intro val w1 a hb ha hd;have e11 : val 11 = _ := hd 11 (ZA.1 rfl);have e12 : val 12 = _ := hd 12 (ZA.1 rfl);have ha := ha.s2 (d := 31) (e := 30) rfl e12 rfl e11
    exact ZB ha rfl rfl (QEg rfl rfl hka) rfl rfl
   | 14, _ =>
    intro val w1 a hb ha hd;have e13 : val 13 = _ := hd 13 (ZA.1 rfl);have ha := ha.s1 (d := 32) rfl e13
    exact ZB ha rfl rfl (QJS rfl) rfl rfl
   | 15, _ =>
    intro val w1 a hb ha hd;have e14 : val 14 = _ := hd 14 (ZA.1 rfl);have ha := ha.s1 (d := 33) rfl e14
    exact ZB ha rfl rfl (ld_3 rfl (ZD (hbw.trans (hb.mono hbw.size)) ca.c0)) rfl rfl
   | 16, _ =>
    intro val w1 a hb ha hd;have e7 : val 7 = _ := hd 7 (ZA.1 rfl);have e15 : val 15 = _ := hd 15 (ZA.1 rfl);have ha := ha.s2 (d := 34) (e := 26) rfl e15 rfl e7
    exact ZB ha rfl rfl (QAc rfl rfl (IntWalk.i64_in _ ⟨by omega, by omega⟩)) rfl rfl
   | 17, _ =>
    intro val w1 a hb ha hd;have e0 : val 0 = _ := hd 0 (ZA.1 rfl);have e16 : val 16 = _ := hd 16 (ZA.1 rfl);have ha := ha.s2 (d := 35) (e := 19) rfl e16 rfl e0
    exact ZB ha rfl rfl (ZM rfl rfl (IntWalk.i64_in _ ⟨by omega, by omega⟩)) rfl rfl
   | k + 18, h => exact absurd h (by omega)
  ·intro val wR5 hb halc hd
   have e0 : val 0 = _ := hd 0 (by omega)
   have e1 : val 1 = _ := hd 1 (by omega)
   have e2 : val 2 = _ := hd 2 (by omega)
   have e3 : val 3 = _ := hd 3 (by omega)
   have e4 : val 4 = _ := hd 4 (by omega)
   have e5 : val 5 = _ := hd 5 (by omega)
   have e6 : val 6 = _ := hd 6 (by omega)
   have e7 : val 7 = _ := hd 7 (by omega)
   have e8 : val 8 = _ := hd 8 (by omega)
   have e9 : val 9 = _ := hd 9 (by omega)
   have e10 : val 10 = _ := hd 10 (by omega)
   have e11 : val 11 = _ := hd 11 (by omega)
   have e12 : val 12 = _ := hd 12 (by omega)
   have e13 : val 13 = _ := hd 13 (by omega)
   have e14 : val 14 = _ := hd 14 (by omega)
   have e15 : val 15 = _ := hd 15 (by omega)
   have e16 : val 16 = _ := hd 16 (by omega)
   have e17 : val 17 = _ := hd 17 (by omega)
   refine EL.ends (cs := [_, _, _, _, _, _, _, _, _, _, _, _, _, _, _, _, _, _]) ⟨e0, e1, e2, e3, e4, e5, e6, e7, e8, e9, e10, e11, e12, e13, e14, e15, e16, e17, trivial⟩ rfl ?_;replace hbw := bo_ hbw hb;clear hb;refine EL.as rfl rfl (EL.nil (EX.blk (EX.seq (EC.region ?_))));refine EL.val (ZM rfl rfl (c := ((k + 1 : Nat) : Int)) ((IntWalk.i64_in _ ⟨by first | omega | (simp only; omega), by first | omega | (simp only; omega)⟩).trans (by first | omega | (simp only; omega)))) rfl ?_
   refine EL.mv rfl rfl (EL.nil ?_);refine EX.roundD (k + 1) ⟨by rw [es, ← Int.add_assoc]; rfl, rfl, trivial⟩ (by repeat first | with_reducible exact .refl _ | refine sp_ rfl ?_ | exact .refl _ | refine sd_ rfl ?_ | refine sn_ ?_) ⟨by omega, hbw⟩ (by omega)
 ·
  obtain rfl : k = l.length := by omega
  rw [show momL h.lot ((ZN h).take l.length) (l.take l.length) = momL h.lot (ZN h) l by rw [List.take_length, hL.len, List.take_length]]
  refine EC.seq (EC.region ?_);refine EL.val (ZO rfl rfl (decide_eq_false (show ¬(((l.length : Nat) : Int) < ((l.length : Nat) : Int)) by omega))) rfl ?_
  refine EL.nil (EX.seq (EC.seq (EC.no rfl (EC.exit (EX.seq_exit (EX.seq_exit (EX.blk_here (EX.seq (EC.seq ?_)))))))));refine EC.region (EL.mv rfl rfl (EL.as rfl rfl (EL.nil (EX.seq (EC.ret ?_)))))
  exact EX.done (res1 rfl rfl) ⟨rfl, hbw⟩
theorem QEy (n : Int) (h1 : -58000000 ≤ n) (h2 : n ≤ 58000000) (w : World) :
  Calls Try.prog 59 #[.int .i64 n] w fun e w' => e = .returned (.int .i64 (absI n)) ∧ Below w.heap.size w w' := by
 have hbw := Below.refl w.heap.size w;refine EC.enter 7 Try.func59 rfl rfl rfl (EC.seq (EC.region (EL.as rfl rfl (EL.nil (EX.seq (EC.seq (EC.region (EL.mv rfl rfl (EL.mv rfl rfl ?_)))))))));refine EL.val (QLV rfl (by first | assumption | exact IntWalk.i64_in _ ⟨by omega, by omega⟩)) rfl ?_
 refine EL.val (QAn rfl rfl rfl) rfl (EL.as rfl rfl (EL.nil (EX.seq (EC.ret ?_))))
 exact EX.done (res1 rfl rfl) ⟨rfl, hbw⟩
set_option maxRecDepth 100000 in
theorem QBC {h : Hul} (hh : HulOk h) (v hv : Value) (vs : List (Value × Value)) (g : Nat) (w : World) (B : Nat) (hs : RdShip w B g h v hv vs) (hB : B ≤ w.heap.size) {l : List Int} (hL : LoadOk (ZN h) l) (d : Bd) (hd : denB d = true) (vl : Value) (hr : Rd w B 1 vl l.length (ints l)) :
  Calls Try.prog 58 #[.pointer (some ⟨g, 0, none⟩), vl, .agg #[.int .i64 d.lo, .int .i64 d.hi]] w fun e w' => e = .returned (.tuple #[.agg #[.int .i64 (fltT h l d).mean.lo, .int .i64 (fltT h l d).mean.hi, .int .i64 (fltT h l d).deep.lo, .int .i64 (fltT h l d).deep.hi, .int .i64 (fltT h l d).head], .bool (Yf h l d)]) ∧ Below w.heap.size w w' := by
 have hsa := hL.sumAll;have hmt := QA7 hh hL;have hab := QJm hmt.1 hmt.2;have htb := QEM hh hL;have hbd := hh.bds;have hlim := hh.lim;have hdd := bdOk_iff.1 (show bdOk 900 1100 d = true from hd);have hm1 := QEX h (sumI l) d.hi;have hm2 := QEX h (sumI l) d.lo;have hli : limH h = limS h.secs := rfl;have hbw := Below.refl w.heap.size w;refine EC.enter 72 Try.func58 rfl rfl rfl (EC.seq (EC.region (EL.newP (QBx rfl) rfl ?_)));intro g1 w1 q1 hb1 hg1 hl1;have bhbw_1 := Nat.le_trans hbw.size hg1;replace hbw := bo_ hbw hb1;clear hb1 hg1 hl1;refine EL.newP QCW rfl ?_;intro g2 w2 q2 hb2 hg2 hl2;have n1_2 := q1.na hg2;have bhbw_2 := Nat.le_trans hbw.size hg2;replace q1 := q1.bl hb2;replace hbw := bo_ hbw hb2;clear hb2 hg2 hl2;refine EL.as rfl rfl (EL.nil (EX.seq (EC.seq (EC.region (EL.mv rfl rfl (EL.call (cA1 cF81 rfl) rfl (QJI hL _ _ B (hr.below (hbw.mono hB)) (Nat.le_trans hB hbw.size)) ?_))))))
 rintro e w3 ⟨rfl, hc3⟩
 refine ⟨_, rfl, ?_⟩;replace q1 := q1.bl hc3;replace q2 := q2.bl hc3;replace hbw := bo_ hbw hc3;clear hc3;refine EL.mv rfl rfl (EL.mv rfl rfl (EL.call (cA2 cF60 rfl rfl) rfl (QDC hh v hv vs g _ B (hs.below (hbw.mono hB)) (Nat.le_trans hB hbw.size) hL _ (hr.below (hbw.mono hB))) ?_))
 rintro e w4 ⟨rfl, hc4⟩
 refine ⟨_, rfl, ?_⟩;replace q1 := q1.bl hc4;replace q2 := q2.bl hc4;replace hbw := bo_ hbw hc4;clear hc4;refine EL.as rfl rfl (EL.as rfl rfl (EL.nil (EX.seq (EC.seq ?_))));have lt_1 := q1.lt;have lt_2 := q2.lt;refine EC.regionP [[], [0], [], [2], [2, 3], [2, 3, 4], [2, 3, 4, 5], [0, 1, 2, 3, 4, 5, 6], [0, 1, 2, 3, 4, 5, 6, 7], [], [9], [9, 10], [9, 10, 11], [9, 10, 11, 12], [0, 1, 2, 3, 4, 5, 6, 7, 8, 9, 10, 11, 12, 13], [0, 1, 2, 3, 4, 5, 6, 7, 8, 9, 10, 11, 12, 13, 14]] 15 [] (phi (fun i_ r => match i_ with | 0 => r 0 = .int .i64 (momT h l) | 1 => r 1 = .int .i64 (absI (momT h l)) | 2 => r 2 = .pointer (some ⟨g, 0, none⟩) | 3 => r 3 = .pointer (some ⟨g, 0, none⟩) | 4 => r 4 = .pointer (some ⟨g, 6, none⟩) | 5 => r 5 = .int .i64 (sumS Sec.trim h.secs) | 6 => r 6 = .int .i64 (4 * sumS Sec.trim h.secs) | 7 => r 7 = .int .i64 (absI (momT h l) + 4 * sumS Sec.trim h.secs) | 8 => r 8 = .int .i64 (absI (momT h l) + 4 * sumS Sec.trim h.secs - 1) | 9 => r 9 = .pointer (some ⟨g, 0, none⟩) | 10 => r 10 = .pointer (some ⟨g, 0, none⟩) | 11 => r 11 = .pointer (some ⟨g, 6, none⟩) | 12 => r 12 = .int .i64 (sumS Sec.trim h.secs) | 13 => r 13 = .int .i64 (4 * sumS Sec.trim h.secs) | 14 => r 14 = .int .i64 (Zm h l) | _ => True) []) (by kernel_rfl) rfl rfl (ZY) (fun i_ hi_ => ?_) ?_
 ·match i_, hi_ with
  | 0, _ =>
   intro val w1 a hb ha hd;have ha := ha.s0 (d := 9) rfl
   exact ZB ha rfl rfl (ZH rfl) rfl rfl
  | 1, _ =>
   intro val w1 a hb ha hd;have e0 : val 0 = _ := hd 0 (ZA.1 rfl);have ha := ha.s1 (d := 16) rfl e0;refine Zf ha rfl rfl (cA1 cF59 rfl) (QEy _ hmt.1 hmt.2 _) rfl ?_
   rintro e w' ⟨rfl, hb'⟩
   exact ⟨_, rfl, hb', rfl⟩
  | 2, _ =>
   intro val w1 a hb ha hd;have ha := ha.s0 (d := 0) rfl
   exact ZB ha rfl rfl (ZH rfl) rfl rfl
  | 3, _ =>
   intro val w1 a hb ha hd;have e2 : val 2 = _ := hd 2 (ZA.1 rfl);have ha := ha.s1 (d := 18) rfl e2
   exact ZB ha rfl rfl (ZK rfl) rfl rfl
  | 4, _ =>
   intro val w1 a hb ha hd;have e3 : val 3 = _ := hd 3 (ZA.1 rfl);have ha := ha.s1 (d := 19) rfl e3
   exact ZB ha rfl rfl (QBs rfl) rfl rfl
  | 5, _ =>
   intro val w1 a hb ha hd;have e4 : val 4 = _ := hd 4 (ZA.1 rfl);have ha := ha.s1 (d := 20) rfl e4
   exact ZB ha rfl rfl (ld_3 rfl (ZD (hbw.trans (hb.mono hbw.size)) (hs.c (j := 6) rfl))) rfl rfl
  | 6, _ =>
   intro val w1 a hb ha hd;have e5 : val 5 = _ := hd 5 (ZA.1 rfl);have ha := ha.s1 (d := 21) rfl e5
   exact ZB ha rfl rfl (QAc rfl rfl (IntWalk.i64_in _ ⟨by omega, by omega⟩)) rfl rfl
  | 7, _ =>
   intro val w1 a hb ha hd;have e1 : val 1 = _ := hd 1 (ZA.1 rfl);have e6 : val 6 = _ := hd 6 (ZA.1 rfl);have ha := ha.s2 (d := 22) (e := 17) rfl e6 rfl e1
   exact ZB ha rfl rfl (ZM rfl rfl (IntWalk.i64_in _ ⟨by omega, by omega⟩)) rfl rfl
  | 8, _ =>
   intro val w1 a hb ha hd;have e7 : val 7 = _ := hd 7 (ZA.1 rfl);have ha := ha.s1 (d := 23) rfl e7
   exact ZB ha rfl rfl (Z4 rfl rfl (IntWalk.i64_in _ ⟨by omega, by omega⟩)) rfl rfl
  | 9, _ =>
   intro val w1 a hb ha hd;have ha := ha.s0 (d := 0) rfl
   exact ZB ha rfl rfl (ZH rfl) rfl rfl
  | 10, _ =>
   intro val w1 a hb ha hd;have e9 : val 9 = _ := hd 9 (ZA.1 rfl);have ha := ha.s1 (d := 25) rfl e9
   exact ZB ha rfl rfl (ZK rfl) rfl rfl
  | 11, _ =>
   intro val w1 a hb ha hd;have e10 : val 10 = _ := hd 10 (ZA.1 rfl);have ha := ha.s1 (d := 26) rfl e10
   exact ZB ha rfl rfl (QBs rfl) rfl rfl
  | 12, _ =>
   intro val w1 a hb ha hd;have e11 : val 11 = _ := hd 11 (ZA.1 rfl);have ha := ha.s1 (d := 27) rfl e11
   exact ZB ha rfl rfl (ld_3 rfl (ZD (hbw.trans (hb.mono hbw.size)) (hs.c (j := 6) rfl))) rfl rfl
  | 13, _ =>
   intro val w1 a hb ha hd;have e12 : val 12 = _ := hd 12 (ZA.1 rfl);have ha := ha.s1 (d := 28) rfl e12
   exact ZB ha rfl rfl (QAc rfl rfl (IntWalk.i64_in _ ⟨by omega, by omega⟩)) rfl rfl
  | 14, _ =>
   intro val w1 a hb ha hd;have e8 : val 8 = _ := hd 8 (ZA.1 rfl);have e13 : val 13 = _ := hd 13 (ZA.1 rfl);have ha := ha.s2 (d := 29) (e := 24) rfl e13 rfl e8
   exact ZB ha rfl rfl (QGY rfl rfl (c := Zm h l) (by omega) (by rw [QJt hh hab.1]; exact IntWalk.i64_in _ ⟨by omega, by omega⟩)) rfl rfl
  | k + 15, h => exact absurd h (by omega)
 ·intro val wR2 hb halc hd
  have e0 : val 0 = _ := hd 0 (by omega)
  have e1 : val 1 = _ := hd 1 (by omega)
  have e2 : val 2 = _ := hd 2 (by omega)
  have e3 : val 3 = _ := hd 3 (by omega)
  have e4 : val 4 = _ := hd 4 (by omega)
  have e5 : val 5 = _ := hd 5 (by omega)
  have e6 : val 6 = _ := hd 6 (by omega)
  have e7 : val 7 = _ := hd 7 (by omega)
  have e8 : val 8 = _ := hd 8 (by omega)
  have e9 : val 9 = _ := hd 9 (by omega)
  have e10 : val 10 = _ := hd 10 (by omega)
  have e11 : val 11 = _ := hd 11 (by omega)
  have e12 : val 12 = _ := hd 12 (by omega)
  have e13 : val 13 = _ := hd 13 (by omega)
  have e14 : val 14 = _ := hd 14 (by omega)
  refine EL.ends (cs := [_, _, _, _, _, _, _, _, _, _, _, _, _, _, _]) ⟨e0, e1, e2, e3, e4, e5, e6, e7, e8, e9, e10, e11, e12, e13, e14, trivial⟩ rfl ?_;replace q1 := q1.bl hb;replace q2 := q2.bl hb;replace hbw := bo_ hbw hb;clear hb;refine EL.as rfl rfl (EL.nil (EX.seq (EC.seq ?_)));have lt_1 := q1.lt;have lt_2 := q2.lt;refine EC.regionP [[], [], [], [2], [0, 1, 2, 3], [], [], [], [7], [0, 1, 2, 3, 4, 5, 6, 7, 8], [0, 1, 2, 3, 4, 5, 6, 7, 8, 9], [0, 1, 2, 3, 4, 5, 6, 7, 8, 9, 10], [0, 1, 2, 3, 4, 5, 6, 7, 8, 9, 10, 11]] 11 [] (phi (fun i_ r => match i_ with | 0 => r 0 = .pointer (some ⟨g, 0, none⟩) | 1 => r 1 = .int .i64 (sumI l) | 2 => r 2 = .pointer (some ⟨g1, 1, none⟩) | 3 => r 3 = .int .i64 d.hi | 4 => r 4 = .int .i64 (meanN h (sumI l) d.hi : Nat) | 5 => r 5 = .pointer (some ⟨g, 0, none⟩) | 6 => r 6 = .int .i64 (sumI l) | 7 => r 7 = .pointer (some ⟨g1, 0, none⟩) | 8 => r 8 = .int .i64 d.lo | 9 => r 9 = .int .i64 (meanN h (sumI l) d.lo : Nat) | 10 => r 10 = .agg #[.int .i64 (meanN h (sumI l) d.hi : Nat), .int .i64 (meanN h (sumI l) d.lo : Nat)] | _ => True) []) (by kernel_rfl) rfl rfl (ZY) (fun i_ hi_ => ?_) ?_
  ·match i_, hi_ with
   | 0, _ =>
    intro val w1 a hb ha hd;have ha := ha.s0 (d := 0) rfl
    exact ZB ha rfl rfl (ZH rfl) rfl rfl
   | 1, _ =>
    intro val w1 a hb ha hd;have ha := ha.s0 (d := 8) rfl
    exact ZB ha rfl rfl (ZH rfl) rfl rfl
   | 2, _ =>
    intro val w1 a hb ha hd;have ha := ha.s0 (d := 5) rfl
    exact ZB ha rfl rfl (ZR rfl) rfl rfl
   | 3, _ =>
    intro val w1 a hb ha hd;have e2 : val 2 = _ := hd 2 (ZA.1 rfl);have ha := ha.s1 (d := 33) rfl e2
    exact ZB ha rfl rfl (ld_3 rfl ((q1.below hb q1.lt).at (j := 1) rfl)) rfl rfl
   | 4, _ =>
    intro val w1 a hb ha hd;have e0 : val 0 = _ := hd 0 (ZA.1 rfl);have e1 : val 1 = _ := hd 1 (ZA.1 rfl);have e3 : val 3 = _ := hd 3 (ZA.1 rfl);have ha := ha.sub (Sub.ins (d := 34) (Sub.ins (d := 32) (Sub.ins (d := 31) (Sub.nil _) (ZI rfl e0)) (ZI rfl e1)) (ZI rfl e3));refine Zf ha rfl rfl (cA3 cF82 rfl rfl rfl) (QFM hh v hv vs g _ B ((hs.below (hbw.mono hB)).below (hb.mono (Nat.le_trans hB hbw.size))) (Nat.le_trans hB (Nat.le_trans hbw.size hb.size)) (sumI l) d.hi hsa (by omega)) rfl ?_
    rintro e w' ⟨rfl, hb'⟩
    exact ⟨_, rfl, hb', rfl⟩
   | 5, _ =>
    intro val w1 a hb ha hd;have ha := ha.s0 (d := 0) rfl
    exact ZB ha rfl rfl (ZH rfl) rfl rfl
   | 6, _ =>
    intro val w1 a hb ha hd;have ha := ha.s0 (d := 8) rfl
    exact ZB ha rfl rfl (ZH rfl) rfl rfl
   | 7, _ =>
    intro val w1 a hb ha hd;have ha := ha.s0 (d := 5) rfl
    exact ZB ha rfl rfl (ZS rfl) rfl rfl
   | 8, _ =>
    intro val w1 a hb ha hd;have e7 : val 7 = _ := hd 7 (ZA.1 rfl);have ha := ha.s1 (d := 38) rfl e7
    exact ZB ha rfl rfl (ld_3 rfl ((q1.below hb q1.lt).at (j := 0) rfl)) rfl rfl
   | 9, _ =>
    intro val w1 a hb ha hd;have e5 : val 5 = _ := hd 5 (ZA.1 rfl);have e6 : val 6 = _ := hd 6 (ZA.1 rfl);have e8 : val 8 = _ := hd 8 (ZA.1 rfl);have ha := ha.sub (Sub.ins (d := 39) (Sub.ins (d := 37) (Sub.ins (d := 36) (Sub.nil _) (ZI rfl e5)) (ZI rfl e6)) (ZI rfl e8));refine Zf ha rfl rfl (cA3 cF82 rfl rfl rfl) (QFM hh v hv vs g _ B ((hs.below (hbw.mono hB)).below (hb.mono (Nat.le_trans hB hbw.size))) (Nat.le_trans hB (Nat.le_trans hbw.size hb.size)) (sumI l) d.lo hsa (by omega)) rfl ?_
    rintro e w' ⟨rfl, hb'⟩
    exact ⟨_, rfl, hb', rfl⟩
   | 10, _ =>
    intro val w1 a hb ha hd;have e4 : val 4 = _ := hd 4 (ZA.1 rfl);have e9 : val 9 = _ := hd 9 (ZA.1 rfl);have ha := ha.s2 (d := 40) (e := 35) rfl e9 rfl e4
    exact ZB ha rfl rfl (Zu rfl rfl) rfl rfl
   | k + 11, h => exact absurd h (by omega)
  ·intro val wR3 hb halc hd
   have e0 : val 0 = _ := hd 0 (by omega)
   have e1 : val 1 = _ := hd 1 (by omega)
   have e2 : val 2 = _ := hd 2 (by omega)
   have e3 : val 3 = _ := hd 3 (by omega)
   have e4 : val 4 = _ := hd 4 (by omega)
   have e5 : val 5 = _ := hd 5 (by omega)
   have e6 : val 6 = _ := hd 6 (by omega)
   have e7 : val 7 = _ := hd 7 (by omega)
   have e8 : val 8 = _ := hd 8 (by omega)
   have e9 : val 9 = _ := hd 9 (by omega)
   have e10 : val 10 = _ := hd 10 (by omega)
   refine EL.ends (cs := [_, _, _, _, _, _, _, _, _, _, _]) ⟨e0, e1, e2, e3, e4, e5, e6, e7, e8, e9, e10, trivial⟩ rfl ?_;replace q1 := q1.bl hb;replace q2 := q2.bl hb;replace hbw := bo_ hbw hb;clear hb;refine EL.val (QEj rfl) rfl (EL.store rfl rfl q2 Z7 rfl rfl rfl rfl ?_);intro w5 hq5 hg5;replace q1 := q1.gr hg5 n1_2;replace hbw := ZC hbw hg5 bhbw_2;replace q2 := hq5;clear hg5 hq5;refine EL.nil (EX.seq (EC.seq (EC.region (EL.val (QEj rfl) rfl (EL.val (ZS rfl) rfl (EL.val (ld_3 rfl (q2.at (j := 0) rfl)) rfl (EL.mv rfl rfl ?_)))))));refine EL.val (ZM rfl rfl (IntWalk.i64_in _ ⟨by omega, by omega⟩)) rfl ?_
   refine EL.val (QEj rfl) rfl (EL.val (ZR rfl) rfl (EL.val (ld_3 rfl (q2.at (j := 1) rfl)) rfl (EL.mv rfl rfl ?_)));refine EL.val (ZM rfl rfl (IntWalk.i64_in _ ⟨by omega, by omega⟩)) rfl ?_
   refine EL.val (Zu rfl rfl) rfl (EL.val (Yy rfl) rfl (EL.store rfl rfl q2 Z7 rfl rfl rfl rfl ?_));intro w6 hq6 hg6;replace q1 := q1.gr hg6 n1_2;replace hbw := ZC hbw hg6 bhbw_2;replace q2 := hq6;clear hg6 hq6;refine EL.nil (EX.seq (EC.seq (EC.block (EC.seq (EC.region (EL.mv rfl rfl ?_))))))
   by_cases hneg : momT h l < 0
   ·
    have hhd : Yt (momT h l) = -1 := if_pos hneg;refine EL.val (ZO (r := true) rfl rfl (decide_eq_true hneg)) rfl (EL.as rfl rfl (EL.nil (EX.seq (EC.yes rfl (EC.region (EL.val (QG8 rfl) rfl (EL.store rfl rfl q2 sz_3 rfl rfl rfl rfl ?_)))))));intro w7 hq7 hg7;replace q1 := q1.gr hg7 n1_2;replace hbw := ZC hbw hg7 bhbw_2;replace q2 := hq7;clear hg7 hq7;refine EL.nil (EX.blk (EX.seq (EC.seq ?_)));have qf : Blk w7 g2 76 #[.int .i64 ((meanN h (sumI l) d.hi : Nat) : Int), .int .i64 ((meanN h (sumI l) d.lo : Nat) : Int), .int .i64 (((meanN h (sumI l) d.hi : Nat) : Int) + Zm h l), .int .i64 (((meanN h (sumI l) d.lo : Nat) : Int) + Zm h l), .int .i64 (Yt (momT h l))] := by rw [hhd]; exact q2
    clear q2;have lt_1 := q1.lt;have lt_2 := qf.lt;refine EC.regionS [[], [], [1], [1, 2], [], [4], [4, 5], [4, 5, 6], [1, 2, 3, 4, 5, 6, 7], [0, 1, 2, 3], [0, 1, 2, 3, 4, 5, 6, 7, 8, 9]] 10 [] [9] (fun fl w_ => w7.grownBy w_ (some g2) ∧ (fl 9 = false → Blk w_ g2 76 _)) (phiS (fun i_ r => match i_ with | 0 => r 0 = .agg #[.int .i64 ((meanN h (sumI l) d.hi : Nat) : Int), .int .i64 ((meanN h (sumI l) d.lo : Nat) : Int), .int .i64 (((meanN h (sumI l) d.hi : Nat) : Int) + Zm h l), .int .i64 (((meanN h (sumI l) d.lo : Nat) : Int) + Zm h l), .int .i64 (Yt (momT h l))] | 1 => r 1 = .pointer (some ⟨g2, 2, none⟩) | 2 => r 2 = .pointer (some ⟨g2, 2 + 1, none⟩) | 3 => r 3 = .int .i64 (((meanN h (sumI l) d.lo : Nat) : Int) + Zm h l) | 4 => r 4 = .pointer (some ⟨g, 0, none⟩) | 5 => r 5 = .pointer (some ⟨g, 0, none⟩) | 6 => r 6 = .pointer (some ⟨g, 7, none⟩) | 7 => r 7 = .int .i64 (limH h) | 8 => r 8 = .bool (Yf h l d) | _ => True) [(9, fun _ r w_ => Blk w_ g2 76 #[.int .i64 ((meanN h (sumI l) d.hi : Nat) : Int), .int .i64 ((meanN h (sumI l) d.lo : Nat) : Int), .int .i64 (((meanN h (sumI l) d.hi : Nat) : Int) + Zm h l), .int .i64 (((meanN h (sumI l) d.lo : Nat) : Int) + Zm h l), .int .i64 (Yt (momT h l))])]) (by kernel_rfl) rfl rfl (by intro i hi; simp at hi; first | (subst hi; exact ⟨by simp, by omega⟩) | (rcases hi with rfl | rfl | rfl <;> exact ⟨by simp, by omega⟩) | (rcases hi with rfl | rfl <;> exact ⟨by simp, by omega⟩)) (QB0 qf) (ZU Y0 (YZ)) (fun i_ hi_ hs_ => ?_) (fun i_ hi_ => ?_) ?_
    ·match i_, hi_ with
     | 0, _ =>
      intro val fl w1 a hb ha hd hfl;obtain ⟨hb, hg0⟩ := hb;have ha := ha.s0 (d := 6) rfl
      exact ZJ ha rfl rfl (QBi rfl ((hg0 (hfl 9 (by simp) (ZA.1 rfl))).at (j := 0) rfl) ((hg0 (hfl 9 (by simp) (ZA.1 rfl))).at (j := 1) rfl) ((hg0 (hfl 9 (by simp) (ZA.1 rfl))).at (j := 2) rfl) ((hg0 (hfl 9 (by simp) (ZA.1 rfl))).at (j := 3) rfl) ((hg0 (hfl 9 (by simp) (ZA.1 rfl))).at (j := 4) rfl)) rfl rfl
     | 1, _ =>
      intro val fl w1 a hb ha hd hfl;obtain ⟨hb, hg0⟩ := hb;have ha := ha.s0 (d := 6) rfl
      exact ZJ ha rfl rfl (Yy rfl) rfl rfl
     | 2, _ =>
      intro val fl w1 a hb ha hd hfl;obtain ⟨hb, hg0⟩ := hb;have e1 : val 1 = _ := hd 1 (ZA.1 rfl);have ha := ha.s1 (d := 64) rfl e1
      exact ZJ ha rfl rfl (ZR rfl) rfl rfl
     | 3, _ =>
      intro val fl w1 a hb ha hd hfl;obtain ⟨hb, hg0⟩ := hb;have e2 : val 2 = _ := hd 2 (ZA.1 rfl);have ha := ha.s1 (d := 65) rfl e2
      exact ZJ ha rfl rfl (ld_3 rfl ((hg0 (hfl 9 (by simp) (ZA.1 rfl))).at (j := 3) rfl)) rfl rfl
     | 4, _ =>
      intro val fl w1 a hb ha hd hfl;obtain ⟨hb, hg0⟩ := hb;have ha := ha.s0 (d := 0) rfl
      exact ZJ ha rfl rfl (ZH rfl) rfl rfl
     | 5, _ =>
      intro val fl w1 a hb ha hd hfl;obtain ⟨hb, hg0⟩ := hb;have e4 : val 4 = _ := hd 4 (ZA.1 rfl);have ha := ha.s1 (d := 67) rfl e4
      exact ZJ ha rfl rfl (ZK rfl) rfl rfl
     | 6, _ =>
      intro val fl w1 a hb ha hd hfl;obtain ⟨hb, hg0⟩ := hb;have e5 : val 5 = _ := hd 5 (ZA.1 rfl);have ha := ha.s1 (d := 68) rfl e5
      exact ZJ ha rfl rfl (Y7 rfl) rfl rfl
     | 7, _ =>
      intro val fl w1 a hb ha hd hfl;obtain ⟨hb, hg0⟩ := hb;have e6 : val 6 = _ := hd 6 (ZA.1 rfl);have ha := ha.s1 (d := 69) rfl e6
      exact ZJ ha rfl rfl (ld_3 rfl (ZD (ZC hbw hb bhbw_2) (hs.c (j := 7) rfl))) rfl rfl
     | 8, _ =>
      intro val fl w1 a hb ha hd hfl;obtain ⟨hb, hg0⟩ := hb;have e3 : val 3 = _ := hd 3 (ZA.1 rfl);have e7 : val 7 = _ := hd 7 (ZA.1 rfl);have ha := ha.s2 (d := 70) (e := 66) rfl e7 rfl e3
      exact ZJ ha rfl rfl (QAa rfl rfl rfl) rfl rfl
     | 9, _ =>
      exact absurd (by simp) hs_
     | k + 10, h => exact absurd h (by omega)
    ·simp only [List.mem_singleton] at hi_; subst hi_
     intro val fl w1 a hb hfi ha hd hfl;obtain ⟨hb, hg0⟩ := hb;have e0 : val 0 = _ := hd 0 (ZA.1 rfl);have ha := ha.sub (Sub.ins (d := 63) (Sub.ins (d := 6) (Sub.nil _) rfl) (ZI rfl e0));refine YD ha rfl rfl rfl (hg0 hfi) Yp rfl rfl rfl rfl ?_;intro w' hq hgr;refine ⟨undef, rfl, hgr.size, ⟨QAL hb hgr, fun h => by rw [Zs] at h; cases h⟩, hq, fun j _ hj hn hA => ?_⟩
     exact ZG (C := fun j => j ≠ 9 ∧ 9 ∉ clsAt [[], [], [1], [1, 2], [], [4], [4, 5], [4, 5, 6], [1, 2, 3, 4, 5, 6, 7], [0, 1, 2, 3], [0, 1, 2, 3, 4, 5, 6, 7, 8, 9]] j ∧ ∀ p ∈ [], (p = j ∨ p ∈ clsAt [[], [], [1], [1, 2], [], [4], [4, 5], [4, 5, 6], [1, 2, 3, 4, 5, 6, 7], [0, 1, 2, 3], [0, 1, 2, 3, 4, 5, 6, 7, 8, 9]] j) → ∀ q ∈ [], (q = 9 ∨ q ∈ clsAt [[], [], [1], [1, 2], [], [4], [4, 5], [4, 5, 6], [1, 2, 3, 4, 5, 6, 7], [0, 1, 2, 3], [0, 1, 2, 3, 4, 5, 6, 7, 8, 9]] 9) → p ≠ q → val p ≠ val q) (fun hc => absurd rfl hc.1) (fun _ _ h => h) j ⟨hj, hn, hA⟩
    ·intro val fl wR9 hfl hb halc hd
     obtain ⟨hb, _⟩ := hb;have e0 : val 0 = _ := hd 0 (by omega)
     have e1 : val 1 = _ := hd 1 (by omega)
     have e2 : val 2 = _ := hd 2 (by omega)
     have e3 : val 3 = _ := hd 3 (by omega)
     have e4 : val 4 = _ := hd 4 (by omega)
     have e5 : val 5 = _ := hd 5 (by omega)
     have e6 : val 6 = _ := hd 6 (by omega)
     have e7 : val 7 = _ := hd 7 (by omega)
     have e8 : val 8 = _ := hd 8 (by omega)
     refine EL.ends (cs := [_, _, _, _, _, _, _, _, _, val 9]) ⟨e0, e1, e2, e3, e4, e5, e6, e7, e8, rfl, trivial⟩ rfl ?_;replace q1 := q1.gr hb n1_2;have qf : Blk wR9 g2 76 #[.int .i64 ((meanN h (sumI l) d.hi : Nat) : Int), .int .i64 ((meanN h (sumI l) d.lo : Nat) : Int), .int .i64 (((meanN h (sumI l) d.hi : Nat) : Int) + Zm h l), .int .i64 (((meanN h (sumI l) d.lo : Nat) : Int) + Zm h l), .int .i64 (Yt (momT h l))] := hd 9 (by omega)
     replace hbw := ZC hbw hb bhbw_2;refine EL.as rfl rfl (EL.nil (EX.seq (EC.ret ?_)))
     exact EX.done (Zy rfl rfl rfl (QBI (qf.at (j := 0) rfl) (qf.at (j := 1) rfl) (qf.at (j := 2) rfl) (qf.at (j := 3) rfl) (qf.at (j := 4) rfl))) ⟨rfl, hbw⟩
   ·
    refine EL.val (ZO (r := false) rfl rfl (decide_eq_false hneg)) rfl (EL.as rfl rfl (EL.nil (EX.seq (EC.no rfl (EC.seq (EC.region (EL.mv rfl rfl ?_)))))))
    by_cases hpos : 0 < momT h l
    ·
     have hhd : Yt (momT h l) = 1 := (if_neg hneg).trans (if_pos hpos);refine EL.val (YP (r := true) rfl rfl (decide_eq_true hpos)) rfl (EL.as rfl rfl (EL.nil (EX.seq (EC.yes rfl (EC.region (EL.val (QG8 rfl) rfl (EL.store rfl rfl q2 sz_3 rfl rfl rfl rfl ?_)))))));intro w8 hq8 hg8;replace q1 := q1.gr hg8 n1_2;replace hbw := ZC hbw hg8 bhbw_2;replace q2 := hq8;clear hg8 hq8;refine EL.nil (EX.blk (EX.seq (EC.seq ?_)));have qf : Blk w8 g2 76 #[.int .i64 ((meanN h (sumI l) d.hi : Nat) : Int), .int .i64 ((meanN h (sumI l) d.lo : Nat) : Int), .int .i64 (((meanN h (sumI l) d.hi : Nat) : Int) + Zm h l), .int .i64 (((meanN h (sumI l) d.lo : Nat) : Int) + Zm h l), .int .i64 (Yt (momT h l))] := by rw [hhd]; exact q2
     clear q2;have lt_1 := q1.lt;have lt_2 := qf.lt;refine EC.regionS [[], [], [1], [1, 2], [], [4], [4, 5], [4, 5, 6], [1, 2, 3, 4, 5, 6, 7], [0, 1, 2, 3], [0, 1, 2, 3, 4, 5, 6, 7, 8, 9]] 10 [] [9] (fun fl w_ => w8.grownBy w_ (some g2) ∧ (fl 9 = false → Blk w_ g2 76 _)) (phiS (fun i_ r => match i_ with | 0 => r 0 = .agg #[.int .i64 ((meanN h (sumI l) d.hi : Nat) : Int), .int .i64 ((meanN h (sumI l) d.lo : Nat) : Int), .int .i64 (((meanN h (sumI l) d.hi : Nat) : Int) + Zm h l), .int .i64 (((meanN h (sumI l) d.lo : Nat) : Int) + Zm h l), .int .i64 (Yt (momT h l))] | 1 => r 1 = .pointer (some ⟨g2, 2, none⟩) | 2 => r 2 = .pointer (some ⟨g2, 2 + 1, none⟩) | 3 => r 3 = .int .i64 (((meanN h (sumI l) d.lo : Nat) : Int) + Zm h l) | 4 => r 4 = .pointer (some ⟨g, 0, none⟩) | 5 => r 5 = .pointer (some ⟨g, 0, none⟩) | 6 => r 6 = .pointer (some ⟨g, 7, none⟩) | 7 => r 7 = .int .i64 (limH h) | 8 => r 8 = .bool (Yf h l d) | _ => True) [(9, fun _ r w_ => Blk w_ g2 76 #[.int .i64 ((meanN h (sumI l) d.hi : Nat) : Int), .int .i64 ((meanN h (sumI l) d.lo : Nat) : Int), .int .i64 (((meanN h (sumI l) d.hi : Nat) : Int) + Zm h l), .int .i64 (((meanN h (sumI l) d.lo : Nat) : Int) + Zm h l), .int .i64 (Yt (momT h l))])]) (by kernel_rfl) rfl rfl (by intro i hi; simp at hi; first | (subst hi; exact ⟨by simp, by omega⟩) | (rcases hi with rfl | rfl | rfl <;> exact ⟨by simp, by omega⟩) | (rcases hi with rfl | rfl <;> exact ⟨by simp, by omega⟩)) (QB0 qf) (ZU Y0 (YZ)) (fun i_ hi_ hs_ => ?_) (fun i_ hi_ => ?_) ?_
     ·match i_, hi_ with
      | 0, _ =>
       intro val fl w1 a hb ha hd hfl;obtain ⟨hb, hg0⟩ := hb;have ha := ha.s0 (d := 6) rfl
       exact ZJ ha rfl rfl (QBi rfl ((hg0 (hfl 9 (by simp) (ZA.1 rfl))).at (j := 0) rfl) ((hg0 (hfl 9 (by simp) (ZA.1 rfl))).at (j := 1) rfl) ((hg0 (hfl 9 (by simp) (ZA.1 rfl))).at (j := 2) rfl) ((hg0 (hfl 9 (by simp) (ZA.1 rfl))).at (j := 3) rfl) ((hg0 (hfl 9 (by simp) (ZA.1 rfl))).at (j := 4) rfl)) rfl rfl
      | 1, _ =>
       intro val fl w1 a hb ha hd hfl;obtain ⟨hb, hg0⟩ := hb;have ha := ha.s0 (d := 6) rfl
       exact ZJ ha rfl rfl (Yy rfl) rfl rfl
      | 2, _ =>
       intro val fl w1 a hb ha hd hfl;obtain ⟨hb, hg0⟩ := hb;have e1 : val 1 = _ := hd 1 (ZA.1 rfl);have ha := ha.s1 (d := 64) rfl e1
       exact ZJ ha rfl rfl (ZR rfl) rfl rfl
      | 3, _ =>
       intro val fl w1 a hb ha hd hfl;obtain ⟨hb, hg0⟩ := hb;have e2 : val 2 = _ := hd 2 (ZA.1 rfl);have ha := ha.s1 (d := 65) rfl e2
       exact ZJ ha rfl rfl (ld_3 rfl ((hg0 (hfl 9 (by simp) (ZA.1 rfl))).at (j := 3) rfl)) rfl rfl
      | 4, _ =>
       intro val fl w1 a hb ha hd hfl;obtain ⟨hb, hg0⟩ := hb;have ha := ha.s0 (d := 0) rfl
       exact ZJ ha rfl rfl (ZH rfl) rfl rfl
      | 5, _ =>
       intro val fl w1 a hb ha hd hfl;obtain ⟨hb, hg0⟩ := hb;have e4 : val 4 = _ := hd 4 (ZA.1 rfl);have ha := ha.s1 (d := 67) rfl e4
       exact ZJ ha rfl rfl (ZK rfl) rfl rfl
      | 6, _ =>
       intro val fl w1 a hb ha hd hfl;obtain ⟨hb, hg0⟩ := hb;have e5 : val 5 = _ := hd 5 (ZA.1 rfl);have ha := ha.s1 (d := 68) rfl e5
       exact ZJ ha rfl rfl (Y7 rfl) rfl rfl
      | 7, _ =>
       intro val fl w1 a hb ha hd hfl;obtain ⟨hb, hg0⟩ := hb;have e6 : val 6 = _ := hd 6 (ZA.1 rfl);have ha := ha.s1 (d := 69) rfl e6
       exact ZJ ha rfl rfl (ld_3 rfl (ZD (ZC hbw hb bhbw_2) (hs.c (j := 7) rfl))) rfl rfl
      | 8, _ =>
       intro val fl w1 a hb ha hd hfl;obtain ⟨hb, hg0⟩ := hb;have e3 : val 3 = _ := hd 3 (ZA.1 rfl);have e7 : val 7 = _ := hd 7 (ZA.1 rfl);have ha := ha.s2 (d := 70) (e := 66) rfl e7 rfl e3
       exact ZJ ha rfl rfl (QAa rfl rfl rfl) rfl rfl
      | 9, _ =>
       exact absurd (by simp) hs_
      | k + 10, h => exact absurd h (by omega)
     ·simp only [List.mem_singleton] at hi_; subst hi_
      intro val fl w1 a hb hfi ha hd hfl;obtain ⟨hb, hg0⟩ := hb;have e0 : val 0 = _ := hd 0 (ZA.1 rfl);have ha := ha.sub (Sub.ins (d := 63) (Sub.ins (d := 6) (Sub.nil _) rfl) (ZI rfl e0));refine YD ha rfl rfl rfl (hg0 hfi) Yp rfl rfl rfl rfl ?_;intro w' hq hgr;refine ⟨undef, rfl, hgr.size, ⟨QAL hb hgr, fun h => by rw [Zs] at h; cases h⟩, hq, fun j _ hj hn hA => ?_⟩
      exact ZG (C := fun j => j ≠ 9 ∧ 9 ∉ clsAt [[], [], [1], [1, 2], [], [4], [4, 5], [4, 5, 6], [1, 2, 3, 4, 5, 6, 7], [0, 1, 2, 3], [0, 1, 2, 3, 4, 5, 6, 7, 8, 9]] j ∧ ∀ p ∈ [], (p = j ∨ p ∈ clsAt [[], [], [1], [1, 2], [], [4], [4, 5], [4, 5, 6], [1, 2, 3, 4, 5, 6, 7], [0, 1, 2, 3], [0, 1, 2, 3, 4, 5, 6, 7, 8, 9]] j) → ∀ q ∈ [], (q = 9 ∨ q ∈ clsAt [[], [], [1], [1, 2], [], [4], [4, 5], [4, 5, 6], [1, 2, 3, 4, 5, 6, 7], [0, 1, 2, 3], [0, 1, 2, 3, 4, 5, 6, 7, 8, 9]] 9) → p ≠ q → val p ≠ val q) (fun hc => absurd rfl hc.1) (fun _ _ h => h) j ⟨hj, hn, hA⟩
     ·intro val fl wR9 hfl hb halc hd
      obtain ⟨hb, _⟩ := hb;have e0 : val 0 = _ := hd 0 (by omega)
      have e1 : val 1 = _ := hd 1 (by omega)
      have e2 : val 2 = _ := hd 2 (by omega)
      have e3 : val 3 = _ := hd 3 (by omega)
      have e4 : val 4 = _ := hd 4 (by omega)
      have e5 : val 5 = _ := hd 5 (by omega)
      have e6 : val 6 = _ := hd 6 (by omega)
      have e7 : val 7 = _ := hd 7 (by omega)
      have e8 : val 8 = _ := hd 8 (by omega)
      refine EL.ends (cs := [_, _, _, _, _, _, _, _, _, val 9]) ⟨e0, e1, e2, e3, e4, e5, e6, e7, e8, rfl, trivial⟩ rfl ?_;replace q1 := q1.gr hb n1_2;have qf : Blk wR9 g2 76 #[.int .i64 ((meanN h (sumI l) d.hi : Nat) : Int), .int .i64 ((meanN h (sumI l) d.lo : Nat) : Int), .int .i64 (((meanN h (sumI l) d.hi : Nat) : Int) + Zm h l), .int .i64 (((meanN h (sumI l) d.lo : Nat) : Int) + Zm h l), .int .i64 (Yt (momT h l))] := hd 9 (by omega)
      replace hbw := ZC hbw hb bhbw_2;refine EL.as rfl rfl (EL.nil (EX.seq (EC.ret ?_)))
      exact EX.done (Zy rfl rfl rfl (QBI (qf.at (j := 0) rfl) (qf.at (j := 1) rfl) (qf.at (j := 2) rfl) (qf.at (j := 3) rfl) (qf.at (j := 4) rfl))) ⟨rfl, hbw⟩
    ·
     have hhd : Yt (momT h l) = 0 := (if_neg hneg).trans (if_neg hpos);refine EL.val (YP (r := false) rfl rfl (decide_eq_false hpos)) rfl (EL.as rfl rfl (EL.nil (EX.seq (EC.no rfl (EC.skip (EX.blk (EX.seq (EC.seq ?_))))))));have qf : Blk w6 g2 76 #[.int .i64 ((meanN h (sumI l) d.hi : Nat) : Int), .int .i64 ((meanN h (sumI l) d.lo : Nat) : Int), .int .i64 (((meanN h (sumI l) d.hi : Nat) : Int) + Zm h l), .int .i64 (((meanN h (sumI l) d.lo : Nat) : Int) + Zm h l), .int .i64 (Yt (momT h l))] := by rw [hhd]; exact q2
     clear q2;have lt_1 := q1.lt;have lt_2 := qf.lt;refine EC.regionS [[], [], [1], [1, 2], [], [4], [4, 5], [4, 5, 6], [1, 2, 3, 4, 5, 6, 7], [0, 1, 2, 3], [0, 1, 2, 3, 4, 5, 6, 7, 8, 9]] 10 [] [9] (fun fl w_ => w6.grownBy w_ (some g2) ∧ (fl 9 = false → Blk w_ g2 76 _)) (phiS (fun i_ r => match i_ with | 0 => r 0 = .agg #[.int .i64 ((meanN h (sumI l) d.hi : Nat) : Int), .int .i64 ((meanN h (sumI l) d.lo : Nat) : Int), .int .i64 (((meanN h (sumI l) d.hi : Nat) : Int) + Zm h l), .int .i64 (((meanN h (sumI l) d.lo : Nat) : Int) + Zm h l), .int .i64 (Yt (momT h l))] | 1 => r 1 = .pointer (some ⟨g2, 2, none⟩) | 2 => r 2 = .pointer (some ⟨g2, 2 + 1, none⟩) | 3 => r 3 = .int .i64 (((meanN h (sumI l) d.lo : Nat) : Int) + Zm h l) | 4 => r 4 = .pointer (some ⟨g, 0, none⟩) | 5 => r 5 = .pointer (some ⟨g, 0, none⟩) | 6 => r 6 = .pointer (some ⟨g, 7, none⟩) | 7 => r 7 = .int .i64 (limH h) | 8 => r 8 = .bool (Yf h l d) | _ => True) [(9, fun _ r w_ => Blk w_ g2 76 #[.int .i64 ((meanN h (sumI l) d.hi : Nat) : Int), .int .i64 ((meanN h (sumI l) d.lo : Nat) : Int), .int .i64 (((meanN h (sumI l) d.hi : Nat) : Int) + Zm h l), .int .i64 (((meanN h (sumI l) d.lo : Nat) : Int) + Zm h l), .int .i64 (Yt (momT h l))])]) (by kernel_rfl) rfl rfl (by intro i hi; simp at hi; first | (subst hi; exact ⟨by simp, by omega⟩) | (rcases hi with rfl | rfl | rfl <;> exact ⟨by simp, by omega⟩) | (rcases hi with rfl | rfl <;> exact ⟨by simp, by omega⟩)) (QB0 qf) (ZU Y0 (YZ)) (fun i_ hi_ hs_ => ?_) (fun i_ hi_ => ?_) ?_
     ·match i_, hi_ with
      | 0, _ =>
       intro val fl w1 a hb ha hd hfl;obtain ⟨hb, hg0⟩ := hb;have ha := ha.s0 (d := 6) rfl
       exact ZJ ha rfl rfl (QBi rfl ((hg0 (hfl 9 (by simp) (ZA.1 rfl))).at (j := 0) rfl) ((hg0 (hfl 9 (by simp) (ZA.1 rfl))).at (j := 1) rfl) ((hg0 (hfl 9 (by simp) (ZA.1 rfl))).at (j := 2) rfl) ((hg0 (hfl 9 (by simp) (ZA.1 rfl))).at (j := 3) rfl) ((hg0 (hfl 9 (by simp) (ZA.1 rfl))).at (j := 4) rfl)) rfl rfl
      | 1, _ =>
       intro val fl w1 a hb ha hd hfl;obtain ⟨hb, hg0⟩ := hb;have ha := ha.s0 (d := 6) rfl
       exact ZJ ha rfl rfl (Yy rfl) rfl rfl
      | 2, _ =>
       intro val fl w1 a hb ha hd hfl;obtain ⟨hb, hg0⟩ := hb;have e1 : val 1 = _ := hd 1 (ZA.1 rfl);have ha := ha.s1 (d := 64) rfl e1
       exact ZJ ha rfl rfl (ZR rfl) rfl rfl
      | 3, _ =>
       intro val fl w1 a hb ha hd hfl;obtain ⟨hb, hg0⟩ := hb;have e2 : val 2 = _ := hd 2 (ZA.1 rfl);have ha := ha.s1 (d := 65) rfl e2
       exact ZJ ha rfl rfl (ld_3 rfl ((hg0 (hfl 9 (by simp) (ZA.1 rfl))).at (j := 3) rfl)) rfl rfl
      | 4, _ =>
       intro val fl w1 a hb ha hd hfl;obtain ⟨hb, hg0⟩ := hb;have ha := ha.s0 (d := 0) rfl
       exact ZJ ha rfl rfl (ZH rfl) rfl rfl
      | 5, _ =>
       intro val fl w1 a hb ha hd hfl;obtain ⟨hb, hg0⟩ := hb;have e4 : val 4 = _ := hd 4 (ZA.1 rfl);have ha := ha.s1 (d := 67) rfl e4
       exact ZJ ha rfl rfl (ZK rfl) rfl rfl
      | 6, _ =>
       intro val fl w1 a hb ha hd hfl;obtain ⟨hb, hg0⟩ := hb;have e5 : val 5 = _ := hd 5 (ZA.1 rfl);have ha := ha.s1 (d := 68) rfl e5
       exact ZJ ha rfl rfl (Y7 rfl) rfl rfl
      | 7, _ =>
       intro val fl w1 a hb ha hd hfl;obtain ⟨hb, hg0⟩ := hb;have e6 : val 6 = _ := hd 6 (ZA.1 rfl);have ha := ha.s1 (d := 69) rfl e6
       exact ZJ ha rfl rfl (ld_3 rfl (ZD (ZC hbw hb bhbw_2) (hs.c (j := 7) rfl))) rfl rfl
      | 8, _ =>
       intro val fl w1 a hb ha hd hfl;obtain ⟨hb, hg0⟩ := hb;have e3 : val 3 = _ := hd 3 (ZA.1 rfl);have e7 : val 7 = _ := hd 7 (ZA.1 rfl);have ha := ha.s2 (d := 70) (e := 66) rfl e7 rfl e3
       exact ZJ ha rfl rfl (QAa rfl rfl rfl) rfl rfl
      | 9, _ =>
       exact absurd (by simp) hs_
      | k + 10, h => exact absurd h (by omega)
     ·simp only [List.mem_singleton] at hi_; subst hi_
      intro val fl w1 a hb hfi ha hd hfl;obtain ⟨hb, hg0⟩ := hb;have e0 : val 0 = _ := hd 0 (ZA.1 rfl);have ha := ha.sub (Sub.ins (d := 63) (Sub.ins (d := 6) (Sub.nil _) rfl) (ZI rfl e0));refine YD ha rfl rfl rfl (hg0 hfi) Yp rfl rfl rfl rfl ?_;intro w' hq hgr;refine ⟨undef, rfl, hgr.size, ⟨QAL hb hgr, fun h => by rw [Zs] at h; cases h⟩, hq, fun j _ hj hn hA => ?_⟩
      exact ZG (C := fun j => j ≠ 9 ∧ 9 ∉ clsAt [[], [], [1], [1, 2], [], [4], [4, 5], [4, 5, 6], [1, 2, 3, 4, 5, 6, 7], [0, 1, 2, 3], [0, 1, 2, 3, 4, 5, 6, 7, 8, 9]] j ∧ ∀ p ∈ [], (p = j ∨ p ∈ clsAt [[], [], [1], [1, 2], [], [4], [4, 5], [4, 5, 6], [1, 2, 3, 4, 5, 6, 7], [0, 1, 2, 3], [0, 1, 2, 3, 4, 5, 6, 7, 8, 9]] j) → ∀ q ∈ [], (q = 9 ∨ q ∈ clsAt [[], [], [1], [1, 2], [], [4], [4, 5], [4, 5, 6], [1, 2, 3, 4, 5, 6, 7], [0, 1, 2, 3], [0, 1, 2, 3, 4, 5, 6, 7, 8, 9]] 9) → p ≠ q → val p ≠ val q) (fun hc => absurd rfl hc.1) (fun _ _ h => h) j ⟨hj, hn, hA⟩
     ·intro val fl wR9 hfl hb halc hd
      obtain ⟨hb, _⟩ := hb;have e0 : val 0 = _ := hd 0 (by omega)
      have e1 : val 1 = _ := hd 1 (by omega)
      have e2 : val 2 = _ := hd 2 (by omega)
      have e3 : val 3 = _ := hd 3 (by omega)
      have e4 : val 4 = _ := hd 4 (by omega)
      have e5 : val 5 = _ := hd 5 (by omega)
      have e6 : val 6 = _ := hd 6 (by omega)
      have e7 : val 7 = _ := hd 7 (by omega)
      have e8 : val 8 = _ := hd 8 (by omega)
      refine EL.ends (cs := [_, _, _, _, _, _, _, _, _, val 9]) ⟨e0, e1, e2, e3, e4, e5, e6, e7, e8, rfl, trivial⟩ rfl ?_;replace q1 := q1.gr hb n1_2;have qf : Blk wR9 g2 76 #[.int .i64 ((meanN h (sumI l) d.hi : Nat) : Int), .int .i64 ((meanN h (sumI l) d.lo : Nat) : Int), .int .i64 (((meanN h (sumI l) d.hi : Nat) : Int) + Zm h l), .int .i64 (((meanN h (sumI l) d.lo : Nat) : Int) + Zm h l), .int .i64 (Yt (momT h l))] := hd 9 (by omega)
      replace hbw := ZC hbw hb bhbw_2;refine EL.as rfl rfl (EL.nil (EX.seq (EC.ret ?_)))
      exact EX.done (Zy rfl rfl rfl (QBI (qf.at (j := 0) rfl) (qf.at (j := 1) rfl) (qf.at (j := 2) rfl) (qf.at (j := 3) rfl) (qf.at (j := 4) rfl))) ⟨rfl, hbw⟩
/-- a passage: river, sides, way, and what must be left under the keel -/
structure Pas where
 rv : River
 sides : List (List Bd)
 way : List Pass
 keel : Int
/-- the values of a passage -/
structure PasV where
 v : Value
 u : Value
 s : Value
 l : Value
 vs : List Value
 ss : List Value
structure RdPas (w : World) (B : Nat) (p : Pas) (q : PasV) : Prop where
 river : RdRiver w B q.v q.u p.rv q.vs
 sides : RdSides w B q.s p.sides q.ss
 way : Rd w B 3 q.l p.way.length (passesC p.way)
structure PasFew (p : Pas) : Prop where
 reaches : p.rv.reaches.length ≤ 1048576
 shoals : p.rv.shoals.length ≤ 1048576
 curves : CurvesB p.rv.reaches
 sides : p.sides.length ≤ 1048576
 side : SidesB p.sides
section
variable {w w' : World} {B B' : Nat} {p : Pas} {q : PasV}
theorem RdPas.below (h : RdPas w B p q) (hb : Below B w w') : RdPas w' B p q := ⟨h.river.below hb, h.sides.below hb, h.way.below hb⟩
theorem RdPas.more (h : RdPas w B p q) (hB : B ≤ B') : RdPas w B' p q := ⟨h.river.more hB, h.sides.more hB, h.way.more hB⟩
end
def pasA (p : Pas) (q : PasV) : Value := .agg #[q.v, q.u, q.s, q.l, .int .i64 p.keel]
/-- what is sounded -/
def sndE (p : Pas) : Int := if inB 0 500 p.keel = true then Yg p.rv p.sides p.way else 3
def sndR (p : Pas) : Shal := if inB 0 500 p.keel = true then Yv p.rv p.sides p.way else ⟨0, 0, 0, 0⟩
/-- a loaded hull on a way -/
def safE (h : Hul) (l : List Int) (d : Bd) (p : Pas) : Int := if Z8 h l d = 0 then sndE p else Z8 h l d
def safS (h : Hul) (l : List Int) (d : Bd) (p : Pas) : Bool := decide (safE h l d p = 0) && decide ((fltT h l d).deep.hi + p.keel ≤ (sndR p).lo)
def safP (h : Hul) (l : List Int) (d : Bd) (p : Pas) : Bool := decide (safE h l d p = 0) && decide ((fltT h l d).deep.lo + p.keel ≤ (sndR p).hi)
def safA (h : Hul) (l : List Int) (d : Bd) (p : Pas) : Int := if safE h l d p = 0 then (sndR p).pass else 0
def safH (h : Hul) (l : List Int) (d : Bd) (p : Pas) : Int := if safE h l d p = 0 then (sndR p).hour else 0
/-- the passage, some hours later -/
def Zk (k : Int) (l : List Pass) : List Pass := l.map fun x => ⟨x.place, ⟨x.hours.lo + k, x.hours.hi + k⟩⟩
def Pas.later (p : Pas) (k : Int) : Pas := { p with way := Zk k p.way }
structure LatIs (need : Int) (p : Pas) (r e : Int) : Prop where
 is : ∃ k : Nat, (∀ j : Nat, j < k → sndE (p.later j) = 0 ∧ (sndR (p.later j)).lo < need) ∧ ((sndE (p.later k) ≠ 0 ∧ r = 0 ∧ e = 7) ∨ (sndE (p.later k) = 0 ∧ need ≤ (sndR (p.later k)).lo ∧ r = k ∧ e = 0))
def QAV (h : Hul) (l : List Int) (d : Bd) (p : Pas) (r e : Int) : Prop := if safE h l d p = 0 then LatIs ((fltT h l d).deep.hi + p.keel) p r e else (r = 0 ∧ e = safE h l d p)
section
variable {h : Hul} {l : List Int} {d : Bd}
theorem QI0 (h1 : hulB h = false) : Z8 h l d = 2 ∧ YH h l d = flt0 := by simp [Z8, YH, h1]
theorem QIy (h1 : hulB h = true) (h2 : l.length ≠ (ZN h).length) : Z8 h l d = 4 ∧ YH h l d = flt0 := by simp [Z8, YH, h1, h2]
theorem QIz (h1 : hulB h = true) (h2 : l.length = (ZN h).length) (h3 : Z0 (ZN h) l = false) : Z8 h l d = 3 ∧ YH h l d = flt0 := by simp [Z8, YH, h1, h2, h3]
theorem QGz (h1 : hulB h = true) (h2 : l.length = (ZN h).length) (h3 : Z0 (ZN h) l = true) (h4 : denB d = false) : Z8 h l d = 2 ∧ YH h l d = flt0 := by simp [Z8, YH, h1, h2, h3, h4]
theorem QIx (h1 : hulB h = true) (h2 : l.length = (ZN h).length) (h3 : Z0 (ZN h) l = true) (h4 : denB d = true) (h5 : Yf h l d = false) : Z8 h l d = 8 ∧ YH h l d = flt0 := by simp [Z8, YH, h1, h2, h3, h4, h5]
theorem QEY (h1 : hulB h = true) (h2 : l.length = (ZN h).length) (h3 : Z0 (ZN h) l = true) (h4 : denB d = true) (h5 : Yf h l d = true) : Z8 h l d = 0 ∧ YH h l d = fltT h l d := by simp [Z8, YH, h1, h2, h3, h4, h5]
structure LoadIs (h : Hul) (l : List Int) (d : Bd) : Prop where
 hul : hulB h = true
 len : l.length = (ZN h).length
 fits : Z0 (ZN h) l = true
 den : denB d = true
 ok : Yf h l d = true
theorem QGx (h0 : Z8 h l d = 0) : LoadIs h l d := by
 unfold Z8 at h0
 by_cases h1 : hulB h = true
 ·rw [if_pos h1] at h0
  by_cases h2 : l.length = (ZN h).length
  ·rw [if_pos h2] at h0
   by_cases h3 : Z0 (ZN h) l = true
   ·rw [if_pos h3] at h0
    by_cases h4 : denB d = true
    ·rw [if_pos h4] at h0
     by_cases h5 : Yf h l d = true
     ·exact ⟨h1, h2, h3, h4, h5⟩
     ·rw [if_neg h5] at h0; omega
    ·rw [if_neg h4] at h0; omega
   ·rw [if_neg h3] at h0; omega
  ·rw [if_neg h2] at h0; omega
 ·rw [if_neg h1] at h0; omega
theorem LoadIs.f (h0 : LoadIs h l d) : YH h l d = fltT h l d := (QEY h0.hul h0.len h0.fits h0.den h0.ok).2
end
/-- the volume of a hull at a draft -/
def volE (h : Hul) (d : Int) : Int := if hulB h = true then (if inB 0 (limH h) d = true then 0 else 3) else 2
def volF (h : Hul) (d : Int) : Int := if volE h d = 0 then volH h d else 0
section
variable {h : Hul} {d : Int}
theorem QKh (h1 : hulB h = false) : volE h d = 2 ∧ volF h d = 0 := by simp [volE, volF, h1]
theorem QKg (h1 : hulB h = true) (h2 : inB 0 (limH h) d = false) : volE h d = 3 ∧ volF h d = 0 := by simp [volE, volF, h1, h2]
theorem QIJ (h1 : hulB h = true) (h2 : inB 0 (limH h) d = true) : volE h d = 0 ∧ volF h d = volH h d := by simp [volE, volF, h1, h2]
end
theorem QHB {h : Hul} {l : List Int} {d : Bd} (h0 : LoadIs h l d) : (0 ≤ (fltT h l d).deep.lo ∧ (fltT h l d).deep.lo ≤ 60000000) ∧ 0 ≤ (fltT h l d).deep.hi ∧ (fltT h l d).deep.hi ≤ 1000 := by
 have hh := QBS h0.hul;have hL : LoadOk (ZN h) l := ⟨hh.arms, h0.len, h0.fits⟩;have h1 := QEM hh hL;have h2 := hh.lim;have h3 := QEX h (sumI l) d.hi;have h4 : (fltT h l d).deep.hi ≤ limH h := of_decide_eq_true h0.ok
 unfold limH at h3 h4
 have e1 : (fltT h l d).deep.lo = (meanN h (sumI l) d.hi : Nat) + Zm h l := rfl;have e2 : (fltT h l d).deep.hi = (meanN h (sumI l) d.lo : Nat) + Zm h l := rfl
 omega
section
variable {n : Nat} {σ : Sg} {w : World} {dst : Option Tmp} {ty : TypeId} {pos : String} {af : Array Edge} {g : Option (Nat × Bool)} {x y z : Operand} {at' : Array TypeId}
theorem cF39 : cF 39 := fun _ _ => by simp [go_sem]
theorem QDK {A : Option Addr} {m c : Nat} (hx : evS σ x = some (.slice A m c)) : ZE Try.prog n σ w ⟨dst, .call { callee := .builtin .len, args := #[x], argTypes := #[123] }, ty, pos, af, g⟩ (.int .i64 (m : Int)) := fun a ha => by
 simp only [execOp, resolve, List.map_toArray, List.map_cons, List.map_nil, ha.eval hx]
 simp [go_sem]
theorem QJB {b o : Nat} {v0 v1 : Value} (hx : evS σ x = some (.pointer (some ⟨b, o, none⟩))) (c0 : w.cell? ⟨b, o, none⟩ = some v0) (c1 : w.cell? ⟨b, o + 1, none⟩ = some v1) : ZE Try.prog n σ w ⟨dst, .load 127 x, ty, pos, af, g⟩ (.agg #[v0, v1]) := fun a ha => by
 simp only [execOp, ha.eval hx]
 simp [go_sem, c0, c1]
theorem QJk (a : Act) (_ : Env n σ a) : (execOp a.eval ⟨dst, .alloc 127, ty, pos, af, g⟩).run Try.prog w = .ok (.value (.pointer (some ⟨w.heap.size, 0, none⟩))) (w.alloc (.cells #[.int .i64 0, .int .i64 0] 127)) := by
 simp only [execOp]
 simp [go_sem]
theorem QIO : (Try.prog.info? 127).map (·.size) = some 2 := by kernel_rfl
theorem QBr {b o : Nat} (hx : evS σ x = some (.pointer (some ⟨b, o, none⟩))) : ZE Try.prog n σ w ⟨dst, .fieldAddr 127 x 1, ty, pos, af, g⟩ (.pointer (some ⟨b, o + 1, none⟩)) := fun a ha => by
 simp only [execOp, ha.eval hx]
 simp [go_sem]
theorem cF40 : cF 40 := fun _ _ => by simp [go_sem]
theorem cF58 : cF 58 := fun _ _ => by simp [go_sem]
theorem QLR    : ZE Try.prog n σ w ⟨dst, .build 76 #[], ty, pos, af, g⟩ (.agg #[.int .i64 0, .int .i64 0, .int .i64 0, .int .i64 0, .int .i64 0]) := fun a _ => by
 simp only [execOp, List.map_toArray, List.map_nil]
 go_simp
theorem cF43 : cF 43 := fun _ _ => by simp [go_sem]
theorem QHE {v0 v1 v2 v3 v4 : Value} (hx : evS σ x = some (.agg #[v0, v1, v2, v3, v4])) (a : Act) (ha : Env n σ a) : (execOp a.eval ⟨dst, .box 53 x, ty, pos, af, g⟩).run Try.prog w = .ok (.value (.pointer (some ⟨w.heap.size, 0, none⟩))) (w.alloc (.cells #[v0, v1, v2, v3, v4] 53)) := by
 simp only [execOp, ha.eval hx]
 simp [go_sem]
theorem QDl (a : Act) (_ : Env n σ a) : (execOp a.eval ⟨dst, .alloc 120, ty, pos, af, g⟩).run Try.prog w = .ok (.value (.pointer (some ⟨w.heap.size, 0, none⟩))) (w.alloc (.cells #[.int .i64 0, .int .i64 0, .int .i64 0, .int .i64 0] 120)) := by
 simp only [execOp]
 simp [go_sem]
theorem QBq {b o : Nat} (hx : evS σ x = some (.pointer (some ⟨b, o, none⟩))) : ZE Try.prog n σ w ⟨dst, .fieldAddr 53 x 3, ty, pos, af, g⟩ (.pointer (some ⟨b, o + 4, none⟩)) := fun a ha => by
 simp only [execOp, ha.eval hx]
 simp [go_sem]
theorem QJC {b o : Nat} {v0 v1 v2 v3 : Value} (hx : evS σ x = some (.pointer (some ⟨b, o, none⟩))) (c0 : w.cell? ⟨b, o, none⟩ = some v0) (c1 : w.cell? ⟨b, o + 1, none⟩ = some v1) (c2 : w.cell? ⟨b, o + 2, none⟩ = some v2) (c3 : w.cell? ⟨b, o + 3, none⟩ = some v3) : ZE Try.prog n σ w ⟨dst, .load 120 x, ty, pos, af, g⟩ (.agg #[v0, v1, v2, v3]) := fun a ha => by
 simp only [execOp, ha.eval hx]
 simp [go_sem, c0, c1, c2, c3]
theorem QB3 : (Try.prog.info? 120).map (·.size) = some 4 := by kernel_rfl
theorem QIw {b o : Nat} {v0 v1 v2 v3 : Value} (c0 : w.cell? ⟨b, o, none⟩ = some v0) (c1 : w.cell? ⟨b, o + 1, none⟩ = some v1) (c2 : w.cell? ⟨b, o + 2, none⟩ = some v2) (c3 : w.cell? ⟨b, o + 3, none⟩ = some v3) : (loadVar 120 ⟨b, o, none⟩).run Try.prog w = .ok (.agg #[v0, v1, v2, v3]) w := by
 simp [go_sem, loadVar, c0, c1, c2, c3]
theorem QKJ {b o : Nat} (hx : evS σ x = some (.pointer (some ⟨b, o, none⟩))) : ZE Try.prog n σ w ⟨dst, .fieldAddr 53 x 0, ty, pos, af, g⟩ (.pointer (some ⟨b, o, none⟩)) := fun a ha => by
 simp only [execOp, ha.eval hx]
 simp [go_sem]
theorem QKI {b o : Nat} (hx : evS σ x = some (.pointer (some ⟨b, o, none⟩))) : ZE Try.prog n σ w ⟨dst, .fieldAddr 53 x 1, ty, pos, af, g⟩ (.pointer (some ⟨b, o + 2, none⟩)) := fun a ha => by
 simp only [execOp, ha.eval hx]
 simp [go_sem]
theorem QLm {b o : Nat} {v0 : Value} (hx : evS σ x = some (.pointer (some ⟨b, o, none⟩))) (c0 : w.cell? ⟨b, o, none⟩ = some v0) : ZE Try.prog n σ w ⟨dst, .load 50 x, ty, pos, af, g⟩ (v0) := fun a ha => by
 simp only [execOp, ha.eval hx]
 simp [go_sem, c0]
theorem QBD {b o : Nat} (hx : evS σ x = some (.pointer (some ⟨b, o, none⟩))) : ZE Try.prog n σ w ⟨dst, .fieldAddr 53 x 2, ty, pos, af, g⟩ (.pointer (some ⟨b, o + 3, none⟩)) := fun a ha => by
 simp only [execOp, ha.eval hx]
 simp [go_sem]
theorem QFU {b o : Nat} {v0 : Value} (hx : evS σ x = some (.pointer (some ⟨b, o, none⟩))) (c0 : w.cell? ⟨b, o, none⟩ = some v0) : ZE Try.prog n σ w ⟨dst, .load 51 x, ty, pos, af, g⟩ (v0) := fun a ha => by
 simp only [execOp, ha.eval hx]
 simp [go_sem, c0]
theorem cF56 : cF 56 := fun _ _ => by simp [go_sem]
theorem QAv {b o : Nat} (hx : evS σ x = some (.pointer (some ⟨b, o, none⟩))) : ZE Try.prog n σ w ⟨dst, .fieldAddr 120 x 0, ty, pos, af, g⟩ (.pointer (some ⟨b, o, none⟩)) := fun a ha => by
 simp only [execOp, ha.eval hx]
 simp [go_sem]
theorem QDZ {b o : Nat} (hx : evS σ x = some (.pointer (some ⟨b, o, none⟩))) : ZE Try.prog n σ w ⟨dst, .fieldAddr 120 x 1, ty, pos, af, g⟩ (.pointer (some ⟨b, o + 2, none⟩)) := fun a ha => by
 simp only [execOp, ha.eval hx]
 simp [go_sem]
theorem QDY {b o : Nat} (hx : evS σ x = some (.pointer (some ⟨b, o, none⟩))) : ZE Try.prog n σ w ⟨dst, .fieldAddr 120 x 2, ty, pos, af, g⟩ (.pointer (some ⟨b, o + 3, none⟩)) := fun a ha => by
 simp only [execOp, ha.eval hx]
 simp [go_sem]
theorem QG3 {b o : Nat} {v0 v1 v2 v3 v4 : Value} (hx : evS σ x = some (.pointer (some ⟨b, o, none⟩))) (c0 : w.cell? ⟨b, o, none⟩ = some v0) (c1 : w.cell? ⟨b, o + 1, none⟩ = some v1) (c2 : w.cell? ⟨b, o + 2, none⟩ = some v2) (c3 : w.cell? ⟨b, o + 3, none⟩ = some v3) (c4 : w.cell? ⟨b, o + 4, none⟩ = some v4) : ZE Try.prog n σ w ⟨dst, .load 53 x, ty, pos, af, g⟩ (.agg #[v0, v1, v2, v3, v4]) := fun a ha => by
 simp only [execOp, ha.eval hx]
 simp [go_sem, c0, c1, c2, c3, c4]
theorem cF41 : cF 41 := fun _ _ => by simp [go_sem]
end
set_option maxRecDepth 100000 in
theorem QCG (h : Hul) (v : Value) (vs : List (Value × Value)) (w : World) (B : Nat) (hr : RdSecs w B v h.secs vs) (hB : B ≤ w.heap.size) (hl : h.secs.length ≤ 1048576) (hfew : Zl h.secs) (l : List Int) (vl : Value) (hri : Rd w B 1 vl l.length (ints l)) (d : Bd) :
  Calls Try.prog 43 #[.agg #[.int .i64 h.lot, v], vl, .agg #[.int .i64 d.lo, .int .i64 d.hi]] w fun e w' => e = .returned (.tuple #[.agg #[.int .i64 (YH h l d).mean.lo, .int .i64 (YH h l d).mean.hi, .int .i64 (YH h l d).deep.lo, .int .i64 (YH h l d).deep.hi, .int .i64 (YH h l d).head], .int .i64 (Z8 h l d)]) ∧ Below w.heap.size w w' := by
 obtain ⟨A, c, rfl, _⟩ := hri.shape;have hbw := Below.refl w.heap.size w;refine EC.enter 68 Try.func43 rfl rfl rfl (EC.seq (EC.region (EL.newP (QCT rfl) rfl ?_)));intro g1 w1 q1 hb1 hg1 hl1;have bhbw_1 := Nat.le_trans hbw.size hg1;replace hbw := bo_ hbw hb1;clear hb1 hg1 hl1;refine EL.newP (QBx rfl) rfl ?_;intro g2 w2 q2 hb2 hg2 hl2;have n1_2 := q1.na hg2;have bhbw_2 := Nat.le_trans hbw.size hg2;replace q1 := q1.bl hb2;replace hbw := bo_ hbw hb2;clear hb2 hg2 hl2;refine EL.newP QCW rfl ?_;intro g3 w3 q3 hb3 hg3 hl3;have n1_3 := q1.na hg3;have n2_3 := q2.na hg3;have bhbw_3 := Nat.le_trans hbw.size hg3;replace q1 := q1.bl hb3;replace q2 := q2.bl hb3;replace hbw := bo_ hbw hb3;clear hb3 hg3 hl3;refine EL.as rfl rfl (EL.nil (EX.seq (EC.seq (EC.region (EL.val (QBj rfl (q1.at (j := 0) rfl) (q1.at (j := 1) rfl)) rfl ?_)))))
 cases hhul : hulB h
 ·
  refine EL.call (cA1 cF39 rfl) rfl (QBm hhul _ _ _ B (hr.below (hbw.mono hB)) (Nat.le_trans hB hbw.size) hl hfew) ?_
  rintro e w4 ⟨rfl, hc4⟩
  refine ⟨_, rfl, ?_⟩;replace q1 := q1.bl hc4;replace q2 := q2.bl hc4;replace q3 := q3.bl hc4;replace hbw := bo_ hbw hc4;clear hc4;refine EL.mv rfl rfl (EL.xt rfl rfl rfl (EL.xt rfl rfl rfl (EL.as rfl rfl (EL.as rfl rfl (EL.nil (EX.seq (EC.seq (EC.block (EC.seq ?_)))))))));refine EC.region (EL.mv rfl rfl ?_);refine EL.val (Zq (r := true) rfl rfl (decide_eq_true (by decide))) rfl ?_
  refine EL.as rfl rfl (EL.nil (EX.seq (EC.yes rfl (EC.seq (EC.region (EL.val (QBi rfl (q3.at (j := 0) rfl) (q3.at (j := 1) rfl) (q3.at (j := 2) rfl) (q3.at (j := 3) rfl) (q3.at (j := 4) rfl)) rfl (EL.mv rfl rfl (EL.store rfl rfl q3 Yp rfl rfl rfl rfl ?_))))))));intro w5 hq5 hg5;replace q1 := q1.gr hg5 n1_3;replace q2 := q2.gr hg5 n2_3;replace hbw := ZC hbw hg5 bhbw_3;replace q3 := hq5;clear hg5 hq5;refine EL.as rfl rfl (EL.nil (EX.seq (EC.ret (EX.blk_ret (EX.seq_ret ?_)))))
  exact EX.done (Zy rfl rfl rfl (QBI (q3.at (j := 0) rfl) (q3.at (j := 1) rfl) (q3.at (j := 2) rfl) (q3.at (j := 3) rfl) (q3.at (j := 4) rfl))) ⟨by rw [(QI0 hhul).1, (QI0 hhul).2] <;> rfl, hbw⟩
 ·
  refine EL.call (cA1 cF39 rfl) rfl (QDP hhul _ _ _ B (hr.below (hbw.mono hB)) (Nat.le_trans hB hbw.size) hl hfew) ?_
  rintro e wS ⟨⟨g, hv, rfl, hgw, hs⟩, hc6⟩
  refine ⟨_, rfl, ?_⟩;replace q1 := q1.bl hc6;replace q2 := q2.bl hc6;replace q3 := q3.bl hc6;replace hbw := bo_ hbw hc6;clear hc6;have hH := QBS hhul;have hbs := Below.refl wS.heap.size wS;refine EL.mv rfl rfl (EL.xt rfl rfl rfl (EL.xt rfl rfl rfl (EL.as rfl rfl (EL.as rfl rfl (EL.nil (EX.seq (EC.seq (EC.block (EC.seq ?_)))))))));refine EC.region (EL.mv rfl rfl ?_);refine EL.val (Zq (r := false) rfl rfl (decide_eq_false (by decide))) rfl ?_
  refine EL.as rfl rfl (EL.nil (EX.seq (EC.no rfl (EC.seq (EC.region ?_)))));obtain ⟨Ah, ch, rfl, _⟩ := hs.holds.shape;refine EL.mv rfl rfl (EL.val (QFQ rfl) rfl (EL.mv rfl rfl (EL.val (ZK rfl) rfl (EL.val (Y8 rfl) rfl (EL.val (QAG rfl (ZD hbs (hs.c (j := 2) rfl))) rfl (EL.val (QDK rfl) rfl ?_))))))
  by_cases hlen : l.length ≠ (ZN h).length
  ·
   refine EL.val (Zq (r := true) rfl rfl (decide_eq_true (by omega))) rfl ?_
   refine EL.as rfl rfl (EL.nil (EX.seq (EC.yes rfl (EC.seq (EC.region (EL.val (QBi rfl (q3.at (j := 0) rfl) (q3.at (j := 1) rfl) (q3.at (j := 2) rfl) (q3.at (j := 3) rfl) (q3.at (j := 4) rfl)) rfl (EL.store rfl rfl q3 Yp rfl rfl rfl rfl ?_)))))));intro w7 hq7 hg7;replace q1 := q1.gr hg7 n1_3;replace q2 := q2.gr hg7 n2_3;replace hbw := ZC hbw hg7 bhbw_3;clear hbs;replace q3 := hq7;clear hg7 hq7;refine EL.as rfl rfl (EL.nil (EX.seq (EC.ret (EX.blk_ret (EX.seq_ret ?_)))))
   exact EX.done (Zy rfl rfl rfl (QBI (q3.at (j := 0) rfl) (q3.at (j := 1) rfl) (q3.at (j := 2) rfl) (q3.at (j := 3) rfl) (q3.at (j := 4) rfl))) ⟨by rw [(QIy hhul hlen).1, (QIy hhul hlen).2] <;> rfl, hbw⟩
  ·
   have hle : l.length = (ZN h).length := by omega
   refine EL.val (Zq (r := false) rfl rfl (decide_eq_false (by omega))) rfl ?_
   refine EL.as rfl rfl (EL.nil (EX.seq (EC.no rfl (EC.skip (EX.blk (EX.seq (EC.seq (EC.seq (EC.region ?_)))))))));refine EL.mv rfl rfl (EL.val (ZK rfl) rfl (EL.val (Y8 rfl) rfl (EL.val (QAG rfl (ZD hbs (hs.c (j := 2) rfl))) rfl (EL.val (QDK rfl) rfl (EL.mv rfl rfl (EL.nil (EX.seq (EC.block ?_))))))));have hmn := hH.arms.many;refine EC.loopD [7, 9, 10, 37, 38, 39, 40, 41, 42, 43, 44, 45, 46, 47, 48, 49, 50, 51, 52] (fun k : Nat => [(37, .int .i64 (k : Nat))]) (fun k W => k ≤ (ZN h).length ∧ Z0 ((ZN h).take k) (l.take k) = true ∧ Blk W g2 25 #[.int .i64 d.lo, .int .i64 d.hi] ∧ Blk W g3 76 #[.int .i64 0, .int .i64 0, .int .i64 0, .int .i64 0, .int .i64 0] ∧ Below wS.heap.size wS W ∧ Below w.heap.size w W) (fun k => (ZN h).length - k) 0 ⟨Nat.zero_le _, by simp [Z0], q2, q3, hbs, hbw⟩ ⟨rfl, trivial⟩ ?_
   clear q2 q3 hbs hbw
   rintro k wk ⟨hk, hlo, q2, q3, hbs, hbw⟩
   by_cases hltk : k < (ZN h).length
   ·
    obtain ⟨ba, oa, rfl, _, ca⟩ := YV (ZN h) k hltk _ _ _ _ _ hs.holds;obtain ⟨b, o, eb_, _, cc⟩ := Ys l k (by omega) w B _ _ _ hri
    subst eb_;have hsu := QBP k (ZN h) l hltk (by omega)
    have hsn := QFP (xs := ZN h) (l := l) (k := k) hltk (by omega)
    have hxa := hH.arms.at_ _ (getD_mem (d := Z6) hltk);obtain ⟨x, ex⟩ : ∃ z, z = (ZN h).getD k Z6 := ⟨_, rfl⟩;rw [← ex] at ca hsu hsn hxa;obtain ⟨m, em⟩ : ∃ z, z = l.getD k 0 := ⟨_, rfl⟩;rw [← em] at cc hsu hsn;refine EC.seq (EC.region ?_);refine EL.val (ZO rfl rfl (decide_eq_true (show (((k : Nat) : Int) < (((ZN h).length : Nat) : Int)) by omega))) rfl ?_
    refine EL.nil (EX.seq (EC.seq (EC.yes rfl (EC.skip (EX.seq (EC.seq (EC.block (EC.seq (EC.region ?_)))))))));refine EL.mv rfl rfl (EL.val (QEg rfl rfl hltk) rfl (EL.val (QJB rfl (ZD hbs ca.c0) (ZD hbs ca.c1)) rfl (EL.newP QJk rfl ?_)));intro g8 w8 q8 hb8 hg8 hl8;have n2_8 := q2.na hg8;have n3_8 := q3.na hg8;have bhbw_8 := Nat.le_trans hbw.size hg8;have bhbs_8 := Nat.le_trans hbs.size hg8;replace q2 := q2.bl hb8;replace q3 := q3.bl hb8;replace hbw := bo_ hbw hb8;replace hbs := bo_ hbs hb8;clear hb8 hg8 hl8;refine EL.as rfl rfl (EL.store rfl rfl q8 QIO rfl rfl rfl rfl ?_);intro w9 hq9 hg9;replace q2 := q2.gr hg9 n2_8;replace q3 := q3.gr hg9 n3_8;replace hbw := ZC hbw hg9 bhbw_8;replace hbs := ZC hbs hg9 bhbs_8;replace q8 := hq9;clear hg9 hq9;refine EL.nil (EX.seq (EC.seq ?_))
    cases hin : inB 0 x.lots m
    ·
     have lt_2 := q2.lt;have lt_3 := q3.lt;have lt_8 := q8.lt;refine EC.regionP [[], [0], [], [], [2, 3], [2, 3, 4], [2, 3, 4, 5], [0, 1, 2, 3, 4, 5, 6], [0, 1, 2, 3, 4, 5, 6, 7]] 9 [] (phi (fun i_ r => match i_ with | 0 => r 0 = .pointer (some ⟨g8, 1, none⟩) | 1 => r 1 = .int .i64 x.lots | 2 => r 2 = .slice (some ⟨b, o, none⟩) l.length c | 3 => r 3 = .int .i64 (k : Nat) | 4 => r 4 = .pointer (some ⟨b, o + k, none⟩) | 5 => r 5 = .int .i64 m | 7 => r 7 = .bool false | 8 => r 8 = .bool true | _ => True) [(6, fun r w_ => ∃ g_, r 6 = .slice (some ⟨g_, 0, none⟩) 1 1 ∧ Blk w_ g_ 3 #[.int .i64 m] ∧ w9.heap.size ≤ g_)]) (by kernel_rfl) rfl rfl (ZT Zw (ZY)) (fun i_ hi_ => ?_) ?_
     ·match i_, hi_ with
      | 0, _ =>
       intro val w1 a hb ha hd;have ha := ha.s0 (d := 10) rfl
       exact ZB ha rfl rfl (QBr rfl) rfl rfl
      | 1, _ =>
       intro val w1 a hb ha hd;have e0 : val 0 = _ := hd 0 (ZA.1 rfl);have ha := ha.s1 (d := 42) rfl e0
       exact ZB ha rfl rfl (ld_3 rfl ((q8.below hb q8.lt).at (j := 1) rfl)) rfl rfl
      | 2, _ =>
       intro val w1 a hb ha hd;have ha := ha.s0 (d := 1) rfl
       exact ZB ha rfl rfl (ZH rfl) rfl rfl
      | 3, _ =>
       intro val w1 a hb ha hd;have ha := ha.s0 (d := 9) rfl
       exact ZB ha rfl rfl (ZH rfl) rfl rfl
      | 4, _ =>
       intro val w1 a hb ha hd;have e2 : val 2 = _ := hd 2 (ZA.1 rfl);have e3 : val 3 = _ := hd 3 (ZA.1 rfl);have ha := ha.s2 (d := 45) (e := 44) rfl e3 rfl e2
       exact ZB ha rfl rfl (QD5 rfl rfl (show k < l.length by omega)) rfl rfl
      | 5, _ =>
       intro val w1 a hb ha hd;have e4 : val 4 = _ := hd 4 (ZA.1 rfl);have ha := ha.s1 (d := 46) rfl e4
       exact ZB ha rfl rfl (ld_3 rfl (ZD (hbw.trans (hb.mono hbw.size)) cc)) rfl rfl
      | 6, _ =>
       intro val w1 a hb ha hd;have e5 : val 5 = _ := hd 5 (ZA.1 rfl);have ha := ha.s1 (d := 47) rfl e5
       exact YB ha rfl rfl (Zt rfl) rfl (fun g w' hq _ hge => ⟨g, rfl, hq, Nat.le_trans hb.size hge⟩)
      | 7, _ =>
       intro val w1 a hb ha hd;have e1 : val 1 = _ := hd 1 (ZA.1 rfl);obtain ⟨g6_, e6, q6_, h6_⟩ := hd 6 (ZA.1 rfl);change val 6 = _ at e6;have ha := ha.s2 (d := 48) (e := 43) rfl e6 rfl e1;refine Zf ha rfl rfl (cA3 cF35 rfl rfl rfl) (ZW q6_ hin) rfl ?_
       rintro e w' ⟨rfl, hb'⟩
       exact ⟨_, rfl, hb', rfl⟩
      | 8, _ =>
       intro val w1 a hb ha hd;have e7 : val 7 = _ := hd 7 (ZA.1 rfl);have ha := ha.s1 (d := 49) rfl e7
       exact ZB ha rfl rfl (ZV rfl) rfl rfl
      | k + 9, h => exact absurd h (by omega)
     ·intro val wR9 hb halc hd
      have e0 : val 0 = _ := hd 0 (by omega)
      have e1 : val 1 = _ := hd 1 (by omega)
      have e2 : val 2 = _ := hd 2 (by omega)
      have e3 : val 3 = _ := hd 3 (by omega)
      have e4 : val 4 = _ := hd 4 (by omega)
      have e5 : val 5 = _ := hd 5 (by omega)
      obtain ⟨ga6_9, e6, qa6_9, hga6_9⟩ := hd 6 (by omega)
      change val 6 = _ at e6;change Blk wR9 ga6_9 3 #[.int .i64 m] at qa6_9;have e7 : val 7 = _ := hd 7 (by omega)
      have e8 : val 8 = _ := hd 8 (by omega)
      refine EL.ends (cs := [_, _, _, _, _, _, _, _, _]) ⟨e0, e1, e2, e3, e4, e5, e6, e7, e8, trivial⟩ rfl ?_;replace q2 := q2.bl hb;replace q3 := q3.bl hb;replace q8 := q8.bl hb;have n2_10 : g2 ≠ ga6_9 := Nat.ne_of_lt (Nat.lt_of_lt_of_le lt_2 hga6_9);have n3_10 : g3 ≠ ga6_9 := Nat.ne_of_lt (Nat.lt_of_lt_of_le lt_3 hga6_9);have n8_10 : g8 ≠ ga6_9 := Nat.ne_of_lt (Nat.lt_of_lt_of_le lt_8 hga6_9);have bhbw_10 := Nat.le_trans hbw.size hga6_9;have bhbs_10 := Nat.le_trans hbs.size hga6_9;replace hbw := bo_ hbw hb;replace hbs := bo_ hbs hb;clear hb;refine EL.nil (EX.seq (EC.yes rfl (EC.seq (EC.region (EL.val (QBi rfl (q3.at (j := 0) rfl) (q3.at (j := 1) rfl) (q3.at (j := 2) rfl) (q3.at (j := 3) rfl) (q3.at (j := 4) rfl)) rfl (EL.store rfl rfl q3 Yp rfl rfl rfl rfl ?_))))));intro w11 hq11 hg11;replace q2 := q2.gr hg11 n2_3;replace q8 := q8.gr hg11 n3_8.symm;replace qa6_9 := qa6_9.gr hg11 n3_10.symm;replace hbw := ZC hbw hg11 bhbw_3;clear hbs;replace q3 := hq11;clear hg11 hq11;refine EL.as rfl rfl (EL.nil (EX.seq (EC.ret (EX.blk_ret (EX.seq_ret (EX.seq_ret (EX.blk_ret (EX.seq_ret ?_))))))))
      exact EX.done (Zy rfl rfl rfl (QBI (q3.at (j := 0) rfl) (q3.at (j := 1) rfl) (q3.at (j := 2) rfl) (q3.at (j := 3) rfl) (q3.at (j := 4) rfl))) ⟨by rw [(QIz hhul hle (hsn hin)).1, (QIz hhul hle (hsn hin)).2] <;> rfl, hbw⟩
    ·
     have lt_2 := q2.lt;have lt_3 := q3.lt;have lt_8 := q8.lt;refine EC.regionP [[], [0], [], [], [2, 3], [2, 3, 4], [2, 3, 4, 5], [0, 1, 2, 3, 4, 5, 6], [0, 1, 2, 3, 4, 5, 6, 7]] 9 [] (phi (fun i_ r => match i_ with | 0 => r 0 = .pointer (some ⟨g8, 1, none⟩) | 1 => r 1 = .int .i64 x.lots | 2 => r 2 = .slice (some ⟨b, o, none⟩) l.length c | 3 => r 3 = .int .i64 (k : Nat) | 4 => r 4 = .pointer (some ⟨b, o + k, none⟩) | 5 => r 5 = .int .i64 m | 7 => r 7 = .bool true | 8 => r 8 = .bool false | _ => True) [(6, fun r w_ => ∃ g_, r 6 = .slice (some ⟨g_, 0, none⟩) 1 1 ∧ Blk w_ g_ 3 #[.int .i64 m] ∧ w9.heap.size ≤ g_)]) (by kernel_rfl) rfl rfl (ZT Zw (ZY)) (fun i_ hi_ => ?_) ?_
     ·match i_, hi_ with
      | 0, _ =>
       intro val w1 a hb ha hd;have ha := ha.s0 (d := 10) rfl
       exact ZB ha rfl rfl (QBr rfl) rfl rfl
      | 1, _ =>
       intro val w1 a hb ha hd;have e0 : val 0 = _ := hd 0 (ZA.1 rfl);have ha := ha.s1 (d := 42) rfl e0
       exact ZB ha rfl rfl (ld_3 rfl ((q8.below hb q8.lt).at (j := 1) rfl)) rfl rfl
      | 2, _ =>
       intro val w1 a hb ha hd;have ha := ha.s0 (d := 1) rfl
       exact ZB ha rfl rfl (ZH rfl) rfl rfl
      | 3, _ =>
       intro val w1 a hb ha hd;have ha := ha.s0 (d := 9) rfl
       exact ZB ha rfl rfl (ZH rfl) rfl rfl
      | 4, _ =>
       intro val w1 a hb ha hd;have e2 : val 2 = _ := hd 2 (ZA.1 rfl);have e3 : val 3 = _ := hd 3 (ZA.1 rfl);have ha := ha.s2 (d := 45) (e := 44) rfl e3 rfl e2
       exact ZB ha rfl rfl (QD5 rfl rfl (show k < l.length by omega)) rfl rfl
      | 5, _ =>
       intro val w1 a hb ha hd;have e4 : val 4 = _ := hd 4 (ZA.1 rfl);have ha := ha.s1 (d := 46) rfl e4
       exact ZB ha rfl rfl (ld_3 rfl (ZD (hbw.trans (hb.mono hbw.size)) cc)) rfl rfl
      | 6, _ =>
       intro val w1 a hb ha hd;have e5 : val 5 = _ := hd 5 (ZA.1 rfl);have ha := ha.s1 (d := 47) rfl e5
       exact YB ha rfl rfl (Zt rfl) rfl (fun g w' hq _ hge => ⟨g, rfl, hq, Nat.le_trans hb.size hge⟩)
      | 7, _ =>
       intro val w1 a hb ha hd;have e1 : val 1 = _ := hd 1 (ZA.1 rfl);obtain ⟨g6_, e6, q6_, h6_⟩ := hd 6 (ZA.1 rfl);change val 6 = _ at e6;have ha := ha.s2 (d := 48) (e := 43) rfl e6 rfl e1;refine Zf ha rfl rfl (cA3 cF35 rfl rfl rfl) (ZW q6_ hin) rfl ?_
       rintro e w' ⟨rfl, hb'⟩
       exact ⟨_, rfl, hb', rfl⟩
      | 8, _ =>
       intro val w1 a hb ha hd;have e7 : val 7 = _ := hd 7 (ZA.1 rfl);have ha := ha.s1 (d := 49) rfl e7
       exact ZB ha rfl rfl (ZV rfl) rfl rfl
      | k + 9, h => exact absurd h (by omega)
     ·intro val wR9 hb halc hd
      have e0 : val 0 = _ := hd 0 (by omega)
      have e1 : val 1 = _ := hd 1 (by omega)
      have e2 : val 2 = _ := hd 2 (by omega)
      have e3 : val 3 = _ := hd 3 (by omega)
      have e4 : val 4 = _ := hd 4 (by omega)
      have e5 : val 5 = _ := hd 5 (by omega)
      obtain ⟨ga6_9, e6, qa6_9, hga6_9⟩ := hd 6 (by omega)
      change val 6 = _ at e6;change Blk wR9 ga6_9 3 #[.int .i64 m] at qa6_9;have e7 : val 7 = _ := hd 7 (by omega)
      have e8 : val 8 = _ := hd 8 (by omega)
      refine EL.ends (cs := [_, _, _, _, _, _, _, _, _]) ⟨e0, e1, e2, e3, e4, e5, e6, e7, e8, trivial⟩ rfl ?_;replace q2 := q2.bl hb;replace q3 := q3.bl hb;replace q8 := q8.bl hb;have n2_12 : g2 ≠ ga6_9 := Nat.ne_of_lt (Nat.lt_of_lt_of_le lt_2 hga6_9);have n3_12 : g3 ≠ ga6_9 := Nat.ne_of_lt (Nat.lt_of_lt_of_le lt_3 hga6_9);have n8_12 : g8 ≠ ga6_9 := Nat.ne_of_lt (Nat.lt_of_lt_of_le lt_8 hga6_9);have bhbw_12 := Nat.le_trans hbw.size hga6_9;have bhbs_12 := Nat.le_trans hbs.size hga6_9;replace hbw := bo_ hbw hb;replace hbs := bo_ hbs hb;clear hb;refine EL.nil (EX.seq (EC.no rfl (EC.skip (EX.blk (EX.seq (EC.region ?_))))));refine EL.val (ZM rfl rfl (c := ((k + 1 : Nat) : Int)) ((IntWalk.i64_in _ ⟨by first | omega | (simp only; omega), by first | omega | (simp only; omega)⟩).trans (by first | omega | (simp only; omega)))) rfl ?_
      refine EL.mv rfl rfl (EL.nil ?_);refine EX.roundD (k + 1) ⟨rfl, trivial⟩ (by repeat first | with_reducible exact .refl _ | refine sp_ rfl ?_ | exact .refl _ | refine sd_ rfl ?_ | refine sn_ ?_) ⟨by omega, by rw [hsu, hlo, hin]; rfl, q2, q3, hbs, hbw⟩ (by omega)
   ·
    obtain rfl : k = (ZN h).length := by omega
    rw [List.take_length, ← hle, List.take_length] at hlo;refine EC.seq (EC.region ?_);refine EL.val (ZO rfl rfl (decide_eq_false (show ¬((((ZN h).length : Nat) : Int) < (((ZN h).length : Nat) : Int)) by omega))) rfl ?_
    refine EL.nil (EX.seq (EC.seq (EC.no rfl (EC.exit (EX.seq_exit (EX.seq_exit (EX.blk_here (EX.seq (EC.seq ?_)))))))));refine EC.seq (EC.region (EL.val (Zp rfl (q2.at (j := 0) rfl) (q2.at (j := 1) rfl)) rfl ?_))
    cases hden : denB d
    ·
     refine EL.call (cA1 cF40 rfl) rfl (QBk hden _) ?_
     rintro e w13 ⟨rfl, hc13⟩
     refine ⟨_, rfl, ?_⟩;replace q2 := q2.bl hc13;replace q3 := q3.bl hc13;replace hbw := bo_ hbw hc13;replace hbs := bo_ hbs hc13;clear hc13;refine EL.val (ZV rfl) rfl (EL.nil (EX.seq (EC.yes rfl (EC.seq (EC.region (EL.val (QBi rfl (q3.at (j := 0) rfl) (q3.at (j := 1) rfl) (q3.at (j := 2) rfl) (q3.at (j := 3) rfl) (q3.at (j := 4) rfl)) rfl (EL.store rfl rfl q3 Yp rfl rfl rfl rfl ?_)))))));intro w14 hq14 hg14;replace q2 := q2.gr hg14 n2_3;replace hbw := ZC hbw hg14 bhbw_3;clear hbs;replace q3 := hq14;clear hg14 hq14;refine EL.as rfl rfl (EL.nil (EX.seq (EC.ret (EX.seq_ret ?_))))
     exact EX.done (Zy rfl rfl rfl (QBI (q3.at (j := 0) rfl) (q3.at (j := 1) rfl) (q3.at (j := 2) rfl) (q3.at (j := 3) rfl) (q3.at (j := 4) rfl))) ⟨by rw [(QGz hhul hle hlo hden).1, (QGz hhul hle hlo hden).2] <;> rfl, hbw⟩
    ·
     have hL : LoadOk (ZN h) l := ⟨hH.arms, hle, hlo⟩;refine EL.call (cA1 cF40 rfl) rfl (QBk hden _) ?_
     rintro e w15 ⟨rfl, hc15⟩
     refine ⟨_, rfl, ?_⟩;replace q2 := q2.bl hc15;replace q3 := q3.bl hc15;replace hbw := bo_ hbw hc15;replace hbs := bo_ hbs hc15;clear hc15;refine EL.val (ZV rfl) rfl (EL.nil (EX.seq (EC.no rfl (EC.skip (EX.seq (EC.seq (EC.region (EL.mv rfl rfl (EL.mv rfl rfl ?_)))))))));refine EL.val (Zp rfl (q2.at (j := 0) rfl) (q2.at (j := 1) rfl)) rfl ?_
     cases hflo : Yf h l d
     ·
      refine EL.call (cA3 cF58 rfl rfl rfl) rfl (by have key := QBC hH _ _ vs g _ (max B wS.heap.size) ((hs.below hbs).more (Nat.le_max_right _ _)) (Nat.max_le.2 ⟨Nat.le_trans hB hbw.size, hbs.size⟩) hL d hden _ ((hri.below (hbw.mono hB)).more (Nat.le_max_left _ _)); rw [hflo] at key; exact key) ?_
      rintro e w16 ⟨rfl, hc16⟩
      refine ⟨_, rfl, ?_⟩;replace q2 := q2.bl hc16;replace q3 := q3.bl hc16;replace hbw := bo_ hbw hc16;replace hbs := bo_ hbs hc16;clear hc16;refine EL.mv rfl rfl (EL.xt rfl rfl rfl (EL.xt rfl rfl rfl (EL.store rfl rfl q3 Yp rfl rfl rfl rfl ?_)));intro w17 hq17 hg17;replace q2 := q2.gr hg17 n2_3;replace hbw := ZC hbw hg17 bhbw_3;clear hbs;replace q3 := hq17;clear hg17 hq17;refine EL.as rfl rfl (EL.nil (EX.seq (EC.seq (EC.seq (EC.region (EL.mv rfl rfl (EL.val (ZV rfl) rfl (EL.nil (EX.seq ?_)))))))));refine EC.yes rfl (EC.seq (EC.region (EL.val (QLR) rfl (EL.store rfl rfl q3 Yp rfl rfl rfl rfl ?_))));intro w18 hq18 hg18;replace q2 := q2.gr hg18 n2_3;replace hbw := ZC hbw hg18 bhbw_3;replace q3 := hq18;clear hg18 hq18;refine EL.as rfl rfl (EL.nil (EX.seq (EC.ret (EX.seq_ret ?_))))
      exact EX.done (Zy rfl rfl rfl (QBI (q3.at (j := 0) rfl) (q3.at (j := 1) rfl) (q3.at (j := 2) rfl) (q3.at (j := 3) rfl) (q3.at (j := 4) rfl))) ⟨by rw [(QIx hhul hle hlo hden hflo).1, (QIx hhul hle hlo hden hflo).2] <;> rfl, hbw⟩
     ·
      refine EL.call (cA3 cF58 rfl rfl rfl) rfl (by have key := QBC hH _ _ vs g _ (max B wS.heap.size) ((hs.below hbs).more (Nat.le_max_right _ _)) (Nat.max_le.2 ⟨Nat.le_trans hB hbw.size, hbs.size⟩) hL d hden _ ((hri.below (hbw.mono hB)).more (Nat.le_max_left _ _)); rw [hflo] at key; exact key) ?_
      rintro e w19 ⟨rfl, hc19⟩
      refine ⟨_, rfl, ?_⟩;replace q2 := q2.bl hc19;replace q3 := q3.bl hc19;replace hbw := bo_ hbw hc19;replace hbs := bo_ hbs hc19;clear hc19;refine EL.mv rfl rfl (EL.xt rfl rfl rfl (EL.xt rfl rfl rfl (EL.store rfl rfl q3 Yp rfl rfl rfl rfl ?_)));intro w20 hq20 hg20;replace q2 := q2.gr hg20 n2_3;replace hbw := ZC hbw hg20 bhbw_3;clear hbs;replace q3 := hq20;clear hg20 hq20;refine EL.as rfl rfl (EL.nil (EX.seq (EC.seq (EC.seq (EC.region (EL.mv rfl rfl (EL.val (ZV rfl) rfl (EL.nil (EX.seq ?_)))))))));refine EC.no rfl (EC.skip (EX.seq (EC.seq (EC.region (EL.val (QBi rfl (q3.at (j := 0) rfl) (q3.at (j := 1) rfl) (q3.at (j := 2) rfl) (q3.at (j := 3) rfl) (q3.at (j := 4) rfl)) rfl (EL.store rfl rfl q3 Yp rfl rfl rfl rfl ?_))))));intro w21 hq21 hg21;replace q2 := q2.gr hg21 n2_3;replace hbw := ZC hbw hg21 bhbw_3;replace q3 := hq21;clear hg21 hq21;refine EL.as rfl rfl (EL.nil (EX.seq (EC.ret ?_)))
      exact EX.done (Zy rfl rfl rfl (QBI (q3.at (j := 0) rfl) (q3.at (j := 1) rfl) (q3.at (j := 2) rfl) (q3.at (j := 3) rfl) (q3.at (j := 4) rfl))) ⟨by rw [(QEY hhul hle hlo hden hflo).1, (QEY hhul hle hlo hden hflo).2] <;> rfl, hbw⟩
theorem QGG (h : Hul) (v : Value) (vs : List (Value × Value)) (w : World) (B : Nat) (hr : RdSecs w B v h.secs vs) (hB : B ≤ w.heap.size) (hl : h.secs.length ≤ 1048576) (hfew : Zl h.secs) (l : List Int) (vl : Value) (hri : Rd w B 1 vl l.length (ints l)) (d : Bd) :
  Calls Try.prog 22 #[.agg #[.int .i64 h.lot, v], vl, .agg #[.int .i64 d.lo, .int .i64 d.hi]] w fun e w' => e = .returned (.tuple #[.agg #[.int .i64 (YH h l d).mean.lo, .int .i64 (YH h l d).mean.hi, .int .i64 (YH h l d).deep.lo, .int .i64 (YH h l d).deep.hi, .int .i64 (YH h l d).head], .int .i64 (Z8 h l d)]) ∧ Below w.heap.size w w' := by
 obtain ⟨A, c, rfl⟩ := hr.shape;have hbw := Below.refl w.heap.size w;refine EC.enter 14 Try.func22 rfl rfl rfl (EC.seq (EC.region (EL.newP (QCT rfl) rfl ?_)));intro g1 w1 q1 hb1 hg1 hl1;have bhbw_1 := Nat.le_trans hbw.size hg1;replace hbw := bo_ hbw hb1;clear hb1 hg1 hl1;refine EL.newP (QBx rfl) rfl ?_;intro g2 w2 q2 hb2 hg2 hl2;have n1_2 := q1.na hg2;have bhbw_2 := Nat.le_trans hbw.size hg2;replace q1 := q1.bl hb2;replace hbw := bo_ hbw hb2;clear hb2 hg2 hl2;refine EL.newP QCW rfl ?_;intro g3 w3 q3 hb3 hg3 hl3;have n1_3 := q1.na hg3;have n2_3 := q2.na hg3;have bhbw_3 := Nat.le_trans hbw.size hg3;replace q1 := q1.bl hb3;replace q2 := q2.bl hb3;replace hbw := bo_ hbw hb3;clear hb3 hg3 hl3;refine EL.as rfl rfl (EL.nil (EX.seq (EC.seq (EC.region (EL.val (QBj rfl (q1.at (j := 0) rfl) (q1.at (j := 1) rfl)) rfl (EL.mv rfl rfl (EL.val (Zp rfl (q2.at (j := 0) rfl) (q2.at (j := 1) rfl)) rfl (EL.call (cA3 cF43 rfl rfl rfl) rfl (QCG h _ vs _ B (hr.below (hbw.mono hB)) (Nat.le_trans hB hbw.size) hl hfew l vl (hri.below (hbw.mono hB)) d) ?_))))))))
 rintro e w4 ⟨rfl, hc4⟩
 refine ⟨_, rfl, ?_⟩;replace q1 := q1.bl hc4;replace q2 := q2.bl hc4;replace q3 := q3.bl hc4;replace hbw := bo_ hbw hc4;clear hc4;refine EL.xt rfl rfl rfl (EL.xt rfl rfl rfl (EL.store rfl rfl q3 Yp rfl rfl rfl rfl ?_));intro w5 hq5 hg5;replace q1 := q1.gr hg5 n1_3;replace q2 := q2.gr hg5 n2_3;replace hbw := ZC hbw hg5 bhbw_3;replace q3 := hq5;clear hg5 hq5;refine EL.as rfl rfl (EL.nil (EX.seq (EC.ret ?_)))
 exact EX.done (Zy rfl rfl rfl (QBI (q3.at (j := 0) rfl) (q3.at (j := 1) rfl) (q3.at (j := 2) rfl) (q3.at (j := 3) rfl) (q3.at (j := 4) rfl))) ⟨rfl, hbw⟩
theorem QFZ (h : Hul) (v : Value) (vs : List (Value × Value)) (w : World) (B : Nat) (hr : RdSecs w B v h.secs vs) (hB : B ≤ w.heap.size) (hl : h.secs.length ≤ 1048576) (hfew : Zl h.secs) (dr : Int) :
  Calls Try.prog 23 #[.agg #[.int .i64 h.lot, v], .int .i64 dr] w fun e w' => e = .returned (.tuple #[.int .i64 (volF h dr), .int .i64 (volE h dr)]) ∧ Below w.heap.size w w' := by
 obtain ⟨A, c, rfl⟩ := hr.shape;have hbw := Below.refl w.heap.size w;refine EC.enter 29 Try.func23 rfl rfl rfl (EC.seq (EC.region (EL.newP (QCT rfl) rfl ?_)));intro g1 w1 q1 hb1 hg1 hl1;have bhbw_1 := Nat.le_trans hbw.size hg1;replace hbw := bo_ hbw hb1;clear hb1 hg1 hl1;refine EL.as rfl rfl (EL.as rfl rfl (EL.nil (EX.seq (EC.seq (EC.region (EL.val (QBj rfl (q1.at (j := 0) rfl) (q1.at (j := 1) rfl)) rfl ?_))))))
 cases hhul : hulB h
 ·
  refine EL.call (cA1 cF39 rfl) rfl (QBm hhul _ _ _ B (hr.below (hbw.mono hB)) (Nat.le_trans hB hbw.size) hl hfew) ?_
  rintro e w2 ⟨rfl, hc2⟩
  refine ⟨_, rfl, ?_⟩;replace q1 := q1.bl hc2;replace hbw := bo_ hbw hc2;clear hc2;refine EL.mv rfl rfl (EL.xt rfl rfl rfl (EL.xt rfl rfl rfl (EL.as rfl rfl (EL.as rfl rfl (EL.nil (EX.seq (EC.seq (EC.block (EC.seq ?_)))))))));refine EC.region (EL.mv rfl rfl ?_);refine EL.val (Zq (r := true) rfl rfl (decide_eq_true (by decide))) rfl ?_
  refine EL.as rfl rfl (EL.nil (EX.seq (EC.yes rfl (EC.seq (EC.region (EL.mv rfl rfl (EL.as rfl rfl (EL.as rfl rfl (EL.nil ?_)))))))));refine EX.seq (EC.ret (EX.blk_ret (EX.seq_ret ?_)))
  exact EX.done (res2 rfl rfl rfl) ⟨by rw [(QKh hhul).1, (QKh hhul).2] <;> rfl, hbw⟩
 ·
  refine EL.call (cA1 cF39 rfl) rfl (QDP hhul _ _ _ B (hr.below (hbw.mono hB)) (Nat.le_trans hB hbw.size) hl hfew) ?_
  rintro e wS ⟨⟨g, hv, rfl, hgw, hs⟩, hc3⟩
  refine ⟨_, rfl, ?_⟩;replace q1 := q1.bl hc3;replace hbw := bo_ hbw hc3;clear hc3;have hH := QBS hhul;have hbs := Below.refl wS.heap.size wS;refine EL.mv rfl rfl (EL.xt rfl rfl rfl (EL.xt rfl rfl rfl (EL.as rfl rfl (EL.as rfl rfl (EL.nil (EX.seq (EC.seq (EC.block (EC.seq ?_)))))))));refine EC.region (EL.mv rfl rfl ?_);refine EL.val (Zq (r := false) rfl rfl (decide_eq_false (by decide))) rfl ?_
  refine EL.as rfl rfl (EL.nil (EX.seq (EC.no rfl (EC.seq (EC.region (EL.mv rfl rfl (EL.val (ZK rfl) rfl (EL.val (Y7 rfl) rfl (EL.val (ld_3 rfl (ZD hbs (hs.c (j := 7) rfl))) rfl ?_)))))))));refine EL.mv rfl rfl (EL.newS (Zt rfl) rfl ?_);intro g4 w4 q4 hb4 hg4 hl4;have n1_4 := q1.na hg4;have bhbw_4 := Nat.le_trans hbw.size hg4;have bhbs_4 := Nat.le_trans hbs.size hg4;replace q1 := q1.bl hb4;replace hbw := bo_ hbw hb4;replace hbs := bo_ hbs hb4;clear hb4 hg4 hl4
  cases hin : inB 0 (limS h.secs) dr
  ·
   refine EL.call (cA3 cF35 rfl rfl rfl) rfl (ZW q4 hin) ?_
   rintro e w5 ⟨rfl, hc5⟩
   refine ⟨_, rfl, ?_⟩;replace q1 := q1.bl hc5;replace q4 := q4.bl hc5;replace hbw := bo_ hbw hc5;replace hbs := bo_ hbs hc5;clear hc5;refine EL.val (ZV rfl) rfl (EL.as rfl rfl (EL.nil (EX.seq (EC.yes rfl (EC.seq (EC.region (EL.as rfl rfl (EL.as rfl rfl (EL.nil ?_)))))))));refine EX.seq (EC.ret (EX.blk_ret (EX.seq_ret ?_)))
   exact EX.done (res2 rfl rfl rfl) ⟨by rw [(QKg hhul hin).1, (QKg hhul hin).2] <;> rfl, hbw⟩
  ·
   refine EL.call (cA3 cF35 rfl rfl rfl) rfl (ZW q4 hin) ?_
   rintro e w6 ⟨rfl, hc6⟩
   refine ⟨_, rfl, ?_⟩;replace q1 := q1.bl hc6;replace q4 := q4.bl hc6;replace hbw := bo_ hbw hc6;replace hbs := bo_ hbs hc6;clear hc6;refine EL.val (ZV rfl) rfl (EL.as rfl rfl (EL.nil (EX.seq (EC.no rfl (EC.skip (EX.blk (EX.seq (EC.seq (EC.region ?_)))))))));refine EL.mv rfl rfl (EL.mv rfl rfl (EL.call (cA2 cF44 rfl rfl) rfl (QE9 hH _ _ vs g _ _ (hs.below hbs) hbs.size dr (inB_iff.1 hin).1 (inB_iff.1 hin).2) ?_))
   rintro e w7 ⟨rfl, hc7⟩
   refine ⟨_, rfl, ?_⟩;replace q1 := q1.bl hc7;replace q4 := q4.bl hc7;replace hbw := bo_ hbw hc7;replace hbs := bo_ hbs hc7;clear hc7;refine EL.as rfl rfl (EL.as rfl rfl (EL.nil (EX.seq (EC.ret ?_))))
   exact EX.done (res2 rfl rfl rfl) ⟨by rw [(QIJ hhul hin).1, (QIJ hhul hin).2] <;> rfl, hbw⟩
set_option maxRecDepth 100000 in
theorem QA3 (p : Pas) (q : PasV) (w : World) (B : Nat) (hp : RdPas w B p q) (hB : B ≤ w.heap.size) (hf : PasFew p) :
  Calls Try.prog 41 #[pasA p q] w fun e w' => e = .returned (.tuple #[.agg #[.int .i64 (sndR p).lo, .int .i64 (sndR p).hi, .int .i64 (sndR p).pass, .int .i64 (sndR p).hour], .int .i64 (sndE p)]) ∧ Below w.heap.size w w' := by
 obtain ⟨v, u, s, vl, vs, ss⟩ := q;obtain ⟨Av, cv, ev_, _⟩ := hp.river.reaches.shape;obtain ⟨Au, cu, eu_, _⟩ := hp.river.shoals.shape;obtain ⟨As, cs, es_, _⟩ := hp.sides.rd.shape;obtain ⟨Al, cl, el_, _⟩ := hp.way.shape
 dsimp only at ev_ eu_ es_ el_
 subst ev_ eu_ es_ el_
 unfold pasA
 dsimp only
 have hbw := Below.refl w.heap.size w;refine EC.enter 27 Try.func41 rfl rfl rfl (EC.seq (EC.region (EL.newP (QHE rfl) rfl ?_)));intro g1 w1 q1 hb1 hg1 hl1;have bhbw_1 := Nat.le_trans hbw.size hg1;replace hbw := bo_ hbw hb1;clear hb1 hg1 hl1;refine EL.newP QDl rfl ?_;intro g2 w2 q2 hb2 hg2 hl2;have n1_2 := q1.na hg2;have bhbw_2 := Nat.le_trans hbw.size hg2;replace q1 := q1.bl hb2;replace hbw := bo_ hbw hb2;clear hb2 hg2 hl2;refine EL.as rfl rfl (EL.nil (EX.seq (EC.seq (EC.seq (EC.region (EL.val (QBq rfl) rfl (EL.val (ld_3 rfl (q1.at (j := 4) rfl)) rfl (EL.newS (Zt rfl) rfl ?_))))))));intro g3 w3 q3 hb3 hg3 hl3;have n1_3 := q1.na hg3;have n2_3 := q2.na hg3;have bhbw_3 := Nat.le_trans hbw.size hg3;replace q1 := q1.bl hb3;replace q2 := q2.bl hb3;replace hbw := bo_ hbw hb3;clear hb3 hg3 hl3
 cases hkl : inB 0 500 p.keel
 ·
  refine EL.call (cA3 cF35 rfl rfl rfl) rfl (ZW q3 hkl) ?_
  rintro e w4 ⟨rfl, hc4⟩
  refine ⟨_, rfl, ?_⟩;replace q1 := q1.bl hc4;replace q2 := q2.bl hc4;replace q3 := q3.bl hc4;replace hbw := bo_ hbw hc4;clear hc4;refine EL.val (ZV rfl) rfl (EL.nil (EX.seq (EC.yes rfl (EC.seq (EC.region (EL.val (QJC rfl (q2.at (j := 0) rfl) (q2.at (j := 1) rfl) (q2.at (j := 2) rfl) (q2.at (j := 3) rfl)) rfl (EL.store rfl rfl q2 QB3 rfl rfl rfl rfl ?_)))))));intro w5 hq5 hg5;replace q1 := q1.gr hg5 n1_2;replace q3 := q3.gr hg5 n2_3.symm;replace hbw := ZC hbw hg5 bhbw_2;replace q2 := hq5;clear hg5 hq5;refine EL.as rfl rfl (EL.nil (EX.seq (EC.ret (EX.seq_ret ?_))))
  exact EX.done (Zy rfl rfl rfl (QIw (q2.at (j := 0) rfl) (q2.at (j := 1) rfl) (q2.at (j := 2) rfl) (q2.at (j := 3) rfl))) ⟨by rw [sndE, sndR, hkl]; rfl, hbw⟩
 ·
  refine EL.call (cA3 cF35 rfl rfl rfl) rfl (ZW q3 hkl) ?_
  rintro e w6 ⟨rfl, hc6⟩
  refine ⟨_, rfl, ?_⟩;replace q1 := q1.bl hc6;replace q2 := q2.bl hc6;replace q3 := q3.bl hc6;replace hbw := bo_ hbw hc6;clear hc6;refine EL.val (ZV rfl) rfl (EL.nil (EX.seq (EC.no rfl (EC.skip (EX.seq (EC.seq (EC.region (EL.val (QKJ rfl) rfl (EL.val (QFV rfl (q1.at (j := 0) rfl) (q1.at (j := 1) rfl)) rfl ?_)))))))));refine EL.val (QKI rfl) rfl (EL.val (QLm rfl (q1.at (j := 2) rfl)) rfl (EL.val (QBD rfl) rfl (EL.val (QFU rfl (q1.at (j := 3) rfl)) rfl (EL.call (cA3 cF56 rfl rfl rfl) rfl (QFB p.rv p.sides _ _ _ vs ss p.way _ _ B (hp.river.below (hbw.mono hB)) (hp.sides.below (hbw.mono hB)) (Nat.le_trans hB hbw.size) (hp.way.below (hbw.mono hB)) hf.reaches hf.shoals hf.curves hf.sides hf.side) ?_))))
  rintro e w7 ⟨rfl, hc7⟩
  refine ⟨_, rfl, ?_⟩;replace q1 := q1.bl hc7;replace q2 := q2.bl hc7;replace q3 := q3.bl hc7;replace hbw := bo_ hbw hc7;clear hc7;refine EL.mv rfl rfl (EL.xt rfl rfl rfl (EL.xt rfl rfl rfl (EL.xt rfl rfl rfl (EL.xt rfl rfl rfl (EL.val (QAv rfl) rfl (EL.store rfl rfl q2 Z7 rfl rfl rfl rfl ?_))))));intro w8 hq8 hg8;replace q1 := q1.gr hg8 n1_2;replace q3 := q3.gr hg8 n2_3.symm;replace hbw := ZC hbw hg8 bhbw_2;replace q2 := hq8;clear hg8 hq8;refine EL.val (QDZ rfl) rfl (EL.store rfl rfl q2 sz_3 rfl rfl rfl rfl ?_);intro w9 hq9 hg9;replace q1 := q1.gr hg9 n1_2;replace q3 := q3.gr hg9 n2_3.symm;replace hbw := ZC hbw hg9 bhbw_2;replace q2 := hq9;clear hg9 hq9;refine EL.val (QDY rfl) rfl (EL.store rfl rfl q2 sz_3 rfl rfl rfl rfl ?_);intro w10 hq10 hg10;replace q1 := q1.gr hg10 n1_2;replace q3 := q3.gr hg10 n2_3.symm;replace hbw := ZC hbw hg10 bhbw_2;replace q2 := hq10;clear hg10 hq10;refine EL.as rfl rfl (EL.nil (EX.seq (EC.seq (EC.region (EL.val (QJC rfl (q2.at (j := 0) rfl) (q2.at (j := 1) rfl) (q2.at (j := 2) rfl) (q2.at (j := 3) rfl)) rfl (EL.mv rfl rfl (EL.store rfl rfl q2 QB3 rfl rfl rfl rfl ?_)))))));intro w11 hq11 hg11;replace q1 := q1.gr hg11 n1_2;replace q3 := q3.gr hg11 n2_3.symm;replace hbw := ZC hbw hg11 bhbw_2;replace q2 := hq11;clear hg11 hq11;refine EL.as rfl rfl (EL.nil (EX.seq (EC.ret ?_)))
  exact EX.done (Zy rfl rfl rfl (QIw (q2.at (j := 0) rfl) (q2.at (j := 1) rfl) (q2.at (j := 2) rfl) (q2.at (j := 3) rfl))) ⟨by rw [sndE, sndR, hkl]; rfl, hbw⟩
theorem res5 {P : Program} {n : Nat} {σ : Sg} {w : World} {fn : Func} {s1 s2 s3 s4 s5 : Tmp} {u1 u2 u3 u4 u5 : Value} (h : fn.results = #[.tmp s1, .tmp s2, .tmp s3, .tmp s4, .tmp s5]) (h1 : σ s1 = some u1) (h2 : σ s2 = some u2) (h3 : σ s3 = some u3) (h4 : σ s4 = some u4) (h5 : σ s5 = some u5) (a : Act) (ha : Env n σ a) : (results fn a.tmps).run P w = .ok (.tuple #[u1, u2, u3, u4, u5]) w := by
 have e1 : a.tmps.getD s1 undef = u1 := ha.eval (x := .tmp s1) h1;have e2 : a.tmps.getD s2 undef = u2 := ha.eval (x := .tmp s2) h2;have e3 : a.tmps.getD s3 undef = u3 := ha.eval (x := .tmp s3) h3;have e4 : a.tmps.getD s4 undef = u4 := ha.eval (x := .tmp s4) h4;have e5 : a.tmps.getD s5 undef = u5 := ha.eval (x := .tmp s5) h5;rw [Array.getD_eq_getD_getElem?] at e1 e2 e3 e4 e5
 simp [results, h, e1, e2, e3, e4, e5]
section
variable {h : Hul} {l : List Int} {d : Bd} {p : Pas}
theorem QFA (h0 : sndE p = 0) : 0 ≤ p.keel ∧ p.keel ≤ 500 := by
 unfold sndE at h0
 by_cases hk : inB 0 500 p.keel = true
 ·exact inB_iff.1 hk
 ·rw [if_neg hk] at h0; omega
theorem QIe (h0 : Z8 h l d ≠ 0) : safE h l d p = Z8 h l d := if_neg h0
theorem QId (h0 : Z8 h l d = 0) : safE h l d p = sndE p := if_pos h0
theorem QGh (h0 : safE h l d p ≠ 0) : safS h l d p = false ∧ safP h l d p = false ∧ safA h l d p = 0 ∧ safH h l d p = 0 := by simp [safS, safP, safA, safH, h0]
theorem QER (h0 : safE h l d p = 0) : safS h l d p = decide ((fltT h l d).deep.hi + p.keel ≤ (sndR p).lo) ∧ safP h l d p = decide ((fltT h l d).deep.lo + p.keel ≤ (sndR p).hi) ∧ safA h l d p = (sndR p).pass ∧ safH h l d p = (sndR p).hour := by simp [safS, safP, safA, safH, h0]
end
set_option maxRecDepth 100000 in
theorem QIc (h : Hul) (hvv : Value) (hvs : List (Value × Value)) (w : World) (B : Nat) (hr : RdSecs w B hvv h.secs hvs) (hB : B ≤ w.heap.size) (hl : h.secs.length ≤ 1048576) (hfew : Zl h.secs) (l : List Int) (vll : Value) (hri : Rd w B 1 vll l.length (ints l)) (d : Bd) (p : Pas) (q : PasV) (hp : RdPas w B p q) (hf : PasFew p) :
  Calls Try.prog 20 #[.agg #[.int .i64 h.lot, hvv], vll, .agg #[.int .i64 d.lo, .int .i64 d.hi], pasA p q] w fun e w' => e = .returned (.tuple #[.bool (safS h l d p), .bool (safP h l d p), .int .i64 (safA h l d p), .int .i64 (safH h l d p), .int .i64 (safE h l d p)]) ∧ Below w.heap.size w w' := by
 obtain ⟨Ahh, chh, rfl⟩ := hr.shape;obtain ⟨All, cll, rfl, _⟩ := hri.shape;obtain ⟨v, u, s, vl, vs, ss⟩ := q;obtain ⟨Av, cv, ev_, _⟩ := hp.river.reaches.shape;obtain ⟨Au, cu, eu_, _⟩ := hp.river.shoals.shape;obtain ⟨As, cs, es_, _⟩ := hp.sides.rd.shape;obtain ⟨Al, cl, el_, _⟩ := hp.way.shape
 dsimp only at ev_ eu_ es_ el_
 subst ev_ eu_ es_ el_
 unfold pasA
 dsimp only
 have hbw := Below.refl w.heap.size w;refine EC.enter 57 Try.func20 rfl rfl rfl (EC.seq (EC.region (EL.newP (QCT rfl) rfl ?_)));intro g1 w1 q1 hb1 hg1 hl1;have bhbw_1 := Nat.le_trans hbw.size hg1;replace hbw := bo_ hbw hb1;clear hb1 hg1 hl1;refine EL.newP (QBx rfl) rfl ?_;intro g2 w2 q2 hb2 hg2 hl2;have n1_2 := q1.na hg2;have bhbw_2 := Nat.le_trans hbw.size hg2;replace q1 := q1.bl hb2;replace hbw := bo_ hbw hb2;clear hb2 hg2 hl2;refine EL.newP (QHE rfl) rfl ?_;intro g3 w3 q3 hb3 hg3 hl3;have n1_3 := q1.na hg3;have n2_3 := q2.na hg3;have bhbw_3 := Nat.le_trans hbw.size hg3;replace q1 := q1.bl hb3;replace q2 := q2.bl hb3;replace hbw := bo_ hbw hb3;clear hb3 hg3 hl3;refine EL.as rfl rfl (EL.as rfl rfl (EL.as rfl rfl (EL.as rfl rfl (EL.as rfl rfl (EL.nil (EX.seq (EC.seq (EC.region (EL.val (QBj rfl (q1.at (j := 0) rfl) (q1.at (j := 1) rfl)) rfl ?_)))))))));refine EL.mv rfl rfl (EL.val (Zp rfl (q2.at (j := 0) rfl) (q2.at (j := 1) rfl)) rfl (EL.call (cA3 cF43 rfl rfl rfl) rfl (QCG h _ hvs _ B (hr.below (hbw.mono hB)) (Nat.le_trans hB hbw.size) hl hfew l _ (hri.below (hbw.mono hB)) d) ?_))
 rintro e w4 ⟨rfl, hc4⟩
 refine ⟨_, rfl, ?_⟩;replace q1 := q1.bl hc4;replace q2 := q2.bl hc4;replace q3 := q3.bl hc4;replace hbw := bo_ hbw hc4;clear hc4;refine EL.mv rfl rfl (EL.xt rfl rfl rfl (EL.xt rfl rfl rfl (EL.newP QCW rfl ?_)));intro g5 w5 q5 hb5 hg5 hl5;have n1_5 := q1.na hg5;have n2_5 := q2.na hg5;have n3_5 := q3.na hg5;have bhbw_5 := Nat.le_trans hbw.size hg5;replace q1 := q1.bl hb5;replace q2 := q2.bl hb5;replace q3 := q3.bl hb5;replace hbw := bo_ hbw hb5;clear hb5 hg5 hl5;refine EL.store rfl rfl q5 Yp rfl rfl rfl rfl ?_;intro w6 hq6 hg6;replace q1 := q1.gr hg6 n1_5;replace q2 := q2.gr hg6 n2_5;replace q3 := q3.gr hg6 n3_5;replace hbw := ZC hbw hg6 bhbw_5;replace q5 := hq6;clear hg6 hq6;refine EL.as rfl rfl (EL.nil (EX.seq (EC.seq (EC.seq (EC.region (EL.mv rfl rfl ?_))))))
 by_cases hE : Z8 h l d ≠ 0
 ·
  refine EL.val (Zq (r := true) rfl rfl (decide_eq_true hE)) rfl (EL.nil (EX.seq (EC.yes rfl (EC.seq (EC.region (EL.mv rfl rfl (EL.as rfl rfl (EL.as rfl rfl (EL.as rfl rfl ?_)))))))));refine EL.as rfl rfl (EL.as rfl rfl (EL.nil (EX.seq (EC.ret (EX.seq_ret ?_)))))
  exact EX.done (res5 rfl rfl rfl rfl rfl rfl) ⟨by have hsE := QIe (p := p) hE; have hsn := QGh (hsE ▸ hE); rw [hsE, hsn.1, hsn.2.1, hsn.2.2.1, hsn.2.2.2] <;> rfl, hbw⟩
 ·
  have hE := Classical.not_not.1 hE;have hLi := QGx hE;have hdb := QHB hLi;rw [hLi.f];refine EL.val (Zq (r := false) rfl rfl (decide_eq_false (fun h => h hE))) rfl ?_
  refine EL.nil (EX.seq (EC.no rfl (EC.skip (EX.seq (EC.seq (EC.region (EL.val (QG3 rfl (q3.at (j := 0) rfl) (q3.at (j := 1) rfl) (q3.at (j := 2) rfl) (q3.at (j := 3) rfl) (q3.at (j := 4) rfl)) rfl (EL.call (cA1 cF41 rfl) rfl (QA3 p ⟨_, _, _, _, vs, ss⟩ _ B (hp.below (hbw.mono hB)) (Nat.le_trans hB hbw.size) hf) ?_))))))))
  rintro e w7 ⟨rfl, hc7⟩
  refine ⟨_, rfl, ?_⟩;replace q1 := q1.bl hc7;replace q2 := q2.bl hc7;replace q3 := q3.bl hc7;replace q5 := q5.bl hc7;replace hbw := bo_ hbw hc7;clear hc7;refine EL.mv rfl rfl (EL.xt rfl rfl rfl (EL.xt rfl rfl rfl (EL.newP QDl rfl ?_)));intro g8 w8 q8 hb8 hg8 hl8;have n1_8 := q1.na hg8;have n2_8 := q2.na hg8;have n3_8 := q3.na hg8;have n5_8 := q5.na hg8;have bhbw_8 := Nat.le_trans hbw.size hg8;replace q1 := q1.bl hb8;replace q2 := q2.bl hb8;replace q3 := q3.bl hb8;replace q5 := q5.bl hb8;replace hbw := bo_ hbw hb8;clear hb8 hg8 hl8;refine EL.store rfl rfl q8 QB3 rfl rfl rfl rfl ?_;intro w9 hq9 hg9;replace q1 := q1.gr hg9 n1_8;replace q2 := q2.gr hg9 n2_8;replace q3 := q3.gr hg9 n3_8;replace q5 := q5.gr hg9 n5_8;replace hbw := ZC hbw hg9 bhbw_8;replace q8 := hq9;clear hg9 hq9;refine EL.as rfl rfl (EL.nil (EX.seq (EC.seq (EC.seq (EC.region (EL.mv rfl rfl ?_))))))
  by_cases hS : sndE p ≠ 0
  ·
   refine EL.val (Zq (r := true) rfl rfl (decide_eq_true hS)) rfl (EL.nil (EX.seq (EC.yes rfl (EC.seq (EC.region (EL.mv rfl rfl (EL.as rfl rfl (EL.as rfl rfl (EL.as rfl rfl ?_)))))))));refine EL.as rfl rfl (EL.as rfl rfl (EL.nil (EX.seq (EC.ret (EX.seq_ret ?_)))))
   exact EX.done (res5 rfl rfl rfl rfl rfl rfl) ⟨by have hsE := QId (p := p) hE; have hsn := QGh (hsE ▸ hS); rw [hsE, hsn.1, hsn.2.1, hsn.2.2.1, hsn.2.2.2] <;> rfl, hbw⟩
  ·
   have hS := Classical.not_not.1 hS;have hkb := QFA hS;have hsf : safE h l d p = 0 := by rw [safE, if_pos hE]; exact hS
   refine EL.val (Zq (r := false) rfl rfl (decide_eq_false (fun h => h hS))) rfl ?_
   refine EL.nil (EX.seq (EC.no rfl (EC.skip (EX.seq (EC.seq ?_)))));have q13f : Blk w9 g5 76 #[.int .i64 (fltT h l d).mean.lo, .int .i64 (fltT h l d).mean.hi, .int .i64 (fltT h l d).deep.lo, .int .i64 (fltT h l d).deep.hi, .int .i64 (fltT h l d).head] := by rw [← hLi.f]; exact q5
   clear q5;have lt_1 := q1.lt;have lt_2 := q2.lt;have lt_3 := q3.lt;have lt_5 := q13f.lt;have lt_8 := q8.lt;refine EC.regionP [[], [0], [0, 1], [], [3], [0, 1, 2, 3, 4], [], [6], [6, 7], [0, 1, 2, 3, 4, 5, 6, 7, 8], [], [10], [10, 11], [], [13], [10, 11, 12, 13, 14], [], [16], [16, 17], [10, 11, 12, 13, 14, 15, 16, 17, 18], [], [20], [], [22], [0, 1, 2, 3, 4, 5, 6, 7, 8, 9], [0, 1, 2, 3, 4, 5, 6, 7, 8, 9, 10, 11, 12, 13, 14, 15, 16, 17, 18, 19, 24], [0, 1, 2, 3, 4, 5, 6, 7, 8, 9, 10, 11, 12, 13, 14, 15, 16, 17, 18, 19, 20, 21, 24, 25], [0, 1, 2, 3, 4, 5, 6, 7, 8, 9, 10, 11, 12, 13, 14, 15, 16, 17, 18, 19, 20, 21, 22, 23, 24, 25, 26], [0, 1, 2, 3, 4, 5, 6, 7, 8, 9, 10, 11, 12, 13, 14, 15, 16, 17, 18, 19, 20, 21, 22, 23, 24, 25, 26, 27]] 29 [] (phi (fun i_ r => match i_ with | 0 => r 0 = .pointer (some ⟨g5, 2, none⟩) | 1 => r 1 = .pointer (some ⟨g5, 2 + 1, none⟩) | 2 => r 2 = .int .i64 (fltT h l d).deep.hi | 3 => r 3 = .pointer (some ⟨g3, 4, none⟩) | 4 => r 4 = .int .i64 p.keel | 5 => r 5 = .int .i64 ((fltT h l d).deep.hi + p.keel) | 6 => r 6 = .pointer (some ⟨g8, 0, none⟩) | 7 => r 7 = .pointer (some ⟨g8, 0, none⟩) | 8 => r 8 = .int .i64 (sndR p).lo | 9 => r 9 = .bool (decide ((fltT h l d).deep.hi + p.keel ≤ (sndR p).lo)) | 10 => r 10 = .pointer (some ⟨g5, 2, none⟩) | 11 => r 11 = .pointer (some ⟨g5, 2, none⟩) | 12 => r 12 = .int .i64 (fltT h l d).deep.lo | 13 => r 13 = .pointer (some ⟨g3, 4, none⟩) | 14 => r 14 = .int .i64 p.keel | 15 => r 15 = .int .i64 ((fltT h l d).deep.lo + p.keel) | 16 => r 16 = .pointer (some ⟨g8, 0, none⟩) | 17 => r 17 = .pointer (some ⟨g8, 1, none⟩) | 18 => r 18 = .int .i64 (sndR p).hi | 19 => r 19 = .bool (decide ((fltT h l d).deep.lo + p.keel ≤ (sndR p).hi)) | 20 => r 20 = .pointer (some ⟨g8, 2, none⟩) | 21 => r 21 = .int .i64 (sndR p).pass | 22 => r 22 = .pointer (some ⟨g8, 3, none⟩) | 23 => r 23 = .int .i64 (sndR p).hour | 24 => r 24 = .bool (decide ((fltT h l d).deep.hi + p.keel ≤ (sndR p).lo)) | 25 => r 25 = .bool (decide ((fltT h l d).deep.lo + p.keel ≤ (sndR p).hi)) | 26 => r 26 = .int .i64 (sndR p).pass | 27 => r 27 = .int .i64 (sndR p).hour | 28 => r 28 = .int .i64 0 | _ => True) []) (by kernel_rfl) rfl rfl (ZY) (fun i_ hi_ => ?_) ?_
   ·match i_, hi_ with
    | 0, _ =>
     intro val w1 a hb ha hd;have ha := ha.s0 (d := 13) rfl
     exact ZB ha rfl rfl (Yy rfl) rfl rfl
    | 1, _ =>
     intro val w1 a hb ha hd;have e0 : val 0 = _ := hd 0 (ZA.1 rfl);have ha := ha.s1 (d := 33) rfl e0
     exact ZB ha rfl rfl (ZR rfl) rfl rfl
    | 2, _ =>
     intro val w1 a hb ha hd;have e1 : val 1 = _ := hd 1 (ZA.1 rfl);have ha := ha.s1 (d := 34) rfl e1
     exact ZB ha rfl rfl (ld_3 rfl ((q13f.below hb q13f.lt).at (j := 3) rfl)) rfl rfl
    | 3, _ =>
     intro val w1 a hb ha hd;have ha := ha.s0 (d := 7) rfl
     exact ZB ha rfl rfl (QBq rfl) rfl rfl
    | 4, _ =>
     intro val w1 a hb ha hd;have e3 : val 3 = _ := hd 3 (ZA.1 rfl);have ha := ha.s1 (d := 36) rfl e3
     exact ZB ha rfl rfl (ld_3 rfl ((q3.below hb q3.lt).at (j := 4) rfl)) rfl rfl
    | 5, _ =>
     intro val w1 a hb ha hd;have e2 : val 2 = _ := hd 2 (ZA.1 rfl);have e4 : val 4 = _ := hd 4 (ZA.1 rfl);have ha := ha.s2 (d := 37) (e := 35) rfl e4 rfl e2
     exact ZB ha rfl rfl (ZM rfl rfl (IntWalk.i64_in _ ⟨by omega, by omega⟩)) rfl rfl
    | 6, _ =>
     intro val w1 a hb ha hd;have ha := ha.s0 (d := 14) rfl
     exact ZB ha rfl rfl (QAv rfl) rfl rfl
    | 7, _ =>
     intro val w1 a hb ha hd;have e6 : val 6 = _ := hd 6 (ZA.1 rfl);have ha := ha.s1 (d := 39) rfl e6
     exact ZB ha rfl rfl (ZS rfl) rfl rfl
    | 8, _ =>
     intro val w1 a hb ha hd;have e7 : val 7 = _ := hd 7 (ZA.1 rfl);have ha := ha.s1 (d := 40) rfl e7
     exact ZB ha rfl rfl (ld_3 rfl ((q8.below hb q8.lt).at (j := 0) rfl)) rfl rfl
    | 9, _ =>
     intro val w1 a hb ha hd;have e5 : val 5 = _ := hd 5 (ZA.1 rfl);have e8 : val 8 = _ := hd 8 (ZA.1 rfl);have ha := ha.s2 (d := 41) (e := 38) rfl e8 rfl e5
     exact ZB ha rfl rfl (QAa rfl rfl rfl) rfl rfl
    | 10, _ =>
     intro val w1 a hb ha hd;have ha := ha.s0 (d := 13) rfl
     exact ZB ha rfl rfl (Yy rfl) rfl rfl
    | 11, _ =>
     intro val w1 a hb ha hd;have e10 : val 10 = _ := hd 10 (ZA.1 rfl);have ha := ha.s1 (d := 43) rfl e10
     exact ZB ha rfl rfl (ZS rfl) rfl rfl
    | 12, _ =>
     intro val w1 a hb ha hd;have e11 : val 11 = _ := hd 11 (ZA.1 rfl);have ha := ha.s1 (d := 44) rfl e11
     exact ZB ha rfl rfl (ld_3 rfl ((q13f.below hb q13f.lt).at (j := 2) rfl)) rfl rfl
    | 13, _ =>
     intro val w1 a hb ha hd;have ha := ha.s0 (d := 7) rfl
     exact ZB ha rfl rfl (QBq rfl) rfl rfl
    | 14, _ =>
     intro val w1 a hb ha hd;have e13 : val 13 = _ := hd 13 (ZA.1 rfl);have ha := ha.s1 (d := 46) rfl e13
     exact ZB ha rfl rfl (ld_3 rfl ((q3.below hb q3.lt).at (j := 4) rfl)) rfl rfl
    | 15, _ =>
     intro val w1 a hb ha hd;have e12 : val 12 = _ := hd 12 (ZA.1 rfl);have e14 : val 14 = _ := hd 14 (ZA.1 rfl);have ha := ha.s2 (d := 47) (e := 45) rfl e14 rfl e12
     exact ZB ha rfl rfl (ZM rfl rfl (IntWalk.i64_in _ ⟨by omega, by omega⟩)) rfl rfl
    | 16, _ =>
     intro val w1 a hb ha hd;have ha := ha.s0 (d := 14) rfl
     exact ZB ha rfl rfl (QAv rfl) rfl rfl
    | 17, _ =>
     intro val w1 a hb ha hd;have e16 : val 16 = _ := hd 16 (ZA.1 rfl);have ha := ha.s1 (d := 49) rfl e16
     exact ZB ha rfl rfl (ZR rfl) rfl rfl
    | 18, _ =>
     intro val w1 a hb ha hd;have e17 : val 17 = _ := hd 17 (ZA.1 rfl);have ha := ha.s1 (d := 50) rfl e17
     exact ZB ha rfl rfl (ld_3 rfl ((q8.below hb q8.lt).at (j := 1) rfl)) rfl rfl
    | 19, _ =>
     intro val w1 a hb ha hd;have e15 : val 15 = _ := hd 15 (ZA.1 rfl);have e18 : val 18 = _ := hd 18 (ZA.1 rfl);have ha := ha.s2 (d := 51) (e := 48) rfl e18 rfl e15
     exact ZB ha rfl rfl (QAa rfl rfl rfl) rfl rfl
    | 20, _ =>
     intro val w1 a hb ha hd;have ha := ha.s0 (d := 14) rfl
     exact ZB ha rfl rfl (QDZ rfl) rfl rfl
    | 21, _ =>
     intro val w1 a hb ha hd;have e20 : val 20 = _ := hd 20 (ZA.1 rfl);have ha := ha.s1 (d := 53) rfl e20
     exact ZB ha rfl rfl (ld_3 rfl ((q8.below hb q8.lt).at (j := 2) rfl)) rfl rfl
    | 22, _ =>
     intro val w1 a hb ha hd;have ha := ha.s0 (d := 14) rfl
     exact ZB ha rfl rfl (QDY rfl) rfl rfl
    | 23, _ =>
     intro val w1 a hb ha hd;have e22 : val 22 = _ := hd 22 (ZA.1 rfl);have ha := ha.s1 (d := 55) rfl e22
     exact ZB ha rfl rfl (ld_3 rfl ((q8.below hb q8.lt).at (j := 3) rfl)) rfl rfl
    | 24, _ =>
     intro val w1 a hb ha hd;have e9 : val 9 = _ := hd 9 (ZA.1 rfl);have ha := ha.s1 (d := 42) rfl e9
     exact ZB ha rfl rfl (Zh rfl) rfl rfl
    | 25, _ =>
     intro val w1 a hb ha hd;have e19 : val 19 = _ := hd 19 (ZA.1 rfl);have ha := ha.s1 (d := 52) rfl e19
     exact ZB ha rfl rfl (Zh rfl) rfl rfl
    | 26, _ =>
     intro val w1 a hb ha hd;have e21 : val 21 = _ := hd 21 (ZA.1 rfl);have ha := ha.s1 (d := 54) rfl e21
     exact ZB ha rfl rfl (Zh rfl) rfl rfl
    | 27, _ =>
     intro val w1 a hb ha hd;have e23 : val 23 = _ := hd 23 (ZA.1 rfl);have ha := ha.s1 (d := 56) rfl e23
     exact ZB ha rfl rfl (Zh rfl) rfl rfl
    | 28, _ =>
     intro val w1 a hb ha hd;have ha := ha.sub (Sub.nil _)
     exact ZB ha rfl rfl (Zh rfl) rfl rfl
    | k + 29, h => exact absurd h (by omega)
   ·intro val wR7 hb halc hd
    have e0 : val 0 = _ := hd 0 (by omega)
    have e1 : val 1 = _ := hd 1 (by omega)
    have e2 : val 2 = _ := hd 2 (by omega)
    have e3 : val 3 = _ := hd 3 (by omega)
    have e4 : val 4 = _ := hd 4 (by omega)
    have e5 : val 5 = _ := hd 5 (by omega)
    have e6 : val 6 = _ := hd 6 (by omega)
    have e7 : val 7 = _ := hd 7 (by omega)
    have e8 : val 8 = _ := hd 8 (by omega)
    have e9 : val 9 = _ := hd 9 (by omega)
    have e10 : val 10 = _ := hd 10 (by omega)
    have e11 : val 11 = _ := hd 11 (by omega)
    have e12 : val 12 = _ := hd 12 (by omega)
    have e13 : val 13 = _ := hd 13 (by omega)
    have e14 : val 14 = _ := hd 14 (by omega)
    have e15 : val 15 = _ := hd 15 (by omega)
    have e16 : val 16 = _ := hd 16 (by omega)
    have e17 : val 17 = _ := hd 17 (by omega)
    have e18 : val 18 = _ := hd 18 (by omega)
    have e19 : val 19 = _ := hd 19 (by omega)
    have e20 : val 20 = _ := hd 20 (by omega)
    have e21 : val 21 = _ := hd 21 (by omega)
    have e22 : val 22 = _ := hd 22 (by omega)
    have e23 : val 23 = _ := hd 23 (by omega)
    have e24 : val 24 = _ := hd 24 (by omega)
    have e25 : val 25 = _ := hd 25 (by omega)
    have e26 : val 26 = _ := hd 26 (by omega)
    have e27 : val 27 = _ := hd 27 (by omega)
    have e28 : val 28 = _ := hd 28 (by omega)
    refine EL.ends (cs := [_, _, _, _, _, _, _, _, _, _, _, _, _, _, _, _, _, _, _, _, _, _, _, _, _, _, _, _, _]) ⟨e0, e1, e2, e3, e4, e5, e6, e7, e8, e9, e10, e11, e12, e13, e14, e15, e16, e17, e18, e19, e20, e21, e22, e23, e24, e25, e26, e27, e28, trivial⟩ rfl ?_;replace q1 := q1.bl hb;replace q2 := q2.bl hb;replace q3 := q3.bl hb;replace q13f := q13f.bl hb;replace q8 := q8.bl hb;replace hbw := bo_ hbw hb;clear hb;refine EL.nil (EX.seq (EC.ret ?_))
    exact EX.done (res5 rfl rfl rfl rfl rfl rfl) ⟨by rw [hsf, (QER hsf).1, (QER hsf).2.1, (QER hsf).2.2.1, (QER hsf).2.2.2] <;> rfl, hbw⟩
theorem QIW (a b c : List Value) (o : Nat) (h : o + c.length ≤ a.length) : spl (a ++ b) o c = spl a o c ++ b := by
 rw [QAR _ _ _ (by rw [List.length_append]; omega), QAR _ _ _ h, List.take_append_of_le_length (by omega), List.drop_append_of_le_length h]
 simp
theorem QIV (a b c : List Value) (o : Nat) (h : o + c.length ≤ b.length) : spl (a ++ b) (a.length + o) c = a ++ spl b o c := by
 rw [QAR _ _ _ (by rw [List.length_append]; omega), QAR _ _ _ h, Nat.add_assoc, List.take_length_add_append, List.drop_length_add_append]
 simp
/-- what a store into a part of one element makes of all -/
theorem QCx {α : Type} {f : α → List Value} {z : Nat} (hz : ∀ x, (f x).length = z) {d y : α} {j : Nat} {ns : List Value} (hj : j + ns.length ≤ z) : ∀ (l : List α) (k : Nat), k < l.length → spl (f (l.getD k d)) j ns = f y → spl (l.flatMap f) (k * z + j) ns = (l.set k y).flatMap f
 | [], k, hk, _ => by simp at hk
 | x :: l, 0, _, h => by
  rw [List.flatMap_cons, Nat.zero_mul, Nat.zero_add, QIW _ _ _ _ (by rw [hz]; exact hj)]
  rw [List.getD_cons_zero] at h;rw [h]
  simp
 | x :: l, k + 1, hk, h => by
  have hk2 : k < l.length := by simpa using hk
  have hb : k * z + j + ns.length ≤ (l.flatMap f).length := by
   rw [flat_len hz];have := Nat.mul_le_mul_right z (show k + 1 ≤ l.length by omega)
   rw [Nat.add_mul, Nat.one_mul] at this
   omega
  have e : (k + 1) * z + j = (f x).length + (k * z + j) := by rw [hz, Nat.add_mul, Nat.one_mul]; omega
  rw [List.flatMap_cons, e, QIV _ _ _ _ hb, QCx hz hj l k hk2 (by simpa using h), List.set_cons_succ, List.flatMap_cons]
/-- the first m passes one hour later -/
def mixW (m : Nat) (l : List Pass) : List Pass := Zk 1 (l.take m) ++ l.drop m
theorem Z2 (k : Int) (l : List Pass) : (Zk k l).length = l.length := by simp [Zk]
theorem QIr (m : Nat) (l : List Pass) : (mixW m l).length = l.length := by
 unfold mixW
 rw [List.length_append, Z2, ← List.length_append, List.take_append_drop]
theorem QHl (l : List Pass) : mixW 0 l = l := by simp [mixW, Zk]
theorem QIs (l : List Pass) : mixW l.length l = Zk 1 l := by simp [mixW]
theorem QEQ (a b : Int) (l : List Pass) : Zk a (Zk b l) = Zk (b + a) l := by
 unfold Zk
 rw [List.map_map];refine List.map_congr_left fun x _ => ?_
 simp only [Function.comp]
 rw [Int.add_assoc, Int.add_assoc]
theorem QCL (l : List Pass) : Zk 0 l = l := by
 unfold Zk
 have : (fun x : Pass => (⟨x.place, ⟨x.hours.lo + 0, x.hours.hi + 0⟩⟩ : Pass)) = id := by
  funext x
  simp
 rw [this, List.map_id]
theorem QAf {k : Int} {l : List Pass} {i : Nat} (hi : i < l.length) : (Zk k l).getD i pass0 = ⟨(l.getD i pass0).place, ⟨(l.getD i pass0).hours.lo + k, (l.getD i pass0).hours.hi + k⟩⟩ := by
 rw [Ye (by rw [Z2]; exact hi), Ye hi]
 simp [Zk]
theorem QJ5 {m : Nat} {l : List Pass} (hm : m < l.length) : (mixW m l).getD m pass0 = l.getD m pass0 := by
 unfold mixW
 have h1 : (Zk 1 (l.take m)).length = m := by rw [Z2, List.length_take]; omega
 rw [List.getD_eq_getElem?_getD, List.getElem?_append_right (by omega), h1, Nat.sub_self, List.getElem?_drop, Nat.add_zero, List.getD_eq_getElem?_getD]
def passUp (x : Pass) : Pass := ⟨x.place, ⟨x.hours.lo + 1, x.hours.hi + 1⟩⟩
theorem QHm {m : Nat} {l : List Pass} (hm : m < l.length) : mixW (m + 1) l = (mixW m l).set m (passUp (l.getD m pass0)) := by
 have h1 : (Zk 1 (l.take m)).length = m := by rw [Z2, List.length_take]; omega
 have h2 : l.drop m = l.getD m pass0 :: l.drop (m + 1) := by rw [Ye hm]; exact List.drop_eq_getElem_cons hm
 have h3 : Zk 1 (l.take (m + 1)) = Zk 1 (l.take m) ++ [passUp (l.getD m pass0)] := by
  rw [Z5 (d := pass0) hm]
  simp [Zk, passUp]
 unfold mixW
 rw [h3, h2, List.set_append_right _ _ (by omega), h1, Nat.sub_self, List.set_cons_zero, List.append_assoc]
 rfl
/-- the two stores of one pass -/
theorem spl_lo {l : List Pass} {k : Nat} (hk : k < l.length) (a : Int) : spl (passesC l) (0 + k * 3 + 1) [.int .i64 a] = passesC (l.set k ⟨(l.getD k pass0).place, ⟨a, (l.getD k pass0).hours.hi⟩⟩) := by
 rw [Nat.zero_add]
 exact QCx QA4 (d := pass0) (j := 1) (by simp) l k hk rfl
theorem spl_hi {l : List Pass} {k : Nat} (hk : k < l.length) (a : Int) : spl (passesC l) (0 + k * 3 + 2) [.int .i64 a] = passesC (l.set k ⟨(l.getD k pass0).place, ⟨(l.getD k pass0).hours.lo, a⟩⟩) := by
 rw [Nat.zero_add]
 exact QCx QA4 (d := pass0) (j := 2) (by simp) l k hk rfl
theorem PasFew.later {p : Pas} (h : PasFew p) (k : Int) : PasFew (p.later k) := ⟨h.reaches, h.shoals, h.curves, h.sides, h.side⟩
theorem QGB (p : Pas) : p.later 0 = p := by
 unfold Pas.later
 rw [QCL]
/-- what a passage that is sounded is -/
structure SndOk (p : Pas) : Prop where
 keel : 0 ≤ p.keel ∧ p.keel ≤ 500
 start : startErr p.rv p.sides = 0
 some : p.way.length ≠ 0
 few : p.way.length ≤ 60
 pass : ∀ j, j < p.way.length → QAT (placesOf p.rv.reaches) ((p.sides.getD 0 []).length : Nat) (p.way.getD j pass0)
 hours : (p.sides.getD 0 []).length ≤ 400
theorem QEP {p : Pas} (h : sndE p = 0) : SndOk p := by
 have h0 : inB 0 500 p.keel = true := by
  cases e : inB 0 500 p.keel with
  | true => rfl
  | false => rw [sndE, e] at h; simp at h
 rw [sndE, if_pos h0] at h;have h1 : startErr p.rv p.sides = 0 := by
  by_cases e : startErr p.rv p.sides = 0
  ·exact e
  ·rw [Yg, if_pos e] at h; exact h
 rw [Yg, if_neg (by omega)] at h
 have h2 : p.way.length ≠ 0 := fun e => by rw [QKf e] at h; omega
 have h3 : ¬60 < p.way.length := fun e => by rw [QKe e] at h; omega
 rw [QEG h2 h3] at h;refine ⟨inB_iff.1 h0, h1, h2, by omega, QCM h, ?_⟩
 unfold startErr at h1
 by_cases c1 : riverB p.rv = false
 ·rw [if_pos c1] at h1; omega
 ·rw [if_neg c1] at h1
  by_cases c2 : p.sides.length ≠ p.rv.reaches.length ∨ (p.sides.getD 0 []).length = 0
  ·rw [if_pos c2] at h1; omega
  ·rw [if_neg c2] at h1
   by_cases c3 : (p.sides.all fun l => decide (l.length = (p.sides.getD 0 []).length)) = false
   ·rw [if_pos c3] at h1; omega
   ·rw [if_neg c3] at h1
    by_cases c4 : 400 < (p.sides.getD 0 []).length
    ·rw [if_pos c4] at h1; omega
    ·omega
theorem QDN {p : Pas} {k : Int} (hk : sndE (p.later k) = 0) {i : Nat} (hi : i < p.way.length) : (0 ≤ (p.way.getD i pass0).hours.lo + k ∧ (p.way.getD i pass0).hours.lo + k ≤ 399) ∧ 0 ≤ (p.way.getD i pass0).hours.hi + k ∧ (p.way.getD i pass0).hours.hi + k ≤ 399 := by
 have h1 := QEP hk;have hw : (p.later k).way = Zk k p.way := rfl;have h2 := (h1.pass i (by rw [hw, Z2]; exact hi)).2
 rw [hw, QAf hi] at h2;have h3 := bdOk_iff.1 h2;have h4 := h1.hours
 simp only at h3
 omega
theorem QJD {p : Pas} (h0 : sndE p = 0) {k : Nat} (hk : sndE (p.later k) = 0) : k < 400 := by
 have h1 := QEP h0;have h2 := QDN hk (i := 0) (by have := h1.some; omega)
 have h3 := QDN (p := p) (k := 0) (by rw [QGB]; exact h0) (i := 0) (by have := h1.some; omega)
 omega
section
variable {n : Nat} {σ : Sg} {w : World} {dst : Option Tmp} {ty : TypeId} {pos : String} {af : Array Edge} {g : Option (Nat × Bool)} {x y z : Operand} {at' : Array TypeId}
theorem QKS (a : Act) (_ : Env n σ a) : (execOp a.eval ⟨dst, .buildSlice 51 0 #[], ty, pos, af, g⟩).run Try.prog w = .ok (.value (.slice (some ⟨w.heap.size, 0, none⟩) 0 0)) (w.alloc (.cells #[] 85)) := by
 simp only [execOp]
 go_simp
theorem cF45 : cF 45 := fun _ _ => by simp [go_sem]
theorem QLc : (Try.prog.info? 51).map (·.size) = some 1 := by kernel_rfl
end
end Go.Proofs.Ytfgfenmaommclaa
