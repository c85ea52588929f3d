/- X12, LkCarry, ExX13, X13, ExX14, X14, LkDays, ExX15, X15, ExX16: what LockThriftsProof needs of them (merged by trimpack.py). -/
import Derived.Test.YtlbfnimilcnihaaThriftsT4
set_option linter.unusedVariables false
set_option linter.unusedSimpArgs false
namespace Go.Proofs.Ytlbfnimilcnihaa
open Go Go.RowKit
theorem EQ.finD {P : Program} {n : Nat} {L : List Oper} {ds : List Deferred} {σ : Sg} {w : World} {Q : Exit → Act → World → Prop} (h : ∀ w', Below w.heap.size w w' → EXI n ds Q .normal σ w') : EQ P n L (fun w' => Below w.heap.size w w') (fun a' => ∀ w', Below w.heap.size w w' → Q .normal (addD ds a') w') [] σ := EQ.fin (Q := fun e a' w' => Q e (addD ds a') w') fun w' hw => EX.ofD (h w' hw)
section
variable {n : Nat} {σ : Sg} {w : World} {dst : Option Tmp} {ty : TypeId} {pos : String} {af : Array Edge} {g : Option (Nat × Bool)} {x y z : Operand}
theorem QHg (hx : evS σ x = some (.pointer none)) : ZJ Try.prog n σ w ⟨dst, .binOp .eql 122 x (.const (.pointer none)) 122, ty, pos, af, g⟩ (.bool true) := fun a ha => by
 simp only [execOp, ha.eval hx]
 simp [go_sem]
theorem QFp {p : Addr} (hx : evS σ x = some (.pointer (some p))) : ZJ Try.prog n σ w ⟨dst, .binOp .eql 122 x (.const (.pointer none)) 122, ty, pos, af, g⟩ (.bool false) := fun a ha => by
 simp only [execOp, ha.eval hx]
 simp [go_sem]
end
/-- the best draft so far, if there is one -/
def QBP (W : World) (b : Nat) (v : Value) : Option Dr → Prop
 | none => v = .pointer none
 | some d => OwnDr W b v d
theorem QBP.below {W W' : World} {b : Nat} {v : Value} {o : Option Dr} (h : QBP W b v o) (hb : Below W.heap.size W W') : QBP W' b v o := by
 cases o with
 | none => exact h
 | some d => exact OwnDr.below h hb
theorem QBP.soft {W W' : World} {b b2 m : Nat} {U : List Nat} {v : Value} {o : Option Dr} (h : QBP W b v o) (hs : Soft b2 m U W W') (h1 : memB U 124 = false) (h2 : memB U 87 = false) : QBP W' b v o := by
 cases o with
 | none => exact h
 | some d => exact OwnDr.soft h hs h1 h2
set_option maxHeartbeats 1000000 in
set_option maxRecDepth 100000 in
theorem QFB {l : LK} {ts : List TW} {most : Int} {v : Value} {w : World} {B : Nat} (hr : Rd w B 5 v ts.length (twsC ts)) (hB : B ≤ w.heap.size) :
  Calls Try.prog 25 #[.agg #[.int .i64 l.length, .int .i64 l.cycle, .int .i64 l.turn, .int .i64 l.fill, .int .i64 l.save, .bool l.high], v, .int .i64 most] w fun e w' => ∃ sl, e = .returned (.tuple #[sl, .int .i64 (Yb l ts most).2.1, .int .i64 (Yb l ts most).2.2]) ∧ w'.ownsRow w.heap.size 87 2 sl (Yb l ts most).1.length (spsC (Yb l ts most).1) ∧ Below w.heap.size w w' := by
 obtain ⟨At, ct, rfl, _⟩ := hr.shape;have hbw := Below.refl w.heap.size w;refine EC.marks 62 Try.func25 rfl rfl rfl (ECI.seq (ECI.regionLD (EL.newP (QAD rfl) rfl ?_)));intro g1 w1 q1 hb1 hg1 hl1;have bhbw_1 := Nat.le_trans hbw.size hg1;replace hbw := bo_ hbw hb1;clear hb1 hg1 hl1;refine EL.newP (bx_3 rfl rfl) rfl ?_;intro g2 w2 q2 hb2 hg2 hl2;have n1_2 := q1.na hg2;have bhbw_2 := Nat.le_trans hbw.size hg2;replace q1 := q1.bl hb2;replace hbw := bo_ hbw hb2;clear hb2 hg2 hl2;refine EL.as rfl rfl (EL.as rfl rfl (EL.as rfl rfl (EL.nil (EX.ofD (EXI.seq (ECI.seq (ECI.seq (ECI.regionLD (EL.val (YY rfl (q1.at (j := 0) rfl) (q1.at (j := 1) rfl) (q1.at (j := 2) rfl) (q1.at (j := 3) rfl) (q1.at (j := 4) rfl) (q1.at (j := 5) rfl)) rfl ?_)))))))));refine EL.mv rfl rfl (EL.call (cA2 cF45 rfl rfl) rfl (QBC (hr.below (hbw.mono hB)) (Nat.le_trans hB hbw.size)) ?_)
 rintro e w3 ⟨rfl, hc3⟩
 refine ⟨_, rfl, ?_⟩;replace q1 := q1.bl hc3;replace q2 := q2.bl hc3;replace hbw := bo_ hbw hc3;clear hc3;refine EL.as rfl rfl (EL.nil (EX.ofD (EXI.seq (ECI.seq (ECI.regionLD (EL.mv rfl rfl ?_))))))
 by_cases ht : towE l ts = 0
 ·
  refine EL.val (Zp (r := false) rfl rfl (decide_eq_false (by omega))) rfl ?_
  refine EL.nil (EX.ofD (EXI.seq (ECI.no rfl (ECI.skip (EXI.seq (ECI.seq (ECI.regionLD (EL.newP QNV rfl ?_))))))));intro g4 w4 q4 hb4 hg4 hl4;have n1_4 := q1.na hg4;have n2_4 := q2.na hg4;have bhbw_4 := Nat.le_trans hbw.size hg4;replace q1 := q1.bl hb4;replace q2 := q2.bl hb4;replace hbw := bo_ hbw hb4;clear hb4 hg4 hl4;refine EL.nil (EX.ofD (EXI.seq (ECI.seq (ECI.seq (ECI.regionLD (EL.val (YY rfl (q1.at (j := 0) rfl) (q1.at (j := 1) rfl) (q1.at (j := 2) rfl) (q1.at (j := 3) rfl) (q1.at (j := 4) rfl) (q1.at (j := 5) rfl)) rfl (EL.mv rfl rfl (EL.call (cA2 cF46 rfl rfl) rfl (QGt _) ?_))))))))
  rintro e w5 ⟨⟨g2n, g3n, rfl, qn2, qn3, hgn2, hgn3⟩, hc5⟩
  refine ⟨_, rfl, ?_⟩;replace q1 := q1.bl hc5;replace q2 := q2.bl hc5;replace q4 := q4.bl hc5;replace hbw := bo_ hbw hc5;clear hc5;refine EL.nil (EX.ofD (EXI.seq (ECI.block ?_)));have ls_2 := q2.lt;have ls_4 := q4.lt;have hsz := hbw.size;obtain ⟨hlk, hn8, htw⟩ := QBG ht;have hsoft : QAE w5.heap.size w5.heap.size [145, 122] (fun pre X => pre.length ≤ (thrL most (allD l (qL ts))).length ∧ ∃ vb, Blk X g2 3 #[.int .i64 most] ∧ Blk X g4 122 #[vb] ∧ QBP X w5.heap.size vb (thrB ((thrL most (allD l (qL ts))).take pre.length)) ∧ Below w.heap.size w X) := fun s A B' ⟨h1, vb, h2, h3, h4, h5⟩ hs => ⟨h1, vb, hs.blk h2 rfl, hs.low h3 ls_4 ls_4, h4.soft hs rfl rfl, (hs.mono2 hsz).below h5 h5.size (Nat.le_refl _)⟩
  have hsofx : QAE w5.heap.size w5.heap.size [145, 122] (fun pre X => ∃ vb, Blk X g2 3 #[.int .i64 most] ∧ Blk X g4 122 #[vb] ∧ QBP X w5.heap.size vb (thrB (thrL most (allD l (qL ts)))) ∧ Below w.heap.size w X) := fun s A B' ⟨vb, h2, h3, h4, h5⟩ hs => ⟨vb, hs.blk h2 rfl, hs.low h3 ls_4 ls_4, h4.soft hs rfl rfl, (hs.mono2 hsz).below h5 h5.size (Nat.le_refl _)⟩
  refine QLo (U := [145, 122]) (xi := 0) (Fr := fun l_ => Zx (l_ + 1)) (ok := fun x X => okP l (qL ts) w5.heap.size x X) (n0 := w.heap.size) (S := [122]) (σ1 := fun x => _) rfl (fun args w => by kernel_rfl) rfl (QEa rfl (QBu ht) hn8 qn2 qn3 (hr.below (hbw.mono hB)) (Nat.le_trans hB hsz) hsz) (QGm (by omega)) hsz (fun pre X => pre.length ≤ (thrL most (allD l (qL ts))).length ∧ ∃ vb, Blk X g2 3 #[.int .i64 most] ∧ Blk X g4 122 #[vb] ∧ QBP X w5.heap.size vb (thrB ((thrL most (allD l (qL ts))).take pre.length)) ∧ Below w.heap.size w X) (fun pre X => ∃ vb, Blk X g2 3 #[.int .i64 most] ∧ Blk X g4 122 #[vb] ∧ QBP X w5.heap.size vb (thrB (thrL most (allD l (qL ts)))) ∧ Below w.heap.size w X) hsoft hsofx ⟨Nat.zero_le _, _, q2, q4, rfl, hbw⟩ (fun x A B' row h hg hr => OwnDr.soft (b := w5.heap.size) (m := w5.heap.size) (U := []) h ⟨row, hg, fun g e => .inr (hr g e)⟩ rfl rfl) (fun l_ x X K hK => by
    refine ECI.regionL (Zu Ye) (by kernel_rfl) ?_
    refine EL.as rfl rfl (EL.nil (EX.toI ?_))
    exact fun a' ha' => hK a' ha') ?_ ?_ ?_
  ·
   clear hsoft hsofx q2 q4 hbw qn2 qn3
   rintro la9 pre ⟨x1, x2⟩ X hpf hokx ⟨hkl, vb, q2, q4, hbv, hbw⟩ hsz9
   obtain ⟨hnN, ex⟩ := QF3 hpf
   dsimp only at ex
   subst ex;have hdx : OwnDr X w5.heap.size x2 ((allD l (qL ts)).getD pre.length dr0) := hokx;have hdx0 := hdx;obtain ⟨bd, slp, rfl, hbd, qD, hpl⟩ := hdx.at_;obtain ⟨Ap, cp, rfl, _⟩ := (Rd.of_own hpl).shape;have hkp := Kp.refl w.heap.size [122] X;have hkf := ZU.refl w5.heap.size X;have hfr := Zx.refl (b := w5.heap.size + 2) X;have hXV := Nat.le_of_succ_le (Nat.le_of_succ_le hsz9);have hmore := QJ2 (most := most) hkl hnN;have hstop := QJ0 (most := most) (l := (allD l (qL ts))) hkl;have hstep := fun h => QJ1 (most := most) (l := (allD l (qL ts))) (k := pre.length) h
   generalize (allD l (qL ts)).getD pre.length dr0 = dd at *
   have n2_6 := Y2 (U := [124]) q2 qD rfl rfl;have n4_6 := Y2 (U := [124]) q4 qD rfl rfl;refine ECI.block (ECI.seq (ECI.seq ?_))
   by_cases hc : most < dd.s.cost
   ·
    refine ECI.regionO (by repeat (first | exact Yy | exact Ye | refine Zu ?_ | refine YX ?_)) (by kernel_rfl) (EO.regionQ (by kernel_rfl) (by kernel_rfl) ?_)
    refine EQ.mv rfl rfl ?_;refine EQ.val (fun _ hw => (ZG rfl)) rfl ?_
    refine EQ.val (fun _ hw => (Zh rfl)) rfl ?_
    refine EQ.val (fun _ hw => (YZ rfl)) rfl ?_
    refine EQ.val (fun _ hw => (ld_3 rfl (ZB hw (qD.at (j := 14) rfl)))) rfl ?_
    refine EQ.val (fun _ hw => (ld_3 rfl (ZB hw (q2.at (j := 0) rfl)))) rfl ?_
    refine EQ.val (fun _ hw => (Zm (r := true) rfl rfl (decide_eq_true (by omega)))) rfl ?_
    refine EQ.fin (fun w7 hw_ => ?_)
    refine EX.toI ?_;replace q2 := q2.bl hw_;replace q4 := q4.bl hw_;replace qD := qD.bl hw_;replace hfr := hfr.trans (Zx.below hw_) hkp.size;replace hkp := hkp.trans (Kp.of_below hw_ (Nat.le_trans hsz (Nat.le_trans hXV hkp.size)));replace hkf := hkf.trans (ZU.below hw_);replace hbv := hbv.below hw_;replace hdx0 := hdx0.below hw_;replace hbw := bo_ hbw hw_;clear hw_;refine EXI.seq (ECI.yes rfl (ECI.exit (EXI.seq_exit (EXI.blk_other rfl ?_))))
    exact fun a0 ha0 => ⟨hkf, hkp, hfr, .inr ⟨rfl, _, q2, q4, by rw [hstop hc, List.take_length] at hbv; exact hbv, hbw⟩⟩
   ·
    refine ECI.regionO (by repeat (first | exact Yy | exact Ye | refine Zu ?_ | refine YX ?_)) (by kernel_rfl) (EO.regionQ (by kernel_rfl) (by kernel_rfl) ?_)
    refine EQ.mv rfl rfl ?_;refine EQ.val (fun _ hw => (ZG rfl)) rfl ?_
    refine EQ.val (fun _ hw => (Zh rfl)) rfl ?_
    refine EQ.val (fun _ hw => (YZ rfl)) rfl ?_
    refine EQ.val (fun _ hw => (ld_3 rfl (ZB hw (qD.at (j := 14) rfl)))) rfl ?_
    refine EQ.val (fun _ hw => (ld_3 rfl (ZB hw (q2.at (j := 0) rfl)))) rfl ?_
    refine EQ.val (fun _ hw => (Zm (r := false) rfl rfl (decide_eq_false (by omega)))) rfl ?_
    refine EQ.fin (fun w8 hw_ => ?_)
    refine EX.toI ?_;replace q2 := q2.bl hw_;replace q4 := q4.bl hw_;replace qD := qD.bl hw_;replace hfr := hfr.trans (Zx.below hw_) hkp.size;replace hkp := hkp.trans (Kp.of_below hw_ (Nat.le_trans hsz (Nat.le_trans hXV hkp.size)));replace hkf := hkf.trans (ZU.below hw_);replace hbv := hbv.below hw_;replace hdx0 := hdx0.below hw_;replace hbw := bo_ hbw hw_;clear hw_;refine EXI.seq (ECI.no rfl (ECI.skip (EXI.seq (ECI.seq ?_))));have hkn := hmore (by omega)
    have hst := hstep hkn
    cases hb9 : thrB ((thrL most (allD l (qL ts))).take pre.length) with
    | none =>
      have hvb : vb = .pointer none := by rw [hb9] at hbv; exact hbv
      subst hvb;refine ECI.regionO (by repeat (first | exact Yy | exact Ye | refine Zu ?_ | refine YX ?_)) (by kernel_rfl) (EO.regionQ (by kernel_rfl) (by kernel_rfl) ?_)
      refine EQ.val (fun _ hw => (YA rfl (ZB hw (q4.at (j := 0) rfl)))) rfl ?_
      refine EQ.val (fun _ hw => (QHg rfl)) rfl ?_
      refine EQ.mv rfl rfl (EQ.skip rfl rfl rfl rfl (EQ.skip rfl rfl rfl rfl (EQ.skip rfl rfl rfl rfl (EQ.skip rfl rfl rfl rfl (EQ.skip rfl rfl rfl rfl (EQ.skip rfl rfl rfl rfl (EQ.skip rfl rfl rfl rfl (EQ.skip rfl rfl rfl rfl (EQ.skip rfl rfl rfl rfl ?_)))))))));refine EQ.skip rfl rfl rfl rfl (EQ.skip rfl rfl rfl rfl (EQ.skip rfl rfl rfl rfl (EQ.skip rfl rfl rfl rfl (EQ.skip rfl rfl rfl rfl (EQ.skip rfl rfl rfl rfl (EQ.skip rfl rfl rfl rfl (EQ.skip rfl rfl rfl rfl ?_)))))));refine EQ.val (fun _ hw => (Zq rfl rfl)) rfl ?_
      refine EQ.fin (fun w9 hw_ => ?_)
      refine EX.toI ?_;replace q2 := q2.bl hw_;replace q4 := q4.bl hw_;replace qD := qD.bl hw_;replace hfr := hfr.trans (Zx.below hw_) hkp.size;replace hkp := hkp.trans (Kp.of_below hw_ (Nat.le_trans hsz (Nat.le_trans hXV hkp.size)));replace hkf := hkf.trans (ZU.below hw_);replace hbv := hbv.below hw_;replace hdx0 := hdx0.below hw_;replace hbw := bo_ hbw hw_;clear hw_;refine EXI.seq (ECI.yes rfl ?_);refine ECI.regionL (by repeat (first | exact Yy | exact Ye | refine Zu ?_ | refine YX ?_)) (by kernel_rfl) ?_
      refine EL.mv rfl rfl (EL.store rfl rfl q4 QFu rfl rfl rfl rfl ?_);intro w10 hq10 hg10;replace q2 := q2.gr hg10 n2_4;replace qD := qD.gr hg10 n4_6.symm;replace hfr := hfr.trans (Zx.grown hg10 fun k e => by injection e with e; subst e; omega) hkp.size
      replace hkp := hkp.trans (Kp.grown q4 rfl bhbw_4 hg10);replace hkf := hkf.trans (.of (YO q4 hg10))
      skip
      replace hdx0 := hdx0.turn (TurnsS.turn (p := fun _ => True) (U := [122]) .refl hg10 trivial rfl q4) rfl rfl
      replace hbw := ZD hbw hg10 bhbw_4;replace q4 := hq10;clear hg10 hq10;refine EL.nil (EX.toI (EXI.blk ?_));have hup : updB none dd = some dd := rfl
      exact fun a0 ha0 => ⟨hkf, hkp, hfr, .inl ⟨rfl, by rw [List.length_append]; exact hkn, _, q2, q4, by rw [List.length_append]; show QBP _ _ _ (thrB (List.take (pre.length + 1) _)); rw [hst, hb9, hup]; exact hdx0, hbw⟩⟩
    | some ee =>
      have hbv2 := hbv;rw [hb9] at hbv2;obtain ⟨be, sle, rfl, hbe, qE, _⟩ := OwnDr.at_ hbv2
      by_cases hup_ : ee.s.up < dd.s.up
      ·
       refine ECI.regionO (by repeat (first | exact Yy | exact Ye | refine Zu ?_ | refine YX ?_)) (by kernel_rfl) (EO.regionQ (by kernel_rfl) (by kernel_rfl) ?_)
       refine EQ.val (fun _ hw => (YA rfl (ZB hw (q4.at (j := 0) rfl)))) rfl ?_
       refine EQ.val (fun _ hw => (QFp rfl)) rfl ?_
       refine EQ.mv rfl rfl (EQ.mg rfl rfl rfl rfl ?_);refine EQ.valg rfl rfl (fun _ hw => (ZG rfl)) rfl ?_
       refine EQ.valg rfl rfl (fun _ hw => (Zh rfl)) rfl ?_
       refine EQ.valg rfl rfl (fun _ hw => (ZN rfl)) rfl ?_
       refine EQ.valg rfl rfl (fun _ hw => (Za rfl)) rfl ?_
       refine EQ.valg rfl rfl (fun _ hw => (Zi rfl)) rfl ?_
       refine EQ.valg rfl rfl (fun _ hw => (YD rfl)) rfl ?_
       refine EQ.valg rfl rfl (fun _ hw => (ld_3 rfl (ZB hw (qD.at (j := 6) rfl)))) rfl ?_
       refine EQ.valg rfl rfl (fun _ hw => (YA rfl (ZB hw (q4.at (j := 0) rfl)))) rfl ?_
       refine EQ.valg rfl rfl (fun _ hw => (ZG rfl)) rfl ?_
       refine EQ.valg rfl rfl (fun _ hw => (Zh rfl)) rfl ?_
       refine EQ.valg rfl rfl (fun _ hw => (ZN rfl)) rfl ?_
       refine EQ.valg rfl rfl (fun _ hw => (Za rfl)) rfl ?_
       refine EQ.valg rfl rfl (fun _ hw => (Zi rfl)) rfl ?_
       refine EQ.valg rfl rfl (fun _ hw => (YD rfl)) rfl ?_
       refine EQ.valg rfl rfl (fun _ hw => (ld_3 rfl (ZB hw (qE.at (j := 6) rfl)))) rfl ?_
       refine EQ.valg rfl rfl (fun _ hw => (Zm (r := true) rfl rfl (decide_eq_true (by omega)))) rfl ?_
       refine EQ.val (fun _ hw => (Z7 rfl rfl)) rfl ?_
       refine EQ.fin (fun w12 hw_ => ?_)
       refine EX.toI ?_;replace q2 := q2.bl hw_;replace q4 := q4.bl hw_;replace qD := qD.bl hw_;replace qE := qE.bl hw_;replace hfr := hfr.trans (Zx.below hw_) hkp.size;replace hkp := hkp.trans (Kp.of_below hw_ (Nat.le_trans hsz (Nat.le_trans hXV hkp.size)));replace hkf := hkf.trans (ZU.below hw_);replace hbv := hbv.below hw_;replace hdx0 := hdx0.below hw_;replace hbw := bo_ hbw hw_;clear hw_;refine EXI.seq (ECI.yes rfl ?_);refine ECI.regionL (by repeat (first | exact Yy | exact Ye | refine Zu ?_ | refine YX ?_)) (by kernel_rfl) ?_
       refine EL.mv rfl rfl (EL.store rfl rfl q4 QFu rfl rfl rfl rfl ?_);intro w13 hq13 hg13;replace q2 := q2.gr hg13 n2_4;replace qD := qD.gr hg13 n4_6.symm;replace hfr := hfr.trans (Zx.grown hg13 fun k e => by injection e with e; subst e; omega) hkp.size
       replace hkp := hkp.trans (Kp.grown q4 rfl bhbw_4 hg13);replace hkf := hkf.trans (.of (YO q4 hg13))
       skip
       replace hdx0 := hdx0.turn (TurnsS.turn (p := fun _ => True) (U := [122]) .refl hg13 trivial rfl q4) rfl rfl
       replace hbw := ZD hbw hg13 bhbw_4;replace q4 := hq13;clear hg13 hq13;refine EL.nil (EX.toI (EXI.blk ?_));have hup : updB (some ee) dd = some dd := if_pos hup_
       exact fun a0 ha0 => ⟨hkf, hkp, hfr, .inl ⟨rfl, by rw [List.length_append]; exact hkn, _, q2, q4, by rw [List.length_append]; show QBP _ _ _ (thrB (List.take (pre.length + 1) _)); rw [hst, hb9, hup]; exact hdx0, hbw⟩⟩
      ·
       refine ECI.regionO (by repeat (first | exact Yy | exact Ye | refine Zu ?_ | refine YX ?_)) (by kernel_rfl) (EO.regionQ (by kernel_rfl) (by kernel_rfl) ?_)
       refine EQ.val (fun _ hw => (YA rfl (ZB hw (q4.at (j := 0) rfl)))) rfl ?_
       refine EQ.val (fun _ hw => (QFp rfl)) rfl ?_
       refine EQ.mv rfl rfl (EQ.mg rfl rfl rfl rfl ?_);refine EQ.valg rfl rfl (fun _ hw => (ZG rfl)) rfl ?_
       refine EQ.valg rfl rfl (fun _ hw => (Zh rfl)) rfl ?_
       refine EQ.valg rfl rfl (fun _ hw => (ZN rfl)) rfl ?_
       refine EQ.valg rfl rfl (fun _ hw => (Za rfl)) rfl ?_
       refine EQ.valg rfl rfl (fun _ hw => (Zi rfl)) rfl ?_
       refine EQ.valg rfl rfl (fun _ hw => (YD rfl)) rfl ?_
       refine EQ.valg rfl rfl (fun _ hw => (ld_3 rfl (ZB hw (qD.at (j := 6) rfl)))) rfl ?_
       refine EQ.valg rfl rfl (fun _ hw => (YA rfl (ZB hw (q4.at (j := 0) rfl)))) rfl ?_
       refine EQ.valg rfl rfl (fun _ hw => (ZG rfl)) rfl ?_
       refine EQ.valg rfl rfl (fun _ hw => (Zh rfl)) rfl ?_
       refine EQ.valg rfl rfl (fun _ hw => (ZN rfl)) rfl ?_
       refine EQ.valg rfl rfl (fun _ hw => (Za rfl)) rfl ?_
       refine EQ.valg rfl rfl (fun _ hw => (Zi rfl)) rfl ?_
       refine EQ.valg rfl rfl (fun _ hw => (YD rfl)) rfl ?_
       refine EQ.valg rfl rfl (fun _ hw => (ld_3 rfl (ZB hw (qE.at (j := 6) rfl)))) rfl ?_
       refine EQ.valg rfl rfl (fun _ hw => (Zm (r := false) rfl rfl (decide_eq_false (by omega)))) rfl ?_
       refine EQ.val (fun _ hw => (Z7 rfl rfl)) rfl ?_
       refine EQ.fin (fun w14 hw_ => ?_)
       refine EX.toI ?_;replace q2 := q2.bl hw_;replace q4 := q4.bl hw_;replace qD := qD.bl hw_;replace qE := qE.bl hw_;replace hfr := hfr.trans (Zx.below hw_) hkp.size;replace hkp := hkp.trans (Kp.of_below hw_ (Nat.le_trans hsz (Nat.le_trans hXV hkp.size)));replace hkf := hkf.trans (ZU.below hw_);replace hbv := hbv.below hw_;replace hdx0 := hdx0.below hw_;replace hbw := bo_ hbw hw_;clear hw_;refine EXI.seq (ECI.no rfl (ECI.skip (EXI.blk ?_)));have hup : updB (some ee) dd = some ee := if_neg hup_
       exact fun a0 ha0 => ⟨hkf, hkp, hfr, .inl ⟨rfl, by rw [List.length_append]; exact hkn, _, q2, q4, by rw [List.length_append]; show QBP _ _ _ (thrB (List.take (pre.length + 1) _)); rw [hst, hb9, hup]; rw [hb9] at hbv; exact hbv, hbw⟩⟩
  ·
   clear hsoft hsofx q2 q4 hbw qn2 qn3
   rintro Dm zs X hDm hall9 ⟨hkl, vb, q2, q4, hbv, hbw⟩ hkp9 hdef
   have hzl : zs.length = (allD l (qL ts)).length := by have := congrArg List.length hall9; rwa [List.length_map, QB4] at this
   have hze : zs.length = (thrL most (allD l (qL ts))).length := by have := QIO (most := most) (l := (allD l (qL ts))); omega
   rw [hze, List.take_length] at hbv;clear hkl;refine EXI.blk (EXI.seq (ECI.seq (ECI.seq (ECI.regionLD (EL.val (YA rfl (q4.at (j := 0) rfl)) rfl ?_)))))
   cases hb9 : thrB (thrL most (allD l (qL ts))) with
   | none =>
     have hvb : vb = .pointer none := by rw [hb9] at hbv; exact hbv
     subst hvb;refine EL.val (QHg rfl) rfl (EL.nil (EX.ofD (EXI.seq (ECI.yes rfl (ECI.seq (ECI.regionLD (EL.as rfl rfl (EL.as rfl rfl (EL.as rfl rfl ?_)))))))));refine EL.nil (EX.ofD (EXI.seq (ECI.ret (EXI.seq_ret ?_))));have hmk : Z8 w.heap.size [({ target := .collected Dm, args := #[] } : Deferred)] X := fun d hd => ⟨Dm, Nat.le_trans hsz hDm, List.mem_singleton.1 hd, hdef⟩
     exact EXI.doneO hmk (by simp) (fun w' ht_ => (res3 rfl rfl rfl rfl)) (fun w' ht_ => ⟨_, by rw [QCi ht hb9], by rw [QCi ht hb9]; exact QBK (Y9 _ _ _ _) ht_.took, hbw.trans ht_.took.below⟩)
   | some ee =>
     rw [hb9] at hbv;obtain ⟨be, sle, rfl, hbe, qE, hple⟩ := OwnDr.at_ hbv;replace hple := Yh hple hsz;obtain ⟨Ae, ce, rfl, _⟩ := (Rd.of_own hple).shape;refine EL.val (QFp rfl) rfl (EL.nil (EX.ofD (EXI.seq (ECI.no rfl (ECI.skip (EXI.seq (ECI.seq ?_)))))));refine ECI.regionD (EO.regionQ (by kernel_rfl) (by kernel_rfl) ?_)
     refine EQ.val (fun _ hw => (YA rfl (ZB hw (q4.at (j := 0) rfl)))) rfl ?_
     refine EQ.val (fun _ hw => (ZG rfl)) rfl ?_
     refine EQ.val (fun _ hw => (QAq rfl)) rfl ?_
     refine EQ.val (fun _ hw => (QDf rfl (ZB hw (qE.at (j := 15) rfl)))) rfl ?_
     refine EQ.val (fun _ hw => (YA rfl (ZB hw (q4.at (j := 0) rfl)))) rfl ?_
     refine EQ.val (fun _ hw => (ZG rfl)) rfl ?_
     refine EQ.val (fun _ hw => (Zh rfl)) rfl ?_
     refine EQ.val (fun _ hw => (YZ rfl)) rfl ?_
     refine EQ.val (fun _ hw => (ld_3 rfl (ZB hw (qE.at (j := 14) rfl)))) rfl ?_
     refine EQ.val (fun _ hw => (ZZ rfl)) rfl ?_
     refine EQ.val (fun _ hw => (ZZ rfl)) rfl ?_
     refine EQ.val (fun _ hw => (ZZ rfl)) rfl ?_
     refine EQ.finD (fun w16 hw_ => ?_)
     replace q2 := q2.bl hw_;replace q4 := q4.bl hw_;replace qE := qE.bl hw_;replace hdef := (hw_.block Dm (Array.getElem?_eq_some_iff.1 hdef).1).trans hdef;replace hple := ZE hple hw_ (Nat.le_refl _);replace hbw := bo_ hbw hw_;clear hw_;refine EXI.seq (ECI.ret ?_);have hmk : Z8 w.heap.size [({ target := .collected Dm, args := #[] } : Deferred)] w16 := fun d hd => ⟨Dm, Nat.le_trans hsz hDm, List.mem_singleton.1 hd, hdef⟩
     exact EXI.doneO hmk (by simp) (fun w' ht_ => (res3 rfl rfl rfl rfl)) (fun w' ht_ => ⟨_, by rw [QCh ht hb9], by rw [QCh ht hb9]; exact QBK hple ht_.took, hbw.trans ht_.took.below⟩)
  ·
   clear hsoft hsofx q2 q4 hbw qn2 qn3
   rintro Dm pre X hDm hne9 hall9 ⟨vb, q2, q4, hbv, hbw⟩ hkp9 hdef
   refine EXI.blk_here (EXI.seq (ECI.seq (ECI.seq (ECI.regionLD (EL.val (YA rfl (q4.at (j := 0) rfl)) rfl ?_)))))
   cases hb9 : thrB (thrL most (allD l (qL ts))) with
   | none =>
     have hvb : vb = .pointer none := by rw [hb9] at hbv; exact hbv
     subst hvb;refine EL.val (QHg rfl) rfl (EL.nil (EX.ofD (EXI.seq (ECI.yes rfl (ECI.seq (ECI.regionLD (EL.as rfl rfl (EL.as rfl rfl (EL.as rfl rfl ?_)))))))));refine EL.nil (EX.ofD (EXI.seq (ECI.ret (EXI.seq_ret ?_))));have hmk : Z8 w.heap.size [({ target := .collected Dm, args := #[] } : Deferred)] X := fun d hd => ⟨Dm, Nat.le_trans hsz hDm, List.mem_singleton.1 hd, hdef⟩
     exact EXI.doneO hmk (by simp) (fun w' ht_ => (res3 rfl rfl rfl rfl)) (fun w' ht_ => ⟨_, by rw [QCi ht hb9], by rw [QCi ht hb9]; exact QBK (Y9 _ _ _ _) ht_.took, hbw.trans ht_.took.below⟩)
   | some ee =>
     rw [hb9] at hbv;obtain ⟨be, sle, rfl, hbe, qE, hple⟩ := OwnDr.at_ hbv;replace hple := Yh hple hsz;obtain ⟨Ae, ce, rfl, _⟩ := (Rd.of_own hple).shape;refine EL.val (QFp rfl) rfl (EL.nil (EX.ofD (EXI.seq (ECI.no rfl (ECI.skip (EXI.seq (ECI.seq ?_)))))));refine ECI.regionD (EO.regionQ (by kernel_rfl) (by kernel_rfl) ?_)
     refine EQ.val (fun _ hw => (YA rfl (ZB hw (q4.at (j := 0) rfl)))) rfl ?_
     refine EQ.val (fun _ hw => (ZG rfl)) rfl ?_
     refine EQ.val (fun _ hw => (QAq rfl)) rfl ?_
     refine EQ.val (fun _ hw => (QDf rfl (ZB hw (qE.at (j := 15) rfl)))) rfl ?_
     refine EQ.val (fun _ hw => (YA rfl (ZB hw (q4.at (j := 0) rfl)))) rfl ?_
     refine EQ.val (fun _ hw => (ZG rfl)) rfl ?_
     refine EQ.val (fun _ hw => (Zh rfl)) rfl ?_
     refine EQ.val (fun _ hw => (YZ rfl)) rfl ?_
     refine EQ.val (fun _ hw => (ld_3 rfl (ZB hw (qE.at (j := 14) rfl)))) rfl ?_
     refine EQ.val (fun _ hw => (ZZ rfl)) rfl ?_
     refine EQ.val (fun _ hw => (ZZ rfl)) rfl ?_
     refine EQ.val (fun _ hw => (ZZ rfl)) rfl ?_
     refine EQ.finD (fun w18 hw_ => ?_)
     replace q2 := q2.bl hw_;replace q4 := q4.bl hw_;replace qE := qE.bl hw_;replace hdef := (hw_.block Dm (Array.getElem?_eq_some_iff.1 hdef).1).trans hdef;replace hple := ZE hple hw_ (Nat.le_refl _);replace hbw := bo_ hbw hw_;clear hw_;refine EXI.seq (ECI.ret ?_);have hmk : Z8 w.heap.size [({ target := .collected Dm, args := #[] } : Deferred)] w18 := fun d hd => ⟨Dm, Nat.le_trans hsz hDm, List.mem_singleton.1 hd, hdef⟩
     exact EXI.doneO hmk (by simp) (fun w' ht_ => (res3 rfl rfl rfl rfl)) (fun w' ht_ => ⟨_, by rw [QCh ht hb9], by rw [QCh ht hb9]; exact QBK hple ht_.took, hbw.trans ht_.took.below⟩)
 ·
  refine EL.val (Zp (r := true) rfl rfl (decide_eq_true (by omega))) rfl ?_
  refine EL.nil (EX.ofD (EXI.seq (ECI.yes rfl (ECI.seq (ECI.regionLD (EL.mv rfl rfl (EL.as rfl rfl (EL.as rfl rfl (EL.as rfl rfl ?_)))))))));refine EL.nil (EX.ofD (EXI.seq (ECI.ret (EXI.seq_ret ?_))))
  exact EXI.doneD (res3 rfl rfl rfl rfl) ⟨_, by rw [QFt ht], by rw [QFt ht]; exact Y9 _ _ _ _, hbw⟩
/-- how many tows of a direction a plan takes -/
def sumU (u : Bool) (p : List SP) : Int := ((p.filter fun x => x.up == u).map (·.tows)).sum
def Zn (q : QS) (u : Bool) (p : List SP) : Int := ((q u).length : Int) - sumU u p
def okAt (q : QS) (p : List SP) (k : Nat) : Bool := inB 1 (Zn q (p.getD k sp0).up (p.take k)) (p.getD k sp0).tows
def okC (q : QS) (p : List SP) : Bool := (List.range p.length).all (okAt q p) && (decide (Zn q false p = 0) && decide (Zn q true p = 0))
def sAt (l : LK) (q : QS) (p : List SP) (k : Nat) : ST := stP q (stL l) (p.take k)
def twAt (l : LK) (q : QS) (p : List SP) (k : Nat) : List TW := (waitL q (sAt l q p k) (p.getD k sp0).up).take (p.getD k sp0).tows.toNat
def QC8 (l : LK) (q : QS) (p : List SP) (k : Nat) : Bool := fitB (sAt l q p k).lk.length (twAt l q p k)
def fitC (l : LK) (q : QS) (p : List SP) : Bool := (List.range p.length).all (QC8 l q p)
def QFQ (l : LK) (q : QS) (p : List SP) (k : Nat) : RN := runT (sAt l q p k) (twAt l q p k) (p.getD k sp0).up
def QBf (l : LK) (q : QS) (p : List SP) (k : Nat) : List RN := (List.range k).map (QFQ l q p)
def Z2 (l : LK) (ts : List TW) (p : List SP) : Int :=
 if towE l ts = 0 then (if okC (qL ts) p = true then (if fitC l (qL ts) p = true then 0 else 8) else 4) else towE l ts
theorem QBn (u : Bool) : sumU u [] = 0 := rfl
theorem QJF (u : Bool) (p : List SP) (x : SP) : sumU u (p ++ [x]) = if x.up = u then sumU u p + x.tows else sumU u p := by
 unfold sumU
 rw [List.filter_append]
 by_cases h : x.up = u
 ·rw [if_pos h]
  simp [h]
 ·rw [if_neg h]
  simp [h]
theorem Yz {p : List SP} {k : Nat} (u : Bool) (h : k < p.length) : sumU u (p.take (k + 1)) = if (p.getD k sp0).up = u then sumU u (p.take k) + (p.getD k sp0).tows else sumU u (p.take k) := by
 rw [Zz h, QJF]
theorem QCl {l : LK} {q : QS} {p : List SP} {k : Nat} (h : k < p.length) : sAt l q p (k + 1) = tkS (sAt l q p k) (twAt l q p k) (p.getD k sp0).up := by
 unfold sAt stP
 rw [Zz h, List.foldl_append]
 rfl
theorem QES (l : LK) (q : QS) (p : List SP) (k : Nat) : QBf l q p (k + 1) = QBf l q p k ++ [QFQ l q p k] := by
 unfold QBf
 rw [List.range_succ, List.map_append]
 rfl
theorem QDc {a b n : Int} (h : inB a b n = true) : a ≤ n ∧ n ≤ b := (Yk ..).1 h
theorem QIE {f : Nat → Bool} {n k : Nat} (h : (List.range n).all f = true) (hk : k < n) : f k = true := List.all_eq_true.1 h k (List.mem_range.2 hk)
theorem QLN {f : Nat → Bool} {n : Nat} (h : ∀ k, k < n → f k = true) : (List.range n).all f = true := List.all_eq_true.2 fun k hk => h k (List.mem_range.1 hk)
theorem QEC {f : Nat → Bool} {n k : Nat} (hk : k < n) (h : f k = false) : (List.range n).all f = false := by
 cases e : (List.range n).all f with
 | false => rfl
 | true => rw [QIE e hk] at h; cases h
/-- while the steps are in order, the counts lie within the queues -/
theorem QL_ {q : QS} {p : List SP} {k : Nat} (hk : k ≤ p.length) (h : ∀ i, i < k → okAt q p i = true) (u : Bool) : 0 ≤ sumU u (p.take k) ∧ 0 ≤ Zn q u (p.take k) := by
 induction k with
 | zero => rw [List.take_zero, Zn, QBn]; omega
 | succ k ih =>
  obtain ⟨h1, h2⟩ := ih (by omega) (fun i hi => h i (by omega))
  obtain ⟨a, b⟩ := QDc (h k (by omega))
  unfold Zn at *
  rw [Yz u (by omega)]
  split
  ·rename_i e
   rw [e] at b
   omega
  ·omega
/-- while the steps fit, too: the state is that of a draft -/
theorem QHQ {l : LK} {q : QS} {p : List SP} (hq : QOk l q) : ∀ {k : Nat}, k ≤ p.length → (∀ i, i < k → okAt q p i = true) → (∀ i, i < k → QC8 l q p i = true) → DrOk l q ⟨sAt l q p k, p.take k⟩ ∧ ∀ u, ((tkn (sAt l q p k) u : Nat) : Int) = sumU u (p.take k)
 | 0, _, _, _ => ⟨QAr hq.lk, fun u => by cases u <;> rfl⟩
 | k + 1, hk, h, hf => by
  obtain ⟨h1, h2⟩ := QHQ hq (k := k) (by omega) (fun i hi => h i (by omega)) (fun i hi => hf i (by omega))
  obtain ⟨a, b⟩ := QDc (h k (by omega))
  have hu := h2 (p.getD k sp0).up;have hw : (p.getD k sp0).tows.toNat ≤ (waitL q (sAt l q p k) (p.getD k sp0).up).length := by
   rw [YL]
   unfold Zn at b
   omega
  have hfit := hf k (by omega)
  have h3 := DrOk.one (d := ⟨sAt l q p k, p.take k⟩) (u := (p.getD k sp0).up) (n := (p.getD k sp0).tows.toNat) hq h1 (by omega) hw hfit
  have e : (⟨(p.getD k sp0).up, (((p.getD k sp0).tows.toNat : Nat) : Int)⟩ : SP) = p.getD k sp0 := by
   rw [Int.toNat_of_nonneg (by omega)]
  have e2 : oneD q ⟨sAt l q p k, p.take k⟩ (p.getD k sp0).up (p.getD k sp0).tows.toNat = ⟨sAt l q p (k + 1), p.take (k + 1)⟩ := by
   unfold oneD
   rw [e, QCl (by omega), Zz (d := sp0) (by omega)]
   rfl
  rw [e2] at h3;refine ⟨h3, fun u => ?_⟩
  rw [QCl (by omega), QFr, Yz u (by omega)]
  have hl : (twAt l q p k).length = (p.getD k sp0).tows.toNat := by
   unfold twAt
   rw [List.length_take]
   omega
  by_cases eu : u = (p.getD k sp0).up
  ·subst eu
   rw [if_pos rfl, if_pos rfl, hl];have := h2 (p.getD k sp0).up
   omega
  ·rw [if_neg eu, if_neg (fun e => eu e.symm)]
   exact h2 u
theorem QIb {q : QS} {p : List SP} (h : (List.range p.length).all (okAt q p) = true) : ∀ {k : Nat}, k ≤ p.length → (k : Int) ≤ sumU false (p.take k) + sumU true (p.take k)
 | 0, _ => by rw [List.take_zero, QBn, QBn]; omega
 | k + 1, hk => by
  have ih := QIb h (k := k) (by omega)
  obtain ⟨a, b⟩ := QDc (QIE h (show k < p.length by omega))
  rw [Yz false (by omega), Yz true (by omega)]
  cases hu : (p.getD k sp0).up
  ·rw [if_pos rfl, if_neg (by decide)]
   omega
  ·rw [if_neg (by decide), if_pos rfl]
   omega
theorem QF7 {q : QS} {p : List SP} (h : okC q p = true) : (List.range p.length).all (okAt q p) = true ∧ Zn q false p = 0 ∧ Zn q true p = 0 := by
 unfold okC at h
 rw [Bool.and_eq_true, Bool.and_eq_true] at h
 exact ⟨h.1, of_decide_eq_true h.2.1, of_decide_eq_true h.2.2⟩
theorem QKU {l : LK} {q : QS} {p : List SP} (hq : QOk l q) (h : okC q p = true) : p.length ≤ 8 := by
 obtain ⟨h1, h2, h3⟩ := QF7 h;have := QIb h1 (Nat.le_refl _);have := hq.len;rw [List.take_length] at *
 unfold Zn at h2 h3
 omega
section
variable {n : Nat} {σ : Sg} {w : World} {dst : Option Tmp} {ty : TypeId} {pos : String} {af : Array Edge} {g : Option (Nat × Bool)} {x y z : Operand} {at' : Array TypeId}
theorem QIA {x0 x1 : Operand} {z0 : Int} {z1 : Int} (h0 : evS σ x0 = some (.int .i64 z0)) (h1 : evS σ x1 = some (.int .i64 z1)) : ZJ Try.prog n σ w ⟨dst, .build 112 #[(0, x0), (1, x1)], ty, pos, af, g⟩ (.agg #[.int .i64 z0, .int .i64 z1]) := fun a ha => by
 simp only [execOp, List.map_toArray, List.map_cons, List.map_nil, ha.eval h0, ha.eval h1]
 go_simp
theorem QNW (a : Act) (_ : Env n σ a) : (execOp a.eval ⟨dst, .alloc 112, ty, pos, af, g⟩).run Try.prog w = .ok (.value (.pointer (some ⟨w.heap.size, 0, none⟩))) (w.alloc (.cells #[.int .i64 0, .int .i64 0] 112)) := by
 simp only [execOp]
 simp [go_sem]
theorem QM2 : (Try.prog.info? 112).map (·.size) = some 2 := by kernel_rfl
theorem QNK {b o : Nat} {v0 v1 : Value} (hx : evS σ x = some (.pointer (some ⟨b, o, none⟩))) (c0 : w.cell? ⟨b, o, none⟩ = some v0) (c1 : w.cell? ⟨b, o + 1, none⟩ = some v1) : ZJ Try.prog n σ w ⟨dst, .load 112 x, ty, pos, af, g⟩ (.agg #[v0, v1]) := fun a ha => by
 simp only [execOp, ha.eval hx]
 simp [go_sem, c0, c1]
theorem QMb    : ZJ Try.prog n σ w ⟨dst, .build 112 #[], ty, pos, af, g⟩ (.agg #[.int .i64 0, .int .i64 0]) := fun a _ => by
 simp only [execOp, List.map_toArray, List.map_nil]
 go_simp
theorem QIU {b o m c lo hi r : Nat} (hx : evS σ x = some (.slice (some ⟨b, o, none⟩) m c)) (hl : evS σ y = some (.int .i64 (lo : Int))) (hh : evS σ z = some (.int .i64 (hi : Int))) (h1 : lo ≤ hi) (h2 : hi ≤ c) (hr : (if c = lo then o else o + lo * 5) = r) : ZJ Try.prog n σ w ⟨dst, .slice 24 x (some y) (some z) none, ty, pos, af, g⟩ (.slice (some ⟨b, r, none⟩) (hi - lo) (c - lo)) := fun a ha => by
 have k0 : (0 : Int) ≤ (lo : Int) := Int.natCast_nonneg _;have k1 : (0 : Int) ≤ (hi : Int) := Int.natCast_nonneg _;have k2 : (lo : Int) ≤ (hi : Int) := by omega
 have k3 : (hi : Int) ≤ (c : Int) := by omega
 subst hr
 simp only [execOp, Option.map_some, Option.map_none, ha.eval hx, ha.eval hl, ha.eval hh]
 by_cases e : c = lo
 ·subst e; simp [go_sem, k0, k1, k2, k3, h1, h2]
 ·simp [go_sem, k0, k1, k2, k3, h1, h2, e]
theorem QGT {x0 : Operand} {v0_0 v0_1 : Value} (h0 : evS σ x0 = some (.agg #[v0_0, v0_1]))  (a : Act) (ha : Env n σ a) : (execOp a.eval ⟨dst, .buildSlice 31 1 #[(0, x0)], ty, pos, af, g⟩).run Try.prog w = .ok (.value (.slice (some ⟨w.heap.size, 0, none⟩) 1 1)) (w.alloc (.cells #[v0_0, v0_1] 49)) := by
 simp only [execOp, List.map_toArray, List.map_cons, List.map_nil, ha.eval h0]
 go_simp
end
theorem QMG {k : Nat} {a b : Int} {w : World} : (Op.equalIn (k + 1) 3 (.int .i64 a) (.int .i64 b)).run Try.prog w = .ok (a == b) w := by
 rw [Op.equalIn]
 simp [run_underlying Try.underlying3]
theorem QMH {k : Nat} {a b c d : Int} {w : World} : (Op.equalIn (k + 2) 112 (.agg #[.int .i64 a, .int .i64 b]) (.agg #[.int .i64 c, .int .i64 d])).run Try.prog w = .ok (decide (a = c ∧ b = d)) w := by
 rw [Op.equalIn];have hs : (sizeOf 3).run Try.prog w = .ok 1 w := by kernel_rfl
 simp only [Sem.run_bind, run_underlying Try.underlying112, Result.andThen_ok, hs]
 simp only [Std.Legacy.Range.forIn_eq_forIn_range', Std.Legacy.Range.size]
 simp [List.range', go_sem, QMG]
 by_cases h1 : a = c <;> by_cases h2 : b = d <;> simp [h1, h2]
theorem QJs {n : Nat} {σ : Sg} {w : World} {dst : Option Tmp} {ty : TypeId} {pos : String} {af : Array Edge} {g : Option (Nat × Bool)} {x y : Operand} {a b : Int} {r : Bool} (hx : evS σ x = some (.agg #[.int .i64 a, .int .i64 b])) (hy : evS σ y = some (.agg #[.int .i64 0, .int .i64 0])) (hc : decide (¬(a = 0 ∧ b = 0)) = r) : ZJ Try.prog n σ w ⟨dst, .binOp .neq 112 x y 112, ty, pos, af, g⟩ (.bool r) := fun _ ha => by
 subst hc
 simp only [execOp, ha.eval hx, ha.eval hy]
 have h := QMH (k := 9998) (a := a) (b := b) (c := 0) (d := 0) (w := w)
 simp [go_sem]
 rw [show (10000 : Nat) = 9998 + 2 from rfl, h]
 simp [go_sem]
theorem QCU {P : Program} {n : Nat} {σ : Sg} {w : World} {fn : Func} {c s1 s2 : Tmp} {t : TypeId} {p : Addr} {v u1 u2 : Value} (h : fn.results = #[.cell c t, .tmp s1, .tmp s2]) (hc : σ c = some (.pointer (some p))) (h1 : σ s1 = some u1) (h2 : σ s2 = some u2) (hl : (loadVar t p).run P w = .ok v w) (a : Act) (ha : Env n σ a) : (results fn a.tmps).run P w = .ok (.tuple #[v, u1, u2]) w := by
 have e1 : a.tmps.getD c undef = .pointer (some p) := ha.eval (x := .tmp c) hc;have e2 : a.tmps.getD s1 undef = u1 := ha.eval (x := .tmp s1) h1;have e3 : a.tmps.getD s2 undef = u2 := ha.eval (x := .tmp s2) h2;rw [Array.getD_eq_getD_getElem?] at e1 e2 e3
 simp [results, h, e1, e2, e3, asAddr, hl]
theorem QLk : (Try.prog.info? 49).map (fun i => (i.zero, i.size, i.bytes)) = some (some (.agg #[.int .i64 0, .int .i64 0]), 2, 16) := by kernel_rfl
theorem QD0 : Elem Try.prog 31 49 2 16 := Elem.mk' Try.underlying31 QLk rfl (by omega)
theorem QCm (a : List RN) (x : RN) : rnsC (a ++ [x]) = rnsC a ++ [.int .i64 x.start, .int .i64 x.stop] := by unfold rnsC; rw [List.flatMap_append]; rfl
theorem QCs {f : Nat → Bool} {k : Nat} (h : ∀ i, i < k → f i = true) (hk : f k = true) : ∀ i, i < k + 1 → f i = true := fun i hi => by
 rcases Nat.lt_or_ge i k with h1 | h1
 ·exact h i h1
 ·rw [show i = k by omega]; exact hk
theorem QCt {q : QS} {p : List SP} {k : Nat} (hk : k < p.length) (h : okAt q p k = false) : ¬okC q p = true := fun e => by rw [QIE (QF7 e).1 hk] at h; cases h
theorem QGv {q : QS} {p : List SP} (h : ¬(Zn q false p = 0 ∧ Zn q true p = 0)) : ¬okC q p = true := fun e => h (QF7 e).2
theorem QM_ {q : QS} {p : List SP} (h : ∀ i, i < p.length → okAt q p i = true) (h0 : Zn q false p = 0) (h1 : Zn q true p = 0) : okC q p = true := by
 unfold okC
 rw [QLN h, decide_eq_true h0, decide_eq_true h1]
 rfl
section
variable {l : LK} {ts : List TW} {p : List SP}
theorem QHP (h : ¬towE l ts = 0) : Z2 l ts p = towE l ts := if_neg h
theorem QBN (h : towE l ts = 0) (h2 : ¬okC (qL ts) p = true) : Z2 l ts p = 4 := by unfold Z2; rw [if_pos h, if_neg h2]
theorem QDN (h : towE l ts = 0) (h2 : okC (qL ts) p = true) (h3 : fitC l (qL ts) p = false) : Z2 l ts p = 8 := by unfold Z2; rw [if_pos h, if_pos h2, h3]; rfl
theorem QLB (h : towE l ts = 0) (h2 : okC (qL ts) p = true) (h3 : fitC l (qL ts) p = true) : Z2 l ts p = 0 := by unfold Z2; rw [if_pos h, if_pos h2, if_pos h3]
end
set_option maxHeartbeats 2000000 in
set_option maxRecDepth 100000 in
theorem QFj {l : LK} {ts : List TW} {p : List SP} {v vp : Value} {w : World} {B : Nat} (hr : Rd w B 5 v ts.length (twsC ts)) (hp : Rd w B 2 vp p.length (spsC p)) (hB : B ≤ w.heap.size) (hpn : p.length ≤ 1000000) :
  Calls Try.prog 40 #[.agg #[.int .i64 l.length, .int .i64 l.cycle, .int .i64 l.turn, .int .i64 l.fill, .int .i64 l.save, .bool l.high], v, vp] w fun e w' => ∃ s sl, e = .returned (.tuple #[stV s, sl, .int .i64 (Z2 l ts p)]) ∧ (Z2 l ts p = 0 → s = sAt l (qL ts) p p.length ∧ w'.ownsRow w.heap.size 49 2 sl p.length (rnsC (QBf l (qL ts) p p.length))) ∧ Below w.heap.size w w' := by
 obtain ⟨At, ct, rfl, _⟩ := hr.shape;obtain ⟨Ap, cp, rfl, _⟩ := hp.shape;have hbw := Below.refl w.heap.size w;refine EC.enter 112 Try.func40 rfl rfl rfl (EC.seq (EC.region (EL.newP (QAD rfl) rfl ?_)));intro g1 w1 q1 hb1 hg1 hl1;have bhbw_1 := Nat.le_trans hbw.size hg1;replace hbw := bo_ hbw hb1;clear hb1 hg1 hl1;refine EL.newP QAQ rfl ?_;intro g2 w2 q2 hb2 hg2 hl2;have n1_2 := q1.na hg2;have bhbw_2 := Nat.le_trans hbw.size hg2;replace q1 := q1.bl hb2;replace hbw := bo_ hbw hb2;clear hb2 hg2 hl2;refine EL.as rfl rfl (EL.as rfl rfl (EL.nil (EX.seq (EC.seq (EC.seq (EC.region (EL.val (YY rfl (q1.at (j := 0) rfl) (q1.at (j := 1) rfl) (q1.at (j := 2) rfl) (q1.at (j := 3) rfl) (q1.at (j := 4) rfl) (q1.at (j := 5) rfl)) rfl (EL.mv rfl rfl (EL.call (cA2 cF45 rfl rfl) rfl (QBC (hr.below (hbw.mono hB)) (Nat.le_trans hB hbw.size)) ?_)))))))))
 rintro e w3 ⟨rfl, hc3⟩
 refine ⟨_, rfl, ?_⟩;replace q1 := q1.bl hc3;replace q2 := q2.bl hc3;replace hbw := bo_ hbw hc3;clear hc3;refine EL.as rfl rfl (EL.nil (EX.seq (EC.seq (EC.region (EL.mv rfl rfl ?_)))))
 by_cases ht : towE l ts = 0
 ·
  refine EL.val (Zp (r := false) rfl rfl (decide_eq_false (by omega))) rfl ?_
  refine EL.nil (EX.seq (EC.no rfl (EC.skip (EX.seq (EC.seq (EC.region (EL.mv rfl rfl ?_)))))));obtain ⟨hlk, hn8, htw⟩ := QBG ht;have hqk := QBu ht;refine EL.call (cA1 cF55 rfl) rfl (QG1 (hr.below (hbw.mono hB)) (Nat.le_trans hB hbw.size) hn8) ?_
  rintro e w4 ⟨s0, s1, rfl, hq0, hq1, hc4⟩
  refine ⟨_, rfl, ?_⟩;obtain ⟨q, hqe⟩ : ∃ q, q = qL ts := ⟨_, rfl⟩;rw [← hqe] at hq0 hq1 hqk;replace hq0 := Yh hq0 hbw.size;replace hq1 := Yh hq1 hbw.size;obtain ⟨A0, c0, rfl, _⟩ := (Rd.of_own hq0).shape;obtain ⟨A1, c1, rfl, _⟩ := (Rd.of_own hq1).shape;have hq8 := hqk.len;replace q1 := q1.bl hc4;replace q2 := q2.bl hc4;replace hbw := bo_ hbw hc4;clear hc4;refine EL.newP QIG rfl ?_;intro g5 w5 q5 hb5 hg5 hl5;have n1_5 := q1.na hg5;have n2_5 := q2.na hg5;have bhbw_5 := Nat.le_trans hbw.size hg5;replace q1 := q1.bl hb5;replace q2 := q2.bl hb5;replace hq0 := ZE hq0 hb5 (Nat.le_refl _);replace hq1 := ZE hq1 hb5 (Nat.le_refl _);replace hbw := bo_ hbw hb5;clear hb5 hg5 hl5;refine EL.store rfl rfl q5 QHi rfl rfl rfl rfl ?_;intro w6 hq6 hg6;replace q1 := q1.gr hg6 n1_5;replace q2 := q2.gr hg6 n2_5;replace hq0 := ZL hq0 q5 rfl hg6;replace hq1 := ZL hq1 q5 rfl hg6;replace hbw := ZD hbw hg6 bhbw_5;replace q5 := hq6;clear hg6 hq6;refine EL.nil (EX.seq (EC.seq (EC.region ?_)));refine EL.val (YE (k := 0) rfl rfl (by omega)) rfl ?_
  refine EL.val (Yf rfl (q5.at (j := 0) rfl)) rfl (EL.val (Zs rfl) rfl ?_);refine EL.val (YE (k := 1) rfl rfl (by omega)) rfl ?_
  refine EL.val (Yf rfl (q5.at (j := 1) rfl)) rfl (EL.val (Zs rfl) rfl (EL.val (QIA rfl rfl) rfl (EL.newP QNW rfl ?_)));intro g7 w7 q7 hb7 hg7 hl7;have n1_7 := q1.na hg7;have n2_7 := q2.na hg7;have n5_7 := q5.na hg7;have bhbw_7 := Nat.le_trans hbw.size hg7;replace q1 := q1.bl hb7;replace q2 := q2.bl hb7;replace q5 := q5.bl hb7;replace hq0 := ZE hq0 hb7 (Nat.le_refl _);replace hq1 := ZE hq1 hb7 (Nat.le_refl _);replace hbw := bo_ hbw hb7;clear hb7 hg7 hl7;refine EL.store rfl rfl q7 QM2 rfl rfl rfl rfl ?_;intro w8 hq8 hg8;replace q1 := q1.gr hg8 n1_7;replace q2 := q2.gr hg8 n2_7;replace q5 := q5.gr hg8 n5_7;replace hq0 := ZL hq0 q7 rfl hg8;replace hq1 := ZL hq1 q7 rfl hg8;replace hbw := ZD hbw hg8 bhbw_7;replace q7 := hq8;clear hg8 hq8;refine EL.nil (EX.seq (EC.seq (EC.seq (EC.region (EL.mv rfl rfl (EL.val (QAT rfl) rfl (EL.mv rfl rfl (EL.nil (EX.seq ?_)))))))));refine EC.block ?_;replace q7 : Blk w8 g7 112 #[.int .i64 (Zn q false (p.take 0)), .int .i64 (Zn q true (p.take 0))] := by rw [List.take_zero]; unfold Zn; rw [QBn, QBn]; simp only [Int.sub_zero]; exact q7
  refine EC.loopD [7, 8, 13, 14, 39, 40, 41, 42, 43, 44, 45, 46, 47, 48, 49, 50, 51, 52, 53, 54, 55, 56, 57, 58, 59, 60, 61, 62] (fun k : Nat => [(39, .int .i64 (k : Nat)), (7, .slice none 0 0)]) (fun k W => k ≤ p.length ∧ (∀ i, i < k → okAt q p i = true) ∧ Blk W g1 23 #[.int .i64 l.length, .int .i64 l.cycle, .int .i64 l.turn, .int .i64 l.fill, .int .i64 l.save, .bool l.high] ∧ Blk W g2 114 #[.int .i64 0, .int .i64 0, .int .i64 0, .int .i64 0, .int .i64 0, .bool false, .int .i64 0, .int .i64 0, .int .i64 0, .int .i64 0, .int .i64 0, .int .i64 0, .int .i64 0, .int .i64 0, .int .i64 0] ∧ Blk W g5 134 #[.slice A0 (q false).length c0, .slice A1 (q true).length c1] ∧ Blk W g7 112 #[.int .i64 (Zn q false (p.take k)), .int .i64 (Zn q true (p.take k))] ∧ W.ownsRow w.heap.size 39 5 (.slice A0 (q false).length c0) (q false).length (twsC (q false)) ∧ W.ownsRow w.heap.size 39 5 (.slice A1 (q true).length c1) (q true).length (twsC (q true)) ∧ Below w.heap.size w W) (fun k => p.length - k) 0 ⟨Nat.zero_le _, (fun i hi => absurd hi (Nat.not_lt_zero i)), q1, q2, q5, q7, hq0, hq1, hbw⟩ ⟨rfl, rfl, trivial⟩ ?_
  clear q1 q2 q5 q7 hq0 hq1 hbw
  rintro k wk ⟨hk, hok, q1, q2, q5, q7, hq0, hq1, hbw⟩
  by_cases hltk : k < p.length
  ·
   obtain ⟨b, o, rfl, _, cc⟩ := QAb p k hltk w B _ _ _ hp;obtain ⟨x, hpx⟩ : ∃ x, p.getD k sp0 = x := ⟨_, rfl⟩;rw [hpx] at cc;obtain ⟨xu, xn⟩ := x;have hbd := QL_ (Nat.le_of_lt hltk) hok;refine EC.seq (EC.region ?_);refine EL.val (ZS (r := true) rfl rfl (decide_eq_true (by omega))) rfl ?_
   refine EL.nil (EX.seq (EC.seq (EC.yes rfl (EC.skip (EX.seq (EC.seq (EC.block (EC.seq (EC.region ?_)))))))));refine EL.val (QDh rfl rfl hltk) rfl (EL.val (QBg rfl (ZB hbw cc.c0) (ZB hbw cc.c1)) rfl (EL.newP QHa rfl ?_));intro g9 w9 q9 hb9 hg9 hl9;have n1_9 := q1.na hg9;have n2_9 := q2.na hg9;have n5_9 := q5.na hg9;have n7_9 := q7.na hg9;have bhbw_9 := Nat.le_trans hbw.size hg9;replace q1 := q1.bl hb9;replace q2 := q2.bl hb9;replace q5 := q5.bl hb9;replace q7 := q7.bl hb9;replace hq0 := ZE hq0 hb9 (Nat.le_refl _);replace hq1 := ZE hq1 hb9 (Nat.le_refl _);replace hbw := bo_ hbw hb9;clear hb9 hg9 hl9;refine EL.store rfl rfl q9 QGf rfl rfl rfl rfl ?_;intro w10 hq10 hg10;replace q1 := q1.gr hg10 n1_9;replace q2 := q2.gr hg10 n2_9;replace q5 := q5.gr hg10 n5_9;replace q7 := q7.gr hg10 n7_9;replace hq0 := ZL hq0 q9 rfl hg10;replace hq1 := ZL hq1 q9 rfl hg10;replace hbw := ZD hbw hg10 bhbw_9;replace q9 := hq10;clear hg10 hq10;refine EL.nil (EX.seq (EC.seq (EC.region (EL.val (QA0 rfl) rfl (EL.val (ld_4 rfl (q9.at (j := 0) rfl)) rfl (EL.call (cA1 cF56 rfl) rfl (QBE _ _) ?_))))))
   rintro e w11 ⟨rfl, hc11⟩
   refine ⟨_, rfl, ?_⟩;replace q1 := q1.bl hc11;replace q2 := q2.bl hc11;replace q5 := q5.bl hc11;replace q7 := q7.bl hc11;replace q9 := q9.bl hc11;replace hq0 := ZE hq0 hc11 (Nat.le_refl _);replace hq1 := ZE hq1 hc11 (Nat.le_refl _);replace hbw := bo_ hbw hc11;clear hc11;refine EL.as rfl rfl (EL.nil (EX.seq (EC.seq (EC.seq ?_))))
   cases xu
   ·
    have lt_1 := q1.lt;have lt_2 := q2.lt;have lt_5 := q5.lt;have lt_7 := q7.lt;have lt_9 := q9.lt;refine EC.regionP [[], [0], [0, 1], [], [3], [3, 4], [0, 1, 2, 3, 4, 5], [0, 1, 2, 3, 4, 5, 6]] 6 [] (phi (fun i_ r => match i_ with | 0 => r 0 = .int .i64 (wyB false) | 1 => r 1 = .pointer (some ⟨g7, 0 + 0, none⟩) | 2 => r 2 = .int .i64 (Zn q false (p.take k)) | 3 => r 3 = .pointer (some ⟨g9, 1, none⟩) | 4 => r 4 = .int .i64 xn | _ => True) [(5, fun r w_ => ∃ g_, r 5 = .slice (some ⟨g_, 0, none⟩) 1 1 ∧ Blk w_ g_ 3 #[.int .i64 xn] ∧ w11.heap.size ≤ g_)]) (by kernel_rfl) rfl rfl (Zt Yj (YT)) (fun i_ hi_ => ?_) ?_
    ·match i_, hi_ with
     | 0, _ =>
      intro val w1 a hb ha hd;have ha := ha.s0 (d := 14) rfl
      exact ZH ha rfl rfl (x_move rfl) rfl rfl
     | 1, _ =>
      intro val w1 a hb ha hd;have e0 : val 0 = _ := hd 0 (ZA.1 rfl);have ha := ha.sub (Sub.ins (d := 46) (Sub.ins (d := 11) (Sub.nil _) rfl) (ZO rfl e0))
      exact ZH ha rfl rfl (Zo (k := 0) rfl rfl (by omega)) rfl rfl
     | 2, _ =>
      intro val w1 a hb ha hd;have e1 : val 1 = _ := hd 1 (ZA.1 rfl);have ha := ha.s1 (d := 47) rfl e1
      exact ZH ha rfl rfl (ld_3 rfl ((q7.below hb q7.lt).at (j := 0) rfl)) rfl rfl
     | 3, _ =>
      intro val w1 a hb ha hd;have ha := ha.s0 (d := 13) rfl
      exact ZH ha rfl rfl (Ym rfl) rfl rfl
     | 4, _ =>
      intro val w1 a hb ha hd;have e3 : val 3 = _ := hd 3 (ZA.1 rfl);have ha := ha.s1 (d := 49) rfl e3
      exact ZH ha rfl rfl (ld_3 rfl ((q9.below hb q9.lt).at (j := 1) rfl)) rfl rfl
     | 5, _ =>
      intro val w1 a hb ha hd;have e4 : val 4 = _ := hd 4 (ZA.1 rfl);have ha := ha.s1 (d := 50) rfl e4
      exact QD4 ha rfl rfl (YP rfl) rfl (fun g w' hq _ hge => ⟨g, rfl, hq, Nat.le_trans hb.size hge⟩)
     | k + 6, h => exact absurd h (by omega)
    ·intro val wR10 hb halc hd
     have e0 : val 0 = _ := hd 0 (by omega)
     have e1 : val 1 = _ := hd 1 (by omega)
     have e2 : val 2 = _ := hd 2 (by omega)
     have e3 : val 3 = _ := hd 3 (by omega)
     have e4 : val 4 = _ := hd 4 (by omega)
     obtain ⟨ga5_10, e5, qa5_10, hga5_10⟩ := hd 5 (by omega)
     change val 5 = _ at e5;change Blk wR10 ga5_10 3 #[.int .i64 xn] at qa5_10;refine EL.ends (cs := [_, _, _, _, _, _]) ⟨e0, e1, e2, e3, e4, e5, trivial⟩ rfl ?_;replace q1 := q1.bl hb;replace q2 := q2.bl hb;replace q5 := q5.bl hb;replace q7 := q7.bl hb;replace q9 := q9.bl hb;replace hq0 := ZE hq0 hb (Nat.le_refl _);replace hq1 := ZE hq1 hb (Nat.le_refl _);have n1_12 : g1 ≠ ga5_10 := Nat.ne_of_lt (Nat.lt_of_lt_of_le lt_1 hga5_10);have n2_12 : g2 ≠ ga5_10 := Nat.ne_of_lt (Nat.lt_of_lt_of_le lt_2 hga5_10);have n5_12 : g5 ≠ ga5_10 := Nat.ne_of_lt (Nat.lt_of_lt_of_le lt_5 hga5_10);have n7_12 : g7 ≠ ga5_10 := Nat.ne_of_lt (Nat.lt_of_lt_of_le lt_7 hga5_10);have n9_12 : g9 ≠ ga5_10 := Nat.ne_of_lt (Nat.lt_of_lt_of_le lt_9 hga5_10);have bhbw_12 := Nat.le_trans hbw.size hga5_10;replace hbw := bo_ hbw hb;clear hb
     cases hin : inB 1 (Zn q false (p.take k)) xn
     ·
      have hko : okAt q p k = false := by unfold okAt; rw [hpx]; exact hin
      refine EL.call (cA3 cF39 rfl rfl rfl) rfl (Zf qa5_10 hin) ?_
      rintro e w13 ⟨rfl, hc13⟩
      refine ⟨_, rfl, ?_⟩;replace q1 := q1.bl hc13;replace q2 := q2.bl hc13;replace q5 := q5.bl hc13;replace q7 := q7.bl hc13;replace q9 := q9.bl hc13;replace qa5_10 := qa5_10.bl hc13;replace hq0 := ZE hq0 hc13 (Nat.le_refl _);replace hq1 := ZE hq1 hc13 (Nat.le_refl _);replace hbw := bo_ hbw hc13;clear hc13;refine EL.val (ZT rfl) rfl (EL.nil (EX.seq (EC.yes rfl (EC.seq (EC.region (EL.val (YB rfl (q2.at (j := 0) rfl) (q2.at (j := 1) rfl) (q2.at (j := 2) rfl) (q2.at (j := 3) rfl) (q2.at (j := 4) rfl) (q2.at (j := 5) rfl) (q2.at (j := 6) rfl) (q2.at (j := 7) rfl) (q2.at (j := 8) rfl) (q2.at (j := 9) rfl) (q2.at (j := 10) rfl) (q2.at (j := 11) rfl) (q2.at (j := 12) rfl) (q2.at (j := 13) rfl) (q2.at (j := 14) rfl)) rfl (EL.store rfl rfl q2 Z9 rfl rfl rfl rfl ?_)))))));intro w14 hq14 hg14;replace q1 := q1.gr hg14 n1_2;replace q5 := q5.gr hg14 n2_5.symm;replace q7 := q7.gr hg14 n2_7.symm;replace q9 := q9.gr hg14 n2_9.symm;replace qa5_10 := qa5_10.gr hg14 n2_12.symm;replace hq0 := ZL hq0 q2 rfl hg14;replace hq1 := ZL hq1 q2 rfl hg14;replace hbw := ZD hbw hg14 bhbw_2;replace q2 := hq14;clear hg14 hq14;refine EL.as rfl rfl (EL.as rfl rfl (EL.nil (EX.seq (EC.ret (EX.seq_ret (EX.blk_ret (EX.seq_ret (EX.seq_ret (EX.blk_ret ?_)))))))));refine EX.seq_ret ?_
      exact EX.done (QCU rfl rfl rfl rfl (QAP (q2.at (j := 0) rfl) (q2.at (j := 1) rfl) (q2.at (j := 2) rfl) (q2.at (j := 3) rfl) (q2.at (j := 4) rfl) (q2.at (j := 5) rfl) (q2.at (j := 6) rfl) (q2.at (j := 7) rfl) (q2.at (j := 8) rfl) (q2.at (j := 9) rfl) (q2.at (j := 10) rfl) (q2.at (j := 11) rfl) (q2.at (j := 12) rfl) (q2.at (j := 13) rfl) (q2.at (j := 14) rfl))) ⟨st0, _, by rw [QBN ht (by rw [← hqe]; exact QCt hltk hko)]; rfl, fun he => absurd he (by rw [QBN ht (by rw [← hqe]; exact QCt hltk hko)]; decide), hbw⟩
     ·
      have hko : okAt q p k = true := by unfold okAt; rw [hpx]; exact hin
      obtain ⟨hin1, hin2⟩ := QDc hin;refine EL.call (cA3 cF39 rfl rfl rfl) rfl (Zf qa5_10 hin) ?_
      rintro e w15 ⟨rfl, hc15⟩
      refine ⟨_, rfl, ?_⟩;replace q1 := q1.bl hc15;replace q2 := q2.bl hc15;replace q5 := q5.bl hc15;replace q7 := q7.bl hc15;replace q9 := q9.bl hc15;replace qa5_10 := qa5_10.bl hc15;replace hq0 := ZE hq0 hc15 (Nat.le_refl _);replace hq1 := ZE hq1 hc15 (Nat.le_refl _);replace hbw := bo_ hbw hc15;clear hc15;refine EL.val (ZT rfl) rfl (EL.nil (EX.seq (EC.no rfl (EC.skip (EX.seq ?_)))));have hsn : Zn q false (p.take (k + 1)) = Zn q false (p.take k) - xn := by unfold Zn; rw [Yz _ hltk, hpx, if_pos rfl]; dsimp only; omega
      have hso : Zn q true (p.take (k + 1)) = Zn q true (p.take k) := by unfold Zn; rw [Yz _ hltk, hpx, if_neg (fun h => Bool.noConfusion h)]
      have hb1 := hbd false;have hb2 : Zn q false (p.take k) ≤ 8 := by unfold Zn; have := (hbd false).1; omega
      have lt_1 := q1.lt;have lt_2 := q2.lt;have lt_5 := q5.lt;have lt_7 := q7.lt;have lt_9 := q9.lt;have lt_12 := qa5_10.lt;refine EC.regionP [[], [0], [0, 1], [], [3], [0, 1, 2, 3, 4], [0, 1, 2, 3, 4, 5], [0, 1, 2, 3, 4, 5, 6]] 6 [] (phi (fun i_ r => match i_ with | 0 => r 0 = .int .i64 (wyB false) | 1 => r 1 = .pointer (some ⟨g7, 0 + 0, none⟩) | 2 => r 2 = .int .i64 (Zn q false (p.take k)) | 3 => r 3 = .pointer (some ⟨g9, 1, none⟩) | 4 => r 4 = .int .i64 xn | 5 => r 5 = .int .i64 (Zn q false (p.take (k + 1))) | _ => True) []) (by kernel_rfl) rfl rfl (YT) (fun i_ hi_ => ?_) ?_
      ·match i_, hi_ with
       | 0, _ =>
        intro val w1 a hb ha hd;have ha := ha.s0 (d := 14) rfl
        exact ZH ha rfl rfl (x_move rfl) rfl rfl
       | 1, _ =>
        intro val w1 a hb ha hd;have e0 : val 0 = _ := hd 0 (ZA.1 rfl);have ha := ha.sub (Sub.ins (d := 55) (Sub.ins (d := 11) (Sub.nil _) rfl) (ZO rfl e0))
        exact ZH ha rfl rfl (Zo (k := 0) rfl rfl (by omega)) rfl rfl
       | 2, _ =>
        intro val w1 a hb ha hd;have e1 : val 1 = _ := hd 1 (ZA.1 rfl);have ha := ha.s1 (d := 56) rfl e1
        exact ZH ha rfl rfl (ld_3 rfl ((q7.below hb q7.lt).at (j := 0) rfl)) rfl rfl
       | 3, _ =>
        intro val w1 a hb ha hd;have ha := ha.s0 (d := 13) rfl
        exact ZH ha rfl rfl (Ym rfl) rfl rfl
       | 4, _ =>
        intro val w1 a hb ha hd;have e3 : val 3 = _ := hd 3 (ZA.1 rfl);have ha := ha.s1 (d := 58) rfl e3
        exact ZH ha rfl rfl (ld_3 rfl ((q9.below hb q9.lt).at (j := 1) rfl)) rfl rfl
       | 5, _ =>
        intro val w1 a hb ha hd;have e2 : val 2 = _ := hd 2 (ZA.1 rfl);have e4 : val 4 = _ := hd 4 (ZA.1 rfl);have ha := ha.s2 (d := 59) (e := 57) rfl e4 rfl e2
        exact ZH ha rfl rfl (Zv rfl rfl (c := Zn q false (p.take (k + 1))) ((IntWalk.i64_in _ ⟨by omega, by omega⟩).trans hsn.symm)) rfl rfl
       | k + 6, h => exact absurd h (by omega)
      ·intro val wR12 hb halc hd
       have e0 : val 0 = _ := hd 0 (by omega)
       have e1 : val 1 = _ := hd 1 (by omega)
       have e2 : val 2 = _ := hd 2 (by omega)
       have e3 : val 3 = _ := hd 3 (by omega)
       have e4 : val 4 = _ := hd 4 (by omega)
       have e5 : val 5 = _ := hd 5 (by omega)
       refine EL.ends (cs := [_, _, _, _, _, _]) ⟨e0, e1, e2, e3, e4, e5, trivial⟩ rfl ?_;replace q1 := q1.bl hb;replace q2 := q2.bl hb;replace q5 := q5.bl hb;replace q7 := q7.bl hb;replace q9 := q9.bl hb;replace qa5_10 := qa5_10.bl hb;replace hq0 := ZE hq0 hb (Nat.le_refl _);replace hq1 := ZE hq1 hb (Nat.le_refl _);replace hbw := bo_ hbw hb;clear hb;refine EL.val (Zo (k := 0) rfl rfl (by omega)) rfl ?_
       refine EL.store rfl rfl q7 sz_3 rfl rfl rfl rfl ?_;intro w16 hq16 hg16;replace q1 := q1.gr hg16 n1_7;replace q2 := q2.gr hg16 n2_7;replace q5 := q5.gr hg16 n5_7;replace q9 := q9.gr hg16 n7_9.symm;replace qa5_10 := qa5_10.gr hg16 n7_12.symm;replace hq0 := ZL hq0 q7 rfl hg16;replace hq1 := ZL hq1 q7 rfl hg16;replace hbw := ZD hbw hg16 bhbw_7;replace q7 := hq16;clear hg16 hq16;refine EL.nil (EX.blk (EX.seq (EC.region ?_)));refine EL.val (ZP rfl rfl (c := ((k + 1 : Nat) : Int)) ((IntWalk.i64_in _ ⟨by first | omega | (simp only; omega), by first | omega | (simp only; omega)⟩).trans (by first | omega | (simp only; omega)))) rfl ?_
       refine EL.mv rfl rfl (EL.nil ?_);refine EX.roundD (k + 1) ⟨rfl, rfl, trivial⟩ (by repeat first | with_reducible exact .refl _ | refine sp_ rfl ?_ | exact .refl _ | refine sd_ rfl ?_ | refine sn_ ?_) ⟨hltk, (QCs hok hko), q1, q2, q5, (by rw [hso]; exact q7), hq0, hq1, hbw⟩ (by omega)
   ·
    have lt_1 := q1.lt;have lt_2 := q2.lt;have lt_5 := q5.lt;have lt_7 := q7.lt;have lt_9 := q9.lt;refine EC.regionP [[], [0], [0, 1], [], [3], [3, 4], [0, 1, 2, 3, 4, 5], [0, 1, 2, 3, 4, 5, 6]] 6 [] (phi (fun i_ r => match i_ with | 0 => r 0 = .int .i64 (wyB true) | 1 => r 1 = .pointer (some ⟨g7, 0 + 1, none⟩) | 2 => r 2 = .int .i64 (Zn q true (p.take k)) | 3 => r 3 = .pointer (some ⟨g9, 1, none⟩) | 4 => r 4 = .int .i64 xn | _ => True) [(5, fun r w_ => ∃ g_, r 5 = .slice (some ⟨g_, 0, none⟩) 1 1 ∧ Blk w_ g_ 3 #[.int .i64 xn] ∧ w11.heap.size ≤ g_)]) (by kernel_rfl) rfl rfl (Zt Yj (YT)) (fun i_ hi_ => ?_) ?_
    ·match i_, hi_ with
     | 0, _ =>
      intro val w1 a hb ha hd;have ha := ha.s0 (d := 14) rfl
      exact ZH ha rfl rfl (x_move rfl) rfl rfl
     | 1, _ =>
      intro val w1 a hb ha hd;have e0 : val 0 = _ := hd 0 (ZA.1 rfl);have ha := ha.sub (Sub.ins (d := 46) (Sub.ins (d := 11) (Sub.nil _) rfl) (ZO rfl e0))
      exact ZH ha rfl rfl (Zo (k := 1) rfl rfl (by omega)) rfl rfl
     | 2, _ =>
      intro val w1 a hb ha hd;have e1 : val 1 = _ := hd 1 (ZA.1 rfl);have ha := ha.s1 (d := 47) rfl e1
      exact ZH ha rfl rfl (ld_3 rfl ((q7.below hb q7.lt).at (j := 1) rfl)) rfl rfl
     | 3, _ =>
      intro val w1 a hb ha hd;have ha := ha.s0 (d := 13) rfl
      exact ZH ha rfl rfl (Ym rfl) rfl rfl
     | 4, _ =>
      intro val w1 a hb ha hd;have e3 : val 3 = _ := hd 3 (ZA.1 rfl);have ha := ha.s1 (d := 49) rfl e3
      exact ZH ha rfl rfl (ld_3 rfl ((q9.below hb q9.lt).at (j := 1) rfl)) rfl rfl
     | 5, _ =>
      intro val w1 a hb ha hd;have e4 : val 4 = _ := hd 4 (ZA.1 rfl);have ha := ha.s1 (d := 50) rfl e4
      exact QD4 ha rfl rfl (YP rfl) rfl (fun g w' hq _ hge => ⟨g, rfl, hq, Nat.le_trans hb.size hge⟩)
     | k + 6, h => exact absurd h (by omega)
    ·intro val wR10 hb halc hd
     have e0 : val 0 = _ := hd 0 (by omega)
     have e1 : val 1 = _ := hd 1 (by omega)
     have e2 : val 2 = _ := hd 2 (by omega)
     have e3 : val 3 = _ := hd 3 (by omega)
     have e4 : val 4 = _ := hd 4 (by omega)
     obtain ⟨ga5_10, e5, qa5_10, hga5_10⟩ := hd 5 (by omega)
     change val 5 = _ at e5;change Blk wR10 ga5_10 3 #[.int .i64 xn] at qa5_10;refine EL.ends (cs := [_, _, _, _, _, _]) ⟨e0, e1, e2, e3, e4, e5, trivial⟩ rfl ?_;replace q1 := q1.bl hb;replace q2 := q2.bl hb;replace q5 := q5.bl hb;replace q7 := q7.bl hb;replace q9 := q9.bl hb;replace hq0 := ZE hq0 hb (Nat.le_refl _);replace hq1 := ZE hq1 hb (Nat.le_refl _);have n1_17 : g1 ≠ ga5_10 := Nat.ne_of_lt (Nat.lt_of_lt_of_le lt_1 hga5_10);have n2_17 : g2 ≠ ga5_10 := Nat.ne_of_lt (Nat.lt_of_lt_of_le lt_2 hga5_10);have n5_17 : g5 ≠ ga5_10 := Nat.ne_of_lt (Nat.lt_of_lt_of_le lt_5 hga5_10);have n7_17 : g7 ≠ ga5_10 := Nat.ne_of_lt (Nat.lt_of_lt_of_le lt_7 hga5_10);have n9_17 : g9 ≠ ga5_10 := Nat.ne_of_lt (Nat.lt_of_lt_of_le lt_9 hga5_10);have bhbw_17 := Nat.le_trans hbw.size hga5_10;replace hbw := bo_ hbw hb;clear hb
     cases hin : inB 1 (Zn q true (p.take k)) xn
     ·
      have hko : okAt q p k = false := by unfold okAt; rw [hpx]; exact hin
      refine EL.call (cA3 cF39 rfl rfl rfl) rfl (Zf qa5_10 hin) ?_
      rintro e w18 ⟨rfl, hc18⟩
      refine ⟨_, rfl, ?_⟩;replace q1 := q1.bl hc18;replace q2 := q2.bl hc18;replace q5 := q5.bl hc18;replace q7 := q7.bl hc18;replace q9 := q9.bl hc18;replace qa5_10 := qa5_10.bl hc18;replace hq0 := ZE hq0 hc18 (Nat.le_refl _);replace hq1 := ZE hq1 hc18 (Nat.le_refl _);replace hbw := bo_ hbw hc18;clear hc18;refine EL.val (ZT rfl) rfl (EL.nil (EX.seq (EC.yes rfl (EC.seq (EC.region (EL.val (YB rfl (q2.at (j := 0) rfl) (q2.at (j := 1) rfl) (q2.at (j := 2) rfl) (q2.at (j := 3) rfl) (q2.at (j := 4) rfl) (q2.at (j := 5) rfl) (q2.at (j := 6) rfl) (q2.at (j := 7) rfl) (q2.at (j := 8) rfl) (q2.at (j := 9) rfl) (q2.at (j := 10) rfl) (q2.at (j := 11) rfl) (q2.at (j := 12) rfl) (q2.at (j := 13) rfl) (q2.at (j := 14) rfl)) rfl (EL.store rfl rfl q2 Z9 rfl rfl rfl rfl ?_)))))));intro w19 hq19 hg19;replace q1 := q1.gr hg19 n1_2;replace q5 := q5.gr hg19 n2_5.symm;replace q7 := q7.gr hg19 n2_7.symm;replace q9 := q9.gr hg19 n2_9.symm;replace qa5_10 := qa5_10.gr hg19 n2_17.symm;replace hq0 := ZL hq0 q2 rfl hg19;replace hq1 := ZL hq1 q2 rfl hg19;replace hbw := ZD hbw hg19 bhbw_2;replace q2 := hq19;clear hg19 hq19;refine EL.as rfl rfl (EL.as rfl rfl (EL.nil (EX.seq (EC.ret (EX.seq_ret (EX.blk_ret (EX.seq_ret (EX.seq_ret (EX.blk_ret ?_)))))))));refine EX.seq_ret ?_
      exact EX.done (QCU rfl rfl rfl rfl (QAP (q2.at (j := 0) rfl) (q2.at (j := 1) rfl) (q2.at (j := 2) rfl) (q2.at (j := 3) rfl) (q2.at (j := 4) rfl) (q2.at (j := 5) rfl) (q2.at (j := 6) rfl) (q2.at (j := 7) rfl) (q2.at (j := 8) rfl) (q2.at (j := 9) rfl) (q2.at (j := 10) rfl) (q2.at (j := 11) rfl) (q2.at (j := 12) rfl) (q2.at (j := 13) rfl) (q2.at (j := 14) rfl))) ⟨st0, _, by rw [QBN ht (by rw [← hqe]; exact QCt hltk hko)]; rfl, fun he => absurd he (by rw [QBN ht (by rw [← hqe]; exact QCt hltk hko)]; decide), hbw⟩
     ·
      have hko : okAt q p k = true := by unfold okAt; rw [hpx]; exact hin
      obtain ⟨hin1, hin2⟩ := QDc hin;refine EL.call (cA3 cF39 rfl rfl rfl) rfl (Zf qa5_10 hin) ?_
      rintro e w20 ⟨rfl, hc20⟩
      refine ⟨_, rfl, ?_⟩;replace q1 := q1.bl hc20;replace q2 := q2.bl hc20;replace q5 := q5.bl hc20;replace q7 := q7.bl hc20;replace q9 := q9.bl hc20;replace qa5_10 := qa5_10.bl hc20;replace hq0 := ZE hq0 hc20 (Nat.le_refl _);replace hq1 := ZE hq1 hc20 (Nat.le_refl _);replace hbw := bo_ hbw hc20;clear hc20;refine EL.val (ZT rfl) rfl (EL.nil (EX.seq (EC.no rfl (EC.skip (EX.seq ?_)))));have hsn : Zn q true (p.take (k + 1)) = Zn q true (p.take k) - xn := by unfold Zn; rw [Yz _ hltk, hpx, if_pos rfl]; dsimp only; omega
      have hso : Zn q false (p.take (k + 1)) = Zn q false (p.take k) := by unfold Zn; rw [Yz _ hltk, hpx, if_neg (fun h => Bool.noConfusion h)]
      have hb1 := hbd true;have hb2 : Zn q true (p.take k) ≤ 8 := by unfold Zn; have := (hbd true).1; omega
      have lt_1 := q1.lt;have lt_2 := q2.lt;have lt_5 := q5.lt;have lt_7 := q7.lt;have lt_9 := q9.lt;have lt_17 := qa5_10.lt;refine EC.regionP [[], [0], [0, 1], [], [3], [0, 1, 2, 3, 4], [0, 1, 2, 3, 4, 5], [0, 1, 2, 3, 4, 5, 6]] 6 [] (phi (fun i_ r => match i_ with | 0 => r 0 = .int .i64 (wyB true) | 1 => r 1 = .pointer (some ⟨g7, 0 + 1, none⟩) | 2 => r 2 = .int .i64 (Zn q true (p.take k)) | 3 => r 3 = .pointer (some ⟨g9, 1, none⟩) | 4 => r 4 = .int .i64 xn | 5 => r 5 = .int .i64 (Zn q true (p.take (k + 1))) | _ => True) []) (by kernel_rfl) rfl rfl (YT) (fun i_ hi_ => ?_) ?_
      ·match i_, hi_ with
       | 0, _ =>
        intro val w1 a hb ha hd;have ha := ha.s0 (d := 14) rfl
        exact ZH ha rfl rfl (x_move rfl) rfl rfl
       | 1, _ =>
        intro val w1 a hb ha hd;have e0 : val 0 = _ := hd 0 (ZA.1 rfl);have ha := ha.sub (Sub.ins (d := 55) (Sub.ins (d := 11) (Sub.nil _) rfl) (ZO rfl e0))
        exact ZH ha rfl rfl (Zo (k := 1) rfl rfl (by omega)) rfl rfl
       | 2, _ =>
        intro val w1 a hb ha hd;have e1 : val 1 = _ := hd 1 (ZA.1 rfl);have ha := ha.s1 (d := 56) rfl e1
        exact ZH ha rfl rfl (ld_3 rfl ((q7.below hb q7.lt).at (j := 1) rfl)) rfl rfl
       | 3, _ =>
        intro val w1 a hb ha hd;have ha := ha.s0 (d := 13) rfl
        exact ZH ha rfl rfl (Ym rfl) rfl rfl
       | 4, _ =>
        intro val w1 a hb ha hd;have e3 : val 3 = _ := hd 3 (ZA.1 rfl);have ha := ha.s1 (d := 58) rfl e3
        exact ZH ha rfl rfl (ld_3 rfl ((q9.below hb q9.lt).at (j := 1) rfl)) rfl rfl
       | 5, _ =>
        intro val w1 a hb ha hd;have e2 : val 2 = _ := hd 2 (ZA.1 rfl);have e4 : val 4 = _ := hd 4 (ZA.1 rfl);have ha := ha.s2 (d := 59) (e := 57) rfl e4 rfl e2
        exact ZH ha rfl rfl (Zv rfl rfl (c := Zn q true (p.take (k + 1))) ((IntWalk.i64_in _ ⟨by omega, by omega⟩).trans hsn.symm)) rfl rfl
       | k + 6, h => exact absurd h (by omega)
      ·intro val wR12 hb halc hd
       have e0 : val 0 = _ := hd 0 (by omega)
       have e1 : val 1 = _ := hd 1 (by omega)
       have e2 : val 2 = _ := hd 2 (by omega)
       have e3 : val 3 = _ := hd 3 (by omega)
       have e4 : val 4 = _ := hd 4 (by omega)
       have e5 : val 5 = _ := hd 5 (by omega)
       refine EL.ends (cs := [_, _, _, _, _, _]) ⟨e0, e1, e2, e3, e4, e5, trivial⟩ rfl ?_;replace q1 := q1.bl hb;replace q2 := q2.bl hb;replace q5 := q5.bl hb;replace q7 := q7.bl hb;replace q9 := q9.bl hb;replace qa5_10 := qa5_10.bl hb;replace hq0 := ZE hq0 hb (Nat.le_refl _);replace hq1 := ZE hq1 hb (Nat.le_refl _);replace hbw := bo_ hbw hb;clear hb;refine EL.val (Zo (k := 1) rfl rfl (by omega)) rfl ?_
       refine EL.store rfl rfl q7 sz_3 rfl rfl rfl rfl ?_;intro w21 hq21 hg21;replace q1 := q1.gr hg21 n1_7;replace q2 := q2.gr hg21 n2_7;replace q5 := q5.gr hg21 n5_7;replace q9 := q9.gr hg21 n7_9.symm;replace qa5_10 := qa5_10.gr hg21 n7_17.symm;replace hq0 := ZL hq0 q7 rfl hg21;replace hq1 := ZL hq1 q7 rfl hg21;replace hbw := ZD hbw hg21 bhbw_7;replace q7 := hq21;clear hg21 hq21;refine EL.nil (EX.blk (EX.seq (EC.region ?_)));refine EL.val (ZP rfl rfl (c := ((k + 1 : Nat) : Int)) ((IntWalk.i64_in _ ⟨by first | omega | (simp only; omega), by first | omega | (simp only; omega)⟩).trans (by first | omega | (simp only; omega)))) rfl ?_
       refine EL.mv rfl rfl (EL.nil ?_);refine EX.roundD (k + 1) ⟨rfl, rfl, trivial⟩ (by repeat first | with_reducible exact .refl _ | refine sp_ rfl ?_ | exact .refl _ | refine sd_ rfl ?_ | refine sn_ ?_) ⟨hltk, (QCs hok hko), q1, q2, q5, (by rw [hso]; exact q7), hq0, hq1, hbw⟩ (by omega)
  ·
   obtain rfl : k = p.length := by omega
   rw [List.take_length] at q7;refine EC.seq (EC.region ?_);refine EL.val (ZS (r := false) rfl rfl (decide_eq_false (by omega))) rfl ?_
   refine EL.nil (EX.seq (EC.seq (EC.no rfl (EC.exit (EX.seq_exit (EX.seq_exit (EX.blk_here (EX.seq (EC.seq ?_)))))))));refine EC.seq (EC.region (EL.val (QNK rfl (q7.at (j := 0) rfl) (q7.at (j := 1) rfl)) rfl (EL.val (QMb) rfl ?_)))
   by_cases hz : Zn q false p = 0 ∧ Zn q true p = 0
   ·
    have hoc : okC q p = true := QM_ hok hz.1 hz.2;have hp8 := QKU hqk hoc;refine EL.val (QJs (r := false) rfl rfl (decide_eq_false (fun h => h hz))) rfl ?_
    refine EL.nil (EX.seq (EC.no rfl (EC.skip (EX.seq (EC.seq (EC.region (EL.val (YY rfl (q1.at (j := 0) rfl) (q1.at (j := 1) rfl) (q1.at (j := 2) rfl) (q1.at (j := 3) rfl) (q1.at (j := 4) rfl) (q1.at (j := 5) rfl)) rfl (EL.val (ZN rfl) rfl (EL.val (ZY rfl) rfl ?_)))))))));refine EL.store rfl rfl q2 QJ9 rfl rfl rfl rfl ?_;intro w22 hq22 hg22;replace q1 := q1.gr hg22 n1_2;replace q5 := q5.gr hg22 n2_5.symm;replace q7 := q7.gr hg22 n2_7.symm;replace hq0 := ZL hq0 q2 rfl hg22;replace hq1 := ZL hq1 q2 rfl hg22;replace hbw := ZD hbw hg22 bhbw_2;replace q2 := hq22;clear hg22 hq22;refine EL.nil (EX.seq (EC.seq (EC.seq (EC.region (EL.mv rfl rfl (EL.val (QAT rfl) rfl (EL.mv rfl rfl (EL.nil (EX.seq ?_)))))))));refine EC.block ?_;replace q2 : Blk w22 g2 114 (stB (sAt l q p 0)) := q2;have hrn := Y9 w22 w.heap.size 49 2;refine EC.loopD [7, 8, 16, 17, 18, 19, 20, 72, 73, 74, 75, 76, 77, 78, 79, 80, 81, 82, 83, 84, 85, 86, 87, 88, 89, 90, 91, 92, 93, 94, 95, 96, 97, 98, 99, 100, 101, 102, 103, 104, 105, 106, 107, 108, 109] (fun x : Nat × Value => [(72, .int .i64 (x.1 : Nat)), (7, x.2)]) (fun x W => x.1 ≤ p.length ∧ (∀ i, i < x.1 → QC8 l q p i = true) ∧ Blk W g2 114 (stB (sAt l q p x.1)) ∧ Blk W g5 134 #[.slice A0 (q false).length c0, .slice A1 (q true).length c1] ∧ W.ownsRow w.heap.size 39 5 (.slice A0 (q false).length c0) (q false).length (twsC (q false)) ∧ W.ownsRow w.heap.size 39 5 (.slice A1 (q true).length c1) (q true).length (twsC (q true)) ∧ W.ownsRow w.heap.size 49 2 x.2 x.1 (rnsC (QBf l q p x.1)) ∧ Below w.heap.size w W) (fun x => p.length - x.1) (0, .slice none 0 0) ⟨Nat.zero_le _, (fun i hi => absurd hi (Nat.not_lt_zero i)), q2, q5, hq0, hq1, hrn, hbw⟩ ⟨rfl, rfl, trivial⟩ ?_
    clear q2 q5 hq0 hq1 hrn hbw
    rintro ⟨k, vr⟩ wk ⟨hk, hfa, qs6, qs10, hq0, hq1, hrn, hbw⟩
    dsimp only at hk hfa qs6 hrn
    obtain ⟨Ar, cr, rfl, _⟩ := (Rd.of_own hrn).shape
    by_cases hltk : k < p.length
    ·
     obtain ⟨b, o, rfl, _, cc⟩ := QAb p k hltk w B _ _ _ hp;obtain ⟨x, hpx⟩ : ∃ x, p.getD k sp0 = x := ⟨_, rfl⟩;rw [hpx] at cc;obtain ⟨xu, xn⟩ := x;obtain ⟨hdk, hdt⟩ := QHQ hqk (Nat.le_of_lt hltk) (fun i hi => hok i (by omega)) hfa
     have hko := hok k hltk
     unfold okAt at hko
     rw [hpx] at hko;obtain ⟨hin1, hin2⟩ := QDc hko
     dsimp only at hin1 hin2
     obtain ⟨n, rfl⟩ : ∃ n : Nat, xn = n := ⟨xn.toNat, (Int.toNat_of_nonneg (by omega)).symm⟩
     refine EC.seq (EC.region ?_);refine EL.val (ZS (r := true) rfl rfl (decide_eq_true (by omega))) rfl ?_
     refine EL.nil (EX.seq (EC.seq (EC.yes rfl (EC.skip (EX.seq (EC.seq (EC.block (EC.seq (EC.region ?_)))))))));refine EL.val (QDh rfl rfl hltk) rfl (EL.val (QBg rfl (ZB hbw cc.c0) (ZB hbw cc.c1)) rfl (EL.newP QHa rfl ?_));intro g23 w23 q23 hb23 hg23 hl23;have n2_23 := qs6.na hg23;have n5_23 := qs10.na hg23;have bhbw_23 := Nat.le_trans hbw.size hg23;replace qs6 := qs6.bl hb23;replace qs10 := qs10.bl hb23;replace hq0 := ZE hq0 hb23 (Nat.le_refl _);replace hq1 := ZE hq1 hb23 (Nat.le_refl _);replace hrn := ZE hrn hb23 (Nat.le_refl _);replace hbw := bo_ hbw hb23;clear hb23 hg23 hl23;refine EL.store rfl rfl q23 QGf rfl rfl rfl rfl ?_;intro w24 hq24 hg24;replace qs6 := qs6.gr hg24 n2_23;replace qs10 := qs10.gr hg24 n5_23;replace hq0 := ZL hq0 q23 rfl hg24;replace hq1 := ZL hq1 q23 rfl hg24;replace hrn := ZL hrn q23 rfl hg24;replace hbw := ZD hbw hg24 bhbw_23;replace q23 := hq24;clear hg24 hq24;refine EL.nil (EX.seq (EC.seq (EC.region (EL.val (QA0 rfl) rfl (EL.val (ld_4 rfl (q23.at (j := 0) rfl)) rfl (EL.call (cA1 cF56 rfl) rfl (QBE _ _) ?_))))))
     rintro e w25 ⟨rfl, hc25⟩
     refine ⟨_, rfl, ?_⟩;replace qs6 := qs6.bl hc25;replace qs10 := qs10.bl hc25;replace q23 := q23.bl hc25;replace hq0 := ZE hq0 hc25 (Nat.le_refl _);replace hq1 := ZE hq1 hc25 (Nat.le_refl _);replace hrn := ZE hrn hc25 (Nat.le_refl _);replace hbw := bo_ hbw hc25;clear hc25;refine EL.as rfl rfl (EL.nil (EX.seq (EC.seq ?_)))
     cases xu
     ·
      have hdu := hdt false;have hle := hdk.le false;change (((sAt l q p k).t0 : Nat) : Int) = _ at hdu;change (sAt l q p k).t0 ≤ _ at hle
      unfold Zn at hin2
      have hwn : n ≤ (waitL q (sAt l q p k) false).length := by rw [YL]; show n ≤ (q false).length - (sAt l q p k).t0; omega
      have hsum := QAv (d := ⟨sAt l q p k, p.take k⟩) hqk hdk hwn;have htwa : twAt l q p k = ((waitL q (sAt l q p k) false).take n) := by unfold twAt; rw [hpx]; rfl
      have hss := QCl (l := l) (q := q) hltk;rw [htwa, hpx] at hss;have hrs : QFQ l q p k = runT (sAt l q p k) ((waitL q (sAt l q p k) false).take n) false := by unfold QFQ; rw [htwa, hpx]
      cases hf : QC8 l q p k
      ·
       obtain ⟨gq, cq_, eq_⟩ := Z_ hq0 (show 0 < (q false).length by omega)
       injection eq_ with eA_ _ eC_
       subst eA_ eC_;have hcap := QBV hq0;obtain ⟨_, hre, _⟩ := QAO (A' := some ⟨gq, 0 + (sAt l q p k).t0 * 5, none⟩) hq0 (lo := (sAt l q p k).t0) hle (by unfold QBJ; simp only [Option.map_some]; rw [if_neg (by omega)]) rfl
       have htk := Y7 hre (k := n) (by omega)
       rw [← YM] at htk;have hrl := hrn.lt;have lt_2 := qs6.lt;have lt_5 := qs10.lt;have lt_23 := q23.lt;refine EC.regionS [[], [], [1], [1, 2], [], [], [4, 5], [4, 5, 6], [], [], [8, 9], [8, 9, 10], [], [12], [8, 9, 10, 11, 12, 13], [1, 2, 3, 4, 5, 6, 7, 8, 9, 10, 11, 12, 13, 14], [], [0, 1, 2, 3, 4, 5, 6, 7, 8, 9, 10, 11, 12, 13, 14, 15, 16], [0, 1, 2, 3, 4, 5, 6, 7, 8, 9, 10, 11, 12, 13, 14, 15, 16, 17], [0, 1, 2, 3, 4, 5, 6, 7, 8, 9, 10, 11, 12, 13, 14, 15, 16, 17, 18], [0, 1, 2, 3, 4, 5, 6, 7, 8, 9, 10, 11, 12, 13, 14, 15, 16, 17, 18], [0, 1, 2, 3, 4, 5, 6, 7, 8, 9, 10, 11, 12, 13, 14, 15, 16, 17, 18], [], [], [0, 1, 2, 3, 4, 5, 6, 7, 8, 9, 10, 11, 12, 13, 14, 15, 16, 17, 18, 19, 22, 23], [0, 1, 2, 3, 4, 5, 6, 7, 8, 9, 10, 11, 12, 13, 14, 15, 16, 17, 18, 19, 20, 22, 23, 24], [0, 1, 2, 3, 4, 5, 6, 7, 8, 9, 10, 11, 12, 13, 14, 15, 16, 17, 18, 19, 20, 21, 22, 23, 24, 25]] 26 [22, 23] [24, 25] (fun _ w_ => Below w25.heap.size w25 w_) (phiS (fun i_ r => match i_ with | 0 => r 0 = (stA (sAt l q p k)) | 1 => r 1 = .int .i64 (wyB false) | 2 => r 2 = .pointer (some ⟨g5, 0 + 0, none⟩) | 3 => r 3 = .slice (some ⟨gq, 0, none⟩) (q false).length c0 | 4 => r 4 = .int .i64 (wyB false) | 5 => r 5 = .pointer (some ⟨g2, 12, none⟩) | 6 => r 6 = .pointer (some ⟨g2, 12 + 0, none⟩) | 7 => r 7 = .int .i64 ((sAt l q p k).t0 : Nat) | 8 => r 8 = .int .i64 (wyB false) | 9 => r 9 = .pointer (some ⟨g2, 12, none⟩) | 10 => r 10 = .pointer (some ⟨g2, 12 + 0, none⟩) | 11 => r 11 = .int .i64 ((sAt l q p k).t0 : Nat) | 12 => r 12 = .pointer (some ⟨g23, 1, none⟩) | 13 => r 13 = .int .i64 (n : Nat) | 14 => r 14 = .int .i64 (((sAt l q p k).t0 + n) : Nat) | 15 => r 15 = .slice (some ⟨gq, 0 + (sAt l q p k).t0 * 5, none⟩) ((sAt l q p k).t0 + n - (sAt l q p k).t0) (c0 - (sAt l q p k).t0) | 16 => r 16 = .int .i64 (wyB false) | 17 => r 17 = .tuple #[(stA (sAt l q p k)), .agg #[.int .i64 rn0.start, .int .i64 rn0.stop], .bool false] | 18 => r 18 = .tuple #[(stA (sAt l q p k)), .agg #[.int .i64 rn0.start, .int .i64 rn0.stop], .bool false] | 19 => r 19 = (stA (sAt l q p k)) | 20 => r 20 = .agg #[.int .i64 rn0.start, .int .i64 rn0.stop] | 21 => r 21 = .bool false | _ => True) [(22, fun fl r w_ => ∃ g_, r 22 = .pointer (some ⟨g_, 0, none⟩) ∧ w25.heap.size ≤ g_ ∧ (fl 24 = false → Blk w_ g_ 114 #[.int .i64 0, .int .i64 0, .int .i64 0, .int .i64 0, .int .i64 0, .bool false, .int .i64 0, .int .i64 0, .int .i64 0, .int .i64 0, .int .i64 0, .int .i64 0, .int .i64 0, .int .i64 0, .int .i64 0])), (23, fun fl r w_ => ∃ g_, r 23 = .pointer (some ⟨g_, 0, none⟩) ∧ w25.heap.size ≤ g_ ∧ (fl 25 = false → Blk w_ g_ 49 #[.int .i64 0, .int .i64 0])), (24, fun _ r w_ => ∃ g_, r 22 = .pointer (some ⟨g_, 0, none⟩) ∧ Blk w_ g_ 114 (stB (sAt l q p k))), (25, fun _ r w_ => ∃ g_, r 23 = .pointer (some ⟨g_, 0, none⟩) ∧ Blk w_ g_ 49 #[.int .i64 rn0.start, .int .i64 rn0.stop])]) (by kernel_rfl) rfl rfl (by intro i hi; simp at hi; first | (subst hi; exact ⟨by simp, by omega⟩) | (rcases hi with rfl | rfl | rfl <;> exact ⟨by simp, by omega⟩) | (rcases hi with rfl | rfl <;> exact ⟨by simp, by omega⟩)) (YG w25) (ZK Zl (ZK Zl (ZK Zk (ZK Zk (Zb))))) (fun i_ hi_ hs_ => ?_) (fun i_ hi_ => ?_) ?_
       ·match i_, hi_ with
        | 0, _ =>
         intro val fl w1 a hb ha hd hfl;have ha := ha.s0 (d := 6) rfl
         exact ZC ha rfl rfl (YB rfl ((qs6.below hb qs6.lt).at (j := 0) rfl) ((qs6.below hb qs6.lt).at (j := 1) rfl) ((qs6.below hb qs6.lt).at (j := 2) rfl) ((qs6.below hb qs6.lt).at (j := 3) rfl) ((qs6.below hb qs6.lt).at (j := 4) rfl) ((qs6.below hb qs6.lt).at (j := 5) rfl) ((qs6.below hb qs6.lt).at (j := 6) rfl) ((qs6.below hb qs6.lt).at (j := 7) rfl) ((qs6.below hb qs6.lt).at (j := 8) rfl) ((qs6.below hb qs6.lt).at (j := 9) rfl) ((qs6.below hb qs6.lt).at (j := 10) rfl) ((qs6.below hb qs6.lt).at (j := 11) rfl) ((qs6.below hb qs6.lt).at (j := 12) rfl) ((qs6.below hb qs6.lt).at (j := 13) rfl) ((qs6.below hb qs6.lt).at (j := 14) rfl)) rfl rfl
        | 1, _ =>
         intro val fl w1 a hb ha hd hfl;have ha := ha.s0 (d := 17) rfl
         exact ZC ha rfl rfl (x_move rfl) rfl rfl
        | 2, _ =>
         intro val fl w1 a hb ha hd hfl;have e1 : val 1 = _ := hd 1 (ZA.1 rfl);have ha := ha.sub (Sub.ins (d := 81) (Sub.ins (d := 10) (Sub.nil _) rfl) (ZO rfl e1))
         exact ZC ha rfl rfl (YE (k := 0) rfl rfl (by omega)) rfl rfl
        | 3, _ =>
         intro val fl w1 a hb ha hd hfl;have e2 : val 2 = _ := hd 2 (ZA.1 rfl);have ha := ha.s1 (d := 82) rfl e2
         exact ZC ha rfl rfl (Yf rfl ((qs10.below hb qs10.lt).at (j := 0) rfl)) rfl rfl
        | 4, _ =>
         intro val fl w1 a hb ha hd hfl;have ha := ha.s0 (d := 17) rfl
         exact ZC ha rfl rfl (x_move rfl) rfl rfl
        | 5, _ =>
         intro val fl w1 a hb ha hd hfl;have ha := ha.s0 (d := 6) rfl
         exact ZC ha rfl rfl (Zr rfl) rfl rfl
        | 6, _ =>
         intro val fl w1 a hb ha hd hfl;have e5 : val 5 = _ := hd 5 (ZA.1 rfl);have e4 : val 4 = _ := hd 4 (ZA.1 rfl);have ha := ha.s2 (d := 84) (e := 85) rfl e4 rfl e5
         exact ZC ha rfl rfl (Zo (k := 0) rfl rfl (by omega)) rfl rfl
        | 7, _ =>
         intro val fl w1 a hb ha hd hfl;have e6 : val 6 = _ := hd 6 (ZA.1 rfl);have ha := ha.s1 (d := 86) rfl e6
         exact ZC ha rfl rfl (ld_3 rfl ((qs6.below hb qs6.lt).at (j := 12) rfl)) rfl rfl
        | 8, _ =>
         intro val fl w1 a hb ha hd hfl;have ha := ha.s0 (d := 17) rfl
         exact ZC ha rfl rfl (x_move rfl) rfl rfl
        | 9, _ =>
         intro val fl w1 a hb ha hd hfl;have ha := ha.s0 (d := 6) rfl
         exact ZC ha rfl rfl (Zr rfl) rfl rfl
        | 10, _ =>
         intro val fl w1 a hb ha hd hfl;have e9 : val 9 = _ := hd 9 (ZA.1 rfl);have e8 : val 8 = _ := hd 8 (ZA.1 rfl);have ha := ha.s2 (d := 88) (e := 89) rfl e8 rfl e9
         exact ZC ha rfl rfl (Zo (k := 0) rfl rfl (by omega)) rfl rfl
        | 11, _ =>
         intro val fl w1 a hb ha hd hfl;have e10 : val 10 = _ := hd 10 (ZA.1 rfl);have ha := ha.s1 (d := 90) rfl e10
         exact ZC ha rfl rfl (ld_3 rfl ((qs6.below hb qs6.lt).at (j := 12) rfl)) rfl rfl
        | 12, _ =>
         intro val fl w1 a hb ha hd hfl;have ha := ha.s0 (d := 16) rfl
         exact ZC ha rfl rfl (Ym rfl) rfl rfl
        | 13, _ =>
         intro val fl w1 a hb ha hd hfl;have e12 : val 12 = _ := hd 12 (ZA.1 rfl);have ha := ha.s1 (d := 92) rfl e12
         exact ZC ha rfl rfl (ld_3 rfl ((q23.below hb q23.lt).at (j := 1) rfl)) rfl rfl
        | 14, _ =>
         intro val fl w1 a hb ha hd hfl;have e11 : val 11 = _ := hd 11 (ZA.1 rfl);have e13 : val 13 = _ := hd 13 (ZA.1 rfl);have ha := ha.s2 (d := 93) (e := 91) rfl e13 rfl e11
         exact ZC ha rfl rfl (ZP rfl rfl (c := (((sAt l q p k).t0 + n : Nat) : Int)) ((IntWalk.i64_in _ ⟨by omega, by omega⟩).trans (by omega))) rfl rfl
        | 15, _ =>
         intro val fl w1 a hb ha hd hfl;have e3 : val 3 = _ := hd 3 (ZA.1 rfl);have e7 : val 7 = _ := hd 7 (ZA.1 rfl);have e14 : val 14 = _ := hd 14 (ZA.1 rfl);have ha := ha.sub (Sub.ins (d := 94) (Sub.ins (d := 87) (Sub.ins (d := 83) (Sub.nil _) (ZO rfl e3)) (ZO rfl e7)) (ZO rfl e14))
         exact ZC ha rfl rfl (QIU rfl rfl rfl (by omega) (by omega) (if_neg (by omega))) rfl rfl
        | 16, _ =>
         intro val fl w1 a hb ha hd hfl;have ha := ha.s0 (d := 17) rfl
         exact ZC ha rfl rfl (x_move rfl) rfl rfl
        | 17, _ =>
         intro val fl w1 a hb ha hd hfl;have e0 : val 0 = _ := hd 0 (ZA.1 rfl);have e15 : val 15 = _ := hd 15 (ZA.1 rfl);have e16 : val 16 = _ := hd 16 (ZA.1 rfl);have ha := ha.sub (Sub.ins (d := 96) (Sub.ins (d := 95) (Sub.ins (d := 80) (Sub.nil _) (ZO rfl e0)) (ZO rfl e15)) (ZO rfl e16));refine Yc ha rfl rfl (cA3 cF57 rfl rfl rfl) (QDw hdk.st (YS (d := ⟨sAt l q p k, p.take k⟩) (u := false) (n := n) hqk) (by rw [Zd (d := ⟨sAt l q p k, p.take k⟩) hwn]; exact hsum) (by rw [Zd (d := ⟨sAt l q p k, p.take k⟩) hwn, show (sAt l q p k).t0 + n - (sAt l q p k).t0 = n by omega]; exact (htk.below (hb.mono (Nat.le_refl _)))) hb.size (by have := hf; unfold QC8 at this; rw [htwa] at this; exact this)) rfl ?_
         rintro e w' ⟨rfl, hb'⟩
         exact ⟨_, rfl, hb', rfl⟩
        | 18, _ =>
         intro val fl w1 a hb ha hd hfl;have e17 : val 17 = _ := hd 17 (ZA.1 rfl);have ha := ha.s1 (d := 97) rfl e17
         exact ZC ha rfl rfl (x_move rfl) rfl rfl
        | 19, _ =>
         intro val fl w1 a hb ha hd hfl;have e18 : val 18 = _ := hd 18 (ZA.1 rfl);have ha := ha.s1 (d := 79) rfl e18
         exact ZC ha rfl rfl (ZR rfl rfl) rfl rfl
        | 20, _ =>
         intro val fl w1 a hb ha hd hfl;have e18 : val 18 = _ := hd 18 (ZA.1 rfl);have ha := ha.s1 (d := 79) rfl e18
         exact ZC ha rfl rfl (ZR rfl rfl) rfl rfl
        | 21, _ =>
         intro val fl w1 a hb ha hd hfl;have e18 : val 18 = _ := hd 18 (ZA.1 rfl);have ha := ha.s1 (d := 79) rfl e18
         exact ZC ha rfl rfl (ZR rfl rfl) rfl rfl
        | 22, _ =>
         intro val fl w1 a hb ha hd hfl;have ha := ha.sub (Sub.nil _)
         exact YK ha rfl rfl QAQ (fun g w' hq _ hge => ⟨g, rfl, Nat.le_trans hb.size hge, fun _ => hq⟩)
        | 23, _ =>
         intro val fl w1 a hb ha hd hfl;have ha := ha.sub (Sub.nil _)
         exact YK ha rfl rfl QCQ (fun g w' hq _ hge => ⟨g, rfl, Nat.le_trans hb.size hge, fun _ => hq⟩)
        | 24, _ =>
         exact absurd (by simp) hs_
        | 25, _ =>
         exact absurd (by simp) hs_
        | k + 26, h => exact absurd h (by omega)
       ·simp only [List.mem_cons, List.not_mem_nil, or_false] at hi_; rcases hi_ with rfl | rfl
        ·
         intro val fl w1 a hb hfi ha hd hfl;obtain ⟨g22_, e22, hg22_, q22_⟩ := hd 22 (ZA.1 rfl);change val 22 = _ at e22;have e19 : val 19 = _ := hd 19 (ZA.1 rfl);have ha := ha.s2 (d := 98) (e := 18) rfl e19 rfl e22;refine Zc ha rfl rfl rfl (q22_ hfi) Z9 rfl rfl rfl rfl ?_;intro w' hq hgr;refine ⟨undef, rfl, hgr.size, ZD hb hgr hg22_, ⟨g22_, e22, hq⟩, fun j _ hj hn hA => ?_⟩
         exact ZF (C := fun j => j ≠ 24 ∧ 24 ∉ clsAt [[], [], [1], [1, 2], [], [], [4, 5], [4, 5, 6], [], [], [8, 9], [8, 9, 10], [], [12], [8, 9, 10, 11, 12, 13], [1, 2, 3, 4, 5, 6, 7, 8, 9, 10, 11, 12, 13, 14], [], [0, 1, 2, 3, 4, 5, 6, 7, 8, 9, 10, 11, 12, 13, 14, 15, 16], [0, 1, 2, 3, 4, 5, 6, 7, 8, 9, 10, 11, 12, 13, 14, 15, 16, 17], [0, 1, 2, 3, 4, 5, 6, 7, 8, 9, 10, 11, 12, 13, 14, 15, 16, 17, 18], [0, 1, 2, 3, 4, 5, 6, 7, 8, 9, 10, 11, 12, 13, 14, 15, 16, 17, 18], [0, 1, 2, 3, 4, 5, 6, 7, 8, 9, 10, 11, 12, 13, 14, 15, 16, 17, 18], [], [], [0, 1, 2, 3, 4, 5, 6, 7, 8, 9, 10, 11, 12, 13, 14, 15, 16, 17, 18, 19, 22, 23], [0, 1, 2, 3, 4, 5, 6, 7, 8, 9, 10, 11, 12, 13, 14, 15, 16, 17, 18, 19, 20, 22, 23, 24], [0, 1, 2, 3, 4, 5, 6, 7, 8, 9, 10, 11, 12, 13, 14, 15, 16, 17, 18, 19, 20, 21, 22, 23, 24, 25]] j ∧ ∀ p ∈ [22, 23], (p = j ∨ p ∈ clsAt [[], [], [1], [1, 2], [], [], [4, 5], [4, 5, 6], [], [], [8, 9], [8, 9, 10], [], [12], [8, 9, 10, 11, 12, 13], [1, 2, 3, 4, 5, 6, 7, 8, 9, 10, 11, 12, 13, 14], [], [0, 1, 2, 3, 4, 5, 6, 7, 8, 9, 10, 11, 12, 13, 14, 15, 16], [0, 1, 2, 3, 4, 5, 6, 7, 8, 9, 10, 11, 12, 13, 14, 15, 16, 17], [0, 1, 2, 3, 4, 5, 6, 7, 8, 9, 10, 11, 12, 13, 14, 15, 16, 17, 18], [0, 1, 2, 3, 4, 5, 6, 7, 8, 9, 10, 11, 12, 13, 14, 15, 16, 17, 18], [0, 1, 2, 3, 4, 5, 6, 7, 8, 9, 10, 11, 12, 13, 14, 15, 16, 17, 18], [], [], [0, 1, 2, 3, 4, 5, 6, 7, 8, 9, 10, 11, 12, 13, 14, 15, 16, 17, 18, 19, 22, 23], [0, 1, 2, 3, 4, 5, 6, 7, 8, 9, 10, 11, 12, 13, 14, 15, 16, 17, 18, 19, 20, 22, 23, 24], [0, 1, 2, 3, 4, 5, 6, 7, 8, 9, 10, 11, 12, 13, 14, 15, 16, 17, 18, 19, 20, 21, 22, 23, 24, 25]] j) → ∀ q ∈ [22, 23], (q = 24 ∨ q ∈ clsAt [[], [], [1], [1, 2], [], [], [4, 5], [4, 5, 6], [], [], [8, 9], [8, 9, 10], [], [12], [8, 9, 10, 11, 12, 13], [1, 2, 3, 4, 5, 6, 7, 8, 9, 10, 11, 12, 13, 14], [], [0, 1, 2, 3, 4, 5, 6, 7, 8, 9, 10, 11, 12, 13, 14, 15, 16], [0, 1, 2, 3, 4, 5, 6, 7, 8, 9, 10, 11, 12, 13, 14, 15, 16, 17], [0, 1, 2, 3, 4, 5, 6, 7, 8, 9, 10, 11, 12, 13, 14, 15, 16, 17, 18], [0, 1, 2, 3, 4, 5, 6, 7, 8, 9, 10, 11, 12, 13, 14, 15, 16, 17, 18], [0, 1, 2, 3, 4, 5, 6, 7, 8, 9, 10, 11, 12, 13, 14, 15, 16, 17, 18], [], [], [0, 1, 2, 3, 4, 5, 6, 7, 8, 9, 10, 11, 12, 13, 14, 15, 16, 17, 18, 19, 22, 23], [0, 1, 2, 3, 4, 5, 6, 7, 8, 9, 10, 11, 12, 13, 14, 15, 16, 17, 18, 19, 20, 22, 23, 24], [0, 1, 2, 3, 4, 5, 6, 7, 8, 9, 10, 11, 12, 13, 14, 15, 16, 17, 18, 19, 20, 21, 22, 23, 24, 25]] 24) → p ≠ q → val p ≠ val q) (fun _ ⟨g, h1, h2, _⟩ => ⟨g, h1, h2, fun h => by rw [ZQ] at h; cases h⟩) (ZF (fun hc ⟨g, h1, h2, h3⟩ => ⟨g, h1, h2, fun h => (h3 (by rwa [Z4 rfl] at h)).grown hgr (fun h => hc.2.2 23 (by simp) (.inl rfl) 22 (by simp) (.inr (ZA.1 rfl)) (by simp) (by have h1' : val 23 = _ := h1; rw [h1', e22]; injection h with h; rw [h]))⟩) (ZF (fun hc => absurd rfl hc.1) (ZF (fun hc ⟨g, h1, h2⟩ => ⟨g, h1, h2.grown hgr (fun h => hc.2.2 23 (by simp) (.inr (ZA.1 rfl)) 22 (by simp) (.inr (ZA.1 rfl)) (by simp) (by have h1' : val 23 = _ := h1; rw [h1', e22]; injection h with h; rw [h]))⟩) (fun _ _ h => h)))) j ⟨hj, hn, hA⟩
        ·
         intro val fl w1 a hb hfi ha hd hfl;obtain ⟨g23_, e23, hg23_, q23_⟩ := hd 23 (ZA.1 rfl);change val 23 = _ at e23;have e20 : val 20 = _ := hd 20 (ZA.1 rfl);have ha := ha.s2 (d := 99) (e := 19) rfl e20 rfl e23;refine Zc ha rfl rfl rfl (q23_ hfi) QAw rfl rfl rfl rfl ?_;intro w' hq hgr;refine ⟨undef, rfl, hgr.size, ZD hb hgr hg23_, ⟨g23_, e23, hq⟩, fun j _ hj hn hA => ?_⟩
         exact ZF (C := fun j => j ≠ 25 ∧ 25 ∉ clsAt [[], [], [1], [1, 2], [], [], [4, 5], [4, 5, 6], [], [], [8, 9], [8, 9, 10], [], [12], [8, 9, 10, 11, 12, 13], [1, 2, 3, 4, 5, 6, 7, 8, 9, 10, 11, 12, 13, 14], [], [0, 1, 2, 3, 4, 5, 6, 7, 8, 9, 10, 11, 12, 13, 14, 15, 16], [0, 1, 2, 3, 4, 5, 6, 7, 8, 9, 10, 11, 12, 13, 14, 15, 16, 17], [0, 1, 2, 3, 4, 5, 6, 7, 8, 9, 10, 11, 12, 13, 14, 15, 16, 17, 18], [0, 1, 2, 3, 4, 5, 6, 7, 8, 9, 10, 11, 12, 13, 14, 15, 16, 17, 18], [0, 1, 2, 3, 4, 5, 6, 7, 8, 9, 10, 11, 12, 13, 14, 15, 16, 17, 18], [], [], [0, 1, 2, 3, 4, 5, 6, 7, 8, 9, 10, 11, 12, 13, 14, 15, 16, 17, 18, 19, 22, 23], [0, 1, 2, 3, 4, 5, 6, 7, 8, 9, 10, 11, 12, 13, 14, 15, 16, 17, 18, 19, 20, 22, 23, 24], [0, 1, 2, 3, 4, 5, 6, 7, 8, 9, 10, 11, 12, 13, 14, 15, 16, 17, 18, 19, 20, 21, 22, 23, 24, 25]] j ∧ ∀ p ∈ [22, 23], (p = j ∨ p ∈ clsAt [[], [], [1], [1, 2], [], [], [4, 5], [4, 5, 6], [], [], [8, 9], [8, 9, 10], [], [12], [8, 9, 10, 11, 12, 13], [1, 2, 3, 4, 5, 6, 7, 8, 9, 10, 11, 12, 13, 14], [], [0, 1, 2, 3, 4, 5, 6, 7, 8, 9, 10, 11, 12, 13, 14, 15, 16], [0, 1, 2, 3, 4, 5, 6, 7, 8, 9, 10, 11, 12, 13, 14, 15, 16, 17], [0, 1, 2, 3, 4, 5, 6, 7, 8, 9, 10, 11, 12, 13, 14, 15, 16, 17, 18], [0, 1, 2, 3, 4, 5, 6, 7, 8, 9, 10, 11, 12, 13, 14, 15, 16, 17, 18], [0, 1, 2, 3, 4, 5, 6, 7, 8, 9, 10, 11, 12, 13, 14, 15, 16, 17, 18], [], [], [0, 1, 2, 3, 4, 5, 6, 7, 8, 9, 10, 11, 12, 13, 14, 15, 16, 17, 18, 19, 22, 23], [0, 1, 2, 3, 4, 5, 6, 7, 8, 9, 10, 11, 12, 13, 14, 15, 16, 17, 18, 19, 20, 22, 23, 24], [0, 1, 2, 3, 4, 5, 6, 7, 8, 9, 10, 11, 12, 13, 14, 15, 16, 17, 18, 19, 20, 21, 22, 23, 24, 25]] j) → ∀ q ∈ [22, 23], (q = 25 ∨ q ∈ clsAt [[], [], [1], [1, 2], [], [], [4, 5], [4, 5, 6], [], [], [8, 9], [8, 9, 10], [], [12], [8, 9, 10, 11, 12, 13], [1, 2, 3, 4, 5, 6, 7, 8, 9, 10, 11, 12, 13, 14], [], [0, 1, 2, 3, 4, 5, 6, 7, 8, 9, 10, 11, 12, 13, 14, 15, 16], [0, 1, 2, 3, 4, 5, 6, 7, 8, 9, 10, 11, 12, 13, 14, 15, 16, 17], [0, 1, 2, 3, 4, 5, 6, 7, 8, 9, 10, 11, 12, 13, 14, 15, 16, 17, 18], [0, 1, 2, 3, 4, 5, 6, 7, 8, 9, 10, 11, 12, 13, 14, 15, 16, 17, 18], [0, 1, 2, 3, 4, 5, 6, 7, 8, 9, 10, 11, 12, 13, 14, 15, 16, 17, 18], [], [], [0, 1, 2, 3, 4, 5, 6, 7, 8, 9, 10, 11, 12, 13, 14, 15, 16, 17, 18, 19, 22, 23], [0, 1, 2, 3, 4, 5, 6, 7, 8, 9, 10, 11, 12, 13, 14, 15, 16, 17, 18, 19, 20, 22, 23, 24], [0, 1, 2, 3, 4, 5, 6, 7, 8, 9, 10, 11, 12, 13, 14, 15, 16, 17, 18, 19, 20, 21, 22, 23, 24, 25]] 25) → p ≠ q → val p ≠ val q) (fun hc ⟨g, h1, h2, h3⟩ => ⟨g, h1, h2, fun h => (h3 (by rwa [Z4 rfl] at h)).grown hgr (fun h => hc.2.2 22 (by simp) (.inl rfl) 23 (by simp) (.inr (ZA.1 rfl)) (by simp) (by have h1' : val 22 = _ := h1; rw [h1', e23]; injection h with h; rw [h]))⟩) (ZF (fun _ ⟨g, h1, h2, _⟩ => ⟨g, h1, h2, fun h => by rw [ZQ] at h; cases h⟩) (ZF (fun hc ⟨g, h1, h2⟩ => ⟨g, h1, h2.grown hgr (fun h => hc.2.2 22 (by simp) (.inr (ZA.1 rfl)) 23 (by simp) (.inr (ZA.1 rfl)) (by simp) (by have h1' : val 22 = _ := h1; rw [h1', e23]; injection h with h; rw [h]))⟩) (ZF (fun hc => absurd rfl hc.1) (fun _ _ h => h)))) j ⟨hj, hn, hA⟩
       ·intro val fl wR21 hfl hb halc hd
        have e0 : val 0 = _ := hd 0 (by omega)
        have e1 : val 1 = _ := hd 1 (by omega)
        have e2 : val 2 = _ := hd 2 (by omega)
        have e3 : val 3 = _ := hd 3 (by omega)
        have e4 : val 4 = _ := hd 4 (by omega)
        have e5 : val 5 = _ := hd 5 (by omega)
        have e6 : val 6 = _ := hd 6 (by omega)
        have e7 : val 7 = _ := hd 7 (by omega)
        have e8 : val 8 = _ := hd 8 (by omega)
        have e9 : val 9 = _ := hd 9 (by omega)
        have e10 : val 10 = _ := hd 10 (by omega)
        have e11 : val 11 = _ := hd 11 (by omega)
        have e12 : val 12 = _ := hd 12 (by omega)
        have e13 : val 13 = _ := hd 13 (by omega)
        have e14 : val 14 = _ := hd 14 (by omega)
        have e15 : val 15 = _ := hd 15 (by omega)
        have e16 : val 16 = _ := hd 16 (by omega)
        have e17 : val 17 = _ := hd 17 (by omega)
        have e18 : val 18 = _ := hd 18 (by omega)
        have e19 : val 19 = _ := hd 19 (by omega)
        have e20 : val 20 = _ := hd 20 (by omega)
        have e21 : val 21 = _ := hd 21 (by omega)
        obtain ⟨ga22_21, e22, qa22_21⟩ := hd 24 (by omega)
        change val 22 = _ at e22;obtain ⟨ga23_21, e23, qa23_21⟩ := hd 25 (by omega)
        change val 23 = _ at e23;refine EL.ends (cs := [_, _, _, _, _, _, _, _, _, _, _, _, _, _, _, _, _, _, _, _, _, _, _, _, val 24, val 25]) ⟨e0, e1, e2, e3, e4, e5, e6, e7, e8, e9, e10, e11, e12, e13, e14, e15, e16, e17, e18, e19, e20, e21, e22, e23, rfl, rfl, trivial⟩ rfl ?_;replace qs6 := qs6.bl hb;replace qs10 := qs10.bl hb;replace q23 := q23.bl hb;replace hq0 := ZE hq0 hb (Nat.le_refl _);replace hq1 := ZE hq1 hb (Nat.le_refl _);replace hrn := ZE hrn hb (Nat.le_refl _);have bge26 := Yq halc (i := 22) rfl rfl e22;have n2_26 : g2 ≠ ga22_21 := Nat.ne_of_lt (Nat.lt_of_lt_of_le lt_2 bge26);have n5_26 : g5 ≠ ga22_21 := Nat.ne_of_lt (Nat.lt_of_lt_of_le lt_5 bge26);have n23_26 : g23 ≠ ga22_21 := Nat.ne_of_lt (Nat.lt_of_lt_of_le lt_23 bge26);have bhbw_26 := Nat.le_trans hbw.size bge26;have bge27 := Yq halc (i := 23) rfl rfl e23;have n2_27 : g2 ≠ ga23_21 := Nat.ne_of_lt (Nat.lt_of_lt_of_le lt_2 bge27);have n5_27 : g5 ≠ ga23_21 := Nat.ne_of_lt (Nat.lt_of_lt_of_le lt_5 bge27);have n23_27 : g23 ≠ ga23_21 := Nat.ne_of_lt (Nat.lt_of_lt_of_le lt_23 bge27);have n26_27 : ga22_21 ≠ ga23_21 := QB5 halc (i := 22) (j := 23) rfl rfl rfl rfl rfl e22 e23;have bhbw_27 := Nat.le_trans hbw.size bge27;replace hbw := bo_ hbw hb;have hnr : ∀ b, (.slice Ar k cr : Value).ownBlock = some b → b ≠ ga23_21 := fun b hb => Nat.ne_of_lt (Nat.lt_of_lt_of_le (hrl b hb).2 bge27)
        clear hrl;refine EL.as rfl rfl (EL.nil (EX.seq (EC.seq (EC.seq (EC.region (EL.mv rfl rfl (EL.val (ZT rfl) rfl (EL.nil (EX.seq ?_)))))))));refine EC.yes rfl (EC.seq (EC.region (EL.val (YB rfl (qs6.at (j := 0) rfl) (qs6.at (j := 1) rfl) (qs6.at (j := 2) rfl) (qs6.at (j := 3) rfl) (qs6.at (j := 4) rfl) (qs6.at (j := 5) rfl) (qs6.at (j := 6) rfl) (qs6.at (j := 7) rfl) (qs6.at (j := 8) rfl) (qs6.at (j := 9) rfl) (qs6.at (j := 10) rfl) (qs6.at (j := 11) rfl) (qs6.at (j := 12) rfl) (qs6.at (j := 13) rfl) (qs6.at (j := 14) rfl)) rfl (EL.store rfl rfl qs6 Z9 rfl rfl rfl rfl ?_))));intro w28 hq28 hg28;replace qs10 := qs10.gr hg28 n2_5.symm;replace q23 := q23.gr hg28 n2_23.symm;replace qa22_21 := qa22_21.gr hg28 n2_26.symm;replace qa23_21 := qa23_21.gr hg28 n2_27.symm;replace hq0 := ZL hq0 qs6 rfl hg28;replace hq1 := ZL hq1 qs6 rfl hg28;replace hrn := ZL hrn qs6 rfl hg28;replace hbw := ZD hbw hg28 bhbw_2;replace qs6 := hq28;clear hg28 hq28;refine EL.as rfl rfl (EL.as rfl rfl (EL.nil (EX.seq (EC.ret (EX.seq_ret (EX.blk_ret (EX.seq_ret (EX.seq_ret (EX.blk_ret ?_)))))))));refine EX.seq_ret ?_
        exact EX.done (QCU rfl rfl rfl rfl (QAP (qs6.at (j := 0) rfl) (qs6.at (j := 1) rfl) (qs6.at (j := 2) rfl) (qs6.at (j := 3) rfl) (qs6.at (j := 4) rfl) (qs6.at (j := 5) rfl) (qs6.at (j := 6) rfl) (qs6.at (j := 7) rfl) (qs6.at (j := 8) rfl) (qs6.at (j := 9) rfl) (qs6.at (j := 10) rfl) (qs6.at (j := 11) rfl) (qs6.at (j := 12) rfl) (qs6.at (j := 13) rfl) (qs6.at (j := 14) rfl))) ⟨sAt l q p k, _, by rw [QDN ht (by rw [← hqe]; exact hoc) (by rw [← hqe]; exact QEC hltk hf)]; rfl, fun he => absurd he (by rw [QDN ht (by rw [← hqe]; exact hoc) (by rw [← hqe]; exact QEC hltk hf)]; decide), hbw⟩
      ·
       obtain ⟨gq, cq_, eq_⟩ := Z_ hq0 (show 0 < (q false).length by omega)
       injection eq_ with eA_ _ eC_
       subst eA_ eC_;have hcap := QBV hq0;obtain ⟨_, hre, _⟩ := QAO (A' := some ⟨gq, 0 + (sAt l q p k).t0 * 5, none⟩) hq0 (lo := (sAt l q p k).t0) hle (by unfold QBJ; simp only [Option.map_some]; rw [if_neg (by omega)]) rfl
       have htk := Y7 hre (k := n) (by omega)
       rw [← YM] at htk;have hrl := hrn.lt;have lt_2 := qs6.lt;have lt_5 := qs10.lt;have lt_23 := q23.lt;refine EC.regionS [[], [], [1], [1, 2], [], [], [4, 5], [4, 5, 6], [], [], [8, 9], [8, 9, 10], [], [12], [8, 9, 10, 11, 12, 13], [1, 2, 3, 4, 5, 6, 7, 8, 9, 10, 11, 12, 13, 14], [], [0, 1, 2, 3, 4, 5, 6, 7, 8, 9, 10, 11, 12, 13, 14, 15, 16], [0, 1, 2, 3, 4, 5, 6, 7, 8, 9, 10, 11, 12, 13, 14, 15, 16, 17], [0, 1, 2, 3, 4, 5, 6, 7, 8, 9, 10, 11, 12, 13, 14, 15, 16, 17, 18], [0, 1, 2, 3, 4, 5, 6, 7, 8, 9, 10, 11, 12, 13, 14, 15, 16, 17, 18], [0, 1, 2, 3, 4, 5, 6, 7, 8, 9, 10, 11, 12, 13, 14, 15, 16, 17, 18], [], [], [0, 1, 2, 3, 4, 5, 6, 7, 8, 9, 10, 11, 12, 13, 14, 15, 16, 17, 18, 19, 22, 23], [0, 1, 2, 3, 4, 5, 6, 7, 8, 9, 10, 11, 12, 13, 14, 15, 16, 17, 18, 19, 20, 22, 23, 24], [0, 1, 2, 3, 4, 5, 6, 7, 8, 9, 10, 11, 12, 13, 14, 15, 16, 17, 18, 19, 20, 21, 22, 23, 24, 25]] 26 [22, 23] [24, 25] (fun _ w_ => Below w25.heap.size w25 w_) (phiS (fun i_ r => match i_ with | 0 => r 0 = (stA (sAt l q p k)) | 1 => r 1 = .int .i64 (wyB false) | 2 => r 2 = .pointer (some ⟨g5, 0 + 0, none⟩) | 3 => r 3 = .slice (some ⟨gq, 0, none⟩) (q false).length c0 | 4 => r 4 = .int .i64 (wyB false) | 5 => r 5 = .pointer (some ⟨g2, 12, none⟩) | 6 => r 6 = .pointer (some ⟨g2, 12 + 0, none⟩) | 7 => r 7 = .int .i64 ((sAt l q p k).t0 : Nat) | 8 => r 8 = .int .i64 (wyB false) | 9 => r 9 = .pointer (some ⟨g2, 12, none⟩) | 10 => r 10 = .pointer (some ⟨g2, 12 + 0, none⟩) | 11 => r 11 = .int .i64 ((sAt l q p k).t0 : Nat) | 12 => r 12 = .pointer (some ⟨g23, 1, none⟩) | 13 => r 13 = .int .i64 (n : Nat) | 14 => r 14 = .int .i64 (((sAt l q p k).t0 + n) : Nat) | 15 => r 15 = .slice (some ⟨gq, 0 + (sAt l q p k).t0 * 5, none⟩) ((sAt l q p k).t0 + n - (sAt l q p k).t0) (c0 - (sAt l q p k).t0) | 16 => r 16 = .int .i64 (wyB false) | 17 => r 17 = .tuple #[(stA (tkS (sAt l q p k) ((waitL q (sAt l q p k) false).take n) false)), .agg #[.int .i64 (runT (sAt l q p k) ((waitL q (sAt l q p k) false).take n) false).start, .int .i64 (runT (sAt l q p k) ((waitL q (sAt l q p k) false).take n) false).stop], .bool true] | 18 => r 18 = .tuple #[(stA (tkS (sAt l q p k) ((waitL q (sAt l q p k) false).take n) false)), .agg #[.int .i64 (runT (sAt l q p k) ((waitL q (sAt l q p k) false).take n) false).start, .int .i64 (runT (sAt l q p k) ((waitL q (sAt l q p k) false).take n) false).stop], .bool true] | 19 => r 19 = (stA (tkS (sAt l q p k) ((waitL q (sAt l q p k) false).take n) false)) | 20 => r 20 = .agg #[.int .i64 (runT (sAt l q p k) ((waitL q (sAt l q p k) false).take n) false).start, .int .i64 (runT (sAt l q p k) ((waitL q (sAt l q p k) false).take n) false).stop] | 21 => r 21 = .bool true | _ => True) [(22, fun fl r w_ => ∃ g_, r 22 = .pointer (some ⟨g_, 0, none⟩) ∧ w25.heap.size ≤ g_ ∧ (fl 24 = false → Blk w_ g_ 114 #[.int .i64 0, .int .i64 0, .int .i64 0, .int .i64 0, .int .i64 0, .bool false, .int .i64 0, .int .i64 0, .int .i64 0, .int .i64 0, .int .i64 0, .int .i64 0, .int .i64 0, .int .i64 0, .int .i64 0])), (23, fun fl r w_ => ∃ g_, r 23 = .pointer (some ⟨g_, 0, none⟩) ∧ w25.heap.size ≤ g_ ∧ (fl 25 = false → Blk w_ g_ 49 #[.int .i64 0, .int .i64 0])), (24, fun _ r w_ => ∃ g_, r 22 = .pointer (some ⟨g_, 0, none⟩) ∧ Blk w_ g_ 114 (stB (tkS (sAt l q p k) ((waitL q (sAt l q p k) false).take n) false))), (25, fun _ r w_ => ∃ g_, r 23 = .pointer (some ⟨g_, 0, none⟩) ∧ Blk w_ g_ 49 #[.int .i64 (runT (sAt l q p k) ((waitL q (sAt l q p k) false).take n) false).start, .int .i64 (runT (sAt l q p k) ((waitL q (sAt l q p k) false).take n) false).stop])]) (by kernel_rfl) rfl rfl (by intro i hi; simp at hi; first | (subst hi; exact ⟨by simp, by omega⟩) | (rcases hi with rfl | rfl | rfl <;> exact ⟨by simp, by omega⟩) | (rcases hi with rfl | rfl <;> exact ⟨by simp, by omega⟩)) (YG w25) (ZK Zl (ZK Zl (ZK Zk (ZK Zk (Zb))))) (fun i_ hi_ hs_ => ?_) (fun i_ hi_ => ?_) ?_
       ·match i_, hi_ with
        | 0, _ =>
         intro val fl w1 a hb ha hd hfl;have ha := ha.s0 (d := 6) rfl
         exact ZC ha rfl rfl (YB rfl ((qs6.below hb qs6.lt).at (j := 0) rfl) ((qs6.below hb qs6.lt).at (j := 1) rfl) ((qs6.below hb qs6.lt).at (j := 2) rfl) ((qs6.below hb qs6.lt).at (j := 3) rfl) ((qs6.below hb qs6.lt).at (j := 4) rfl) ((qs6.below hb qs6.lt).at (j := 5) rfl) ((qs6.below hb qs6.lt).at (j := 6) rfl) ((qs6.below hb qs6.lt).at (j := 7) rfl) ((qs6.below hb qs6.lt).at (j := 8) rfl) ((qs6.below hb qs6.lt).at (j := 9) rfl) ((qs6.below hb qs6.lt).at (j := 10) rfl) ((qs6.below hb qs6.lt).at (j := 11) rfl) ((qs6.below hb qs6.lt).at (j := 12) rfl) ((qs6.below hb qs6.lt).at (j := 13) rfl) ((qs6.below hb qs6.lt).at (j := 14) rfl)) rfl rfl
        | 1, _ =>
         intro val fl w1 a hb ha hd hfl;have ha := ha.s0 (d := 17) rfl
         exact ZC ha rfl rfl (x_move rfl) rfl rfl
        | 2, _ =>
         intro val fl w1 a hb ha hd hfl;have e1 : val 1 = _ := hd 1 (ZA.1 rfl);have ha := ha.sub (Sub.ins (d := 81) (Sub.ins (d := 10) (Sub.nil _) rfl) (ZO rfl e1))
         exact ZC ha rfl rfl (YE (k := 0) rfl rfl (by omega)) rfl rfl
        | 3, _ =>
         intro val fl w1 a hb ha hd hfl;have e2 : val 2 = _ := hd 2 (ZA.1 rfl);have ha := ha.s1 (d := 82) rfl e2
         exact ZC ha rfl rfl (Yf rfl ((qs10.below hb qs10.lt).at (j := 0) rfl)) rfl rfl
        | 4, _ =>
         intro val fl w1 a hb ha hd hfl;have ha := ha.s0 (d := 17) rfl
         exact ZC ha rfl rfl (x_move rfl) rfl rfl
        | 5, _ =>
         intro val fl w1 a hb ha hd hfl;have ha := ha.s0 (d := 6) rfl
         exact ZC ha rfl rfl (Zr rfl) rfl rfl
        | 6, _ =>
         intro val fl w1 a hb ha hd hfl;have e5 : val 5 = _ := hd 5 (ZA.1 rfl);have e4 : val 4 = _ := hd 4 (ZA.1 rfl);have ha := ha.s2 (d := 84) (e := 85) rfl e4 rfl e5
         exact ZC ha rfl rfl (Zo (k := 0) rfl rfl (by omega)) rfl rfl
        | 7, _ =>
         intro val fl w1 a hb ha hd hfl;have e6 : val 6 = _ := hd 6 (ZA.1 rfl);have ha := ha.s1 (d := 86) rfl e6
         exact ZC ha rfl rfl (ld_3 rfl ((qs6.below hb qs6.lt).at (j := 12) rfl)) rfl rfl
        | 8, _ =>
         intro val fl w1 a hb ha hd hfl;have ha := ha.s0 (d := 17) rfl
         exact ZC ha rfl rfl (x_move rfl) rfl rfl
        | 9, _ =>
         intro val fl w1 a hb ha hd hfl;have ha := ha.s0 (d := 6) rfl
         exact ZC ha rfl rfl (Zr rfl) rfl rfl
        | 10, _ =>
         intro val fl w1 a hb ha hd hfl;have e9 : val 9 = _ := hd 9 (ZA.1 rfl);have e8 : val 8 = _ := hd 8 (ZA.1 rfl);have ha := ha.s2 (d := 88) (e := 89) rfl e8 rfl e9
         exact ZC ha rfl rfl (Zo (k := 0) rfl rfl (by omega)) rfl rfl
        | 11, _ =>
         intro val fl w1 a hb ha hd hfl;have e10 : val 10 = _ := hd 10 (ZA.1 rfl);have ha := ha.s1 (d := 90) rfl e10
         exact ZC ha rfl rfl (ld_3 rfl ((qs6.below hb qs6.lt).at (j := 12) rfl)) rfl rfl
        | 12, _ =>
         intro val fl w1 a hb ha hd hfl;have ha := ha.s0 (d := 16) rfl
         exact ZC ha rfl rfl (Ym rfl) rfl rfl
        | 13, _ =>
         intro val fl w1 a hb ha hd hfl;have e12 : val 12 = _ := hd 12 (ZA.1 rfl);have ha := ha.s1 (d := 92) rfl e12
         exact ZC ha rfl rfl (ld_3 rfl ((q23.below hb q23.lt).at (j := 1) rfl)) rfl rfl
        | 14, _ =>
         intro val fl w1 a hb ha hd hfl;have e11 : val 11 = _ := hd 11 (ZA.1 rfl);have e13 : val 13 = _ := hd 13 (ZA.1 rfl);have ha := ha.s2 (d := 93) (e := 91) rfl e13 rfl e11
         exact ZC ha rfl rfl (ZP rfl rfl (c := (((sAt l q p k).t0 + n : Nat) : Int)) ((IntWalk.i64_in _ ⟨by omega, by omega⟩).trans (by omega))) rfl rfl
        | 15, _ =>
         intro val fl w1 a hb ha hd hfl;have e3 : val 3 = _ := hd 3 (ZA.1 rfl);have e7 : val 7 = _ := hd 7 (ZA.1 rfl);have e14 : val 14 = _ := hd 14 (ZA.1 rfl);have ha := ha.sub (Sub.ins (d := 94) (Sub.ins (d := 87) (Sub.ins (d := 83) (Sub.nil _) (ZO rfl e3)) (ZO rfl e7)) (ZO rfl e14))
         exact ZC ha rfl rfl (QIU rfl rfl rfl (by omega) (by omega) (if_neg (by omega))) rfl rfl
        | 16, _ =>
         intro val fl w1 a hb ha hd hfl;have ha := ha.s0 (d := 17) rfl
         exact ZC ha rfl rfl (x_move rfl) rfl rfl
        | 17, _ =>
         intro val fl w1 a hb ha hd hfl;have e0 : val 0 = _ := hd 0 (ZA.1 rfl);have e15 : val 15 = _ := hd 15 (ZA.1 rfl);have e16 : val 16 = _ := hd 16 (ZA.1 rfl);have ha := ha.sub (Sub.ins (d := 96) (Sub.ins (d := 95) (Sub.ins (d := 80) (Sub.nil _) (ZO rfl e0)) (ZO rfl e15)) (ZO rfl e16));refine Yc ha rfl rfl (cA3 cF57 rfl rfl rfl) (QCj hdk.st (YS (d := ⟨sAt l q p k, p.take k⟩) (u := false) (n := n) hqk) (by rw [Zd (d := ⟨sAt l q p k, p.take k⟩) hwn]; exact hsum) (by rw [Zd (d := ⟨sAt l q p k, p.take k⟩) hwn, show (sAt l q p k).t0 + n - (sAt l q p k).t0 = n by omega]; exact (htk.below (hb.mono (Nat.le_refl _)))) hb.size (by have := hf; unfold QC8 at this; rw [htwa] at this; exact this)) rfl ?_
         rintro e w' ⟨rfl, hb'⟩
         exact ⟨_, rfl, hb', rfl⟩
        | 18, _ =>
         intro val fl w1 a hb ha hd hfl;have e17 : val 17 = _ := hd 17 (ZA.1 rfl);have ha := ha.s1 (d := 97) rfl e17
         exact ZC ha rfl rfl (x_move rfl) rfl rfl
        | 19, _ =>
         intro val fl w1 a hb ha hd hfl;have e18 : val 18 = _ := hd 18 (ZA.1 rfl);have ha := ha.s1 (d := 79) rfl e18
         exact ZC ha rfl rfl (ZR rfl rfl) rfl rfl
        | 20, _ =>
         intro val fl w1 a hb ha hd hfl;have e18 : val 18 = _ := hd 18 (ZA.1 rfl);have ha := ha.s1 (d := 79) rfl e18
         exact ZC ha rfl rfl (ZR rfl rfl) rfl rfl
        | 21, _ =>
         intro val fl w1 a hb ha hd hfl;have e18 : val 18 = _ := hd 18 (ZA.1 rfl);have ha := ha.s1 (d := 79) rfl e18
         exact ZC ha rfl rfl (ZR rfl rfl) rfl rfl
        | 22, _ =>
         intro val fl w1 a hb ha hd hfl;have ha := ha.sub (Sub.nil _)
         exact YK ha rfl rfl QAQ (fun g w' hq _ hge => ⟨g, rfl, Nat.le_trans hb.size hge, fun _ => hq⟩)
        | 23, _ =>
         intro val fl w1 a hb ha hd hfl;have ha := ha.sub (Sub.nil _)
         exact YK ha rfl rfl QCQ (fun g w' hq _ hge => ⟨g, rfl, Nat.le_trans hb.size hge, fun _ => hq⟩)
        | 24, _ =>
         exact absurd (by simp) hs_
        | 25, _ =>
         exact absurd (by simp) hs_
        | k + 26, h => exact absurd h (by omega)
       ·simp only [List.mem_cons, List.not_mem_nil, or_false] at hi_; rcases hi_ with rfl | rfl
        ·
         intro val fl w1 a hb hfi ha hd hfl;obtain ⟨g22_, e22, hg22_, q22_⟩ := hd 22 (ZA.1 rfl);change val 22 = _ at e22;have e19 : val 19 = _ := hd 19 (ZA.1 rfl);have ha := ha.s2 (d := 98) (e := 18) rfl e19 rfl e22;refine Zc ha rfl rfl rfl (q22_ hfi) Z9 rfl rfl rfl rfl ?_;intro w' hq hgr;refine ⟨undef, rfl, hgr.size, ZD hb hgr hg22_, ⟨g22_, e22, hq⟩, fun j _ hj hn hA => ?_⟩
         exact ZF (C := fun j => j ≠ 24 ∧ 24 ∉ clsAt [[], [], [1], [1, 2], [], [], [4, 5], [4, 5, 6], [], [], [8, 9], [8, 9, 10], [], [12], [8, 9, 10, 11, 12, 13], [1, 2, 3, 4, 5, 6, 7, 8, 9, 10, 11, 12, 13, 14], [], [0, 1, 2, 3, 4, 5, 6, 7, 8, 9, 10, 11, 12, 13, 14, 15, 16], [0, 1, 2, 3, 4, 5, 6, 7, 8, 9, 10, 11, 12, 13, 14, 15, 16, 17], [0, 1, 2, 3, 4, 5, 6, 7, 8, 9, 10, 11, 12, 13, 14, 15, 16, 17, 18], [0, 1, 2, 3, 4, 5, 6, 7, 8, 9, 10, 11, 12, 13, 14, 15, 16, 17, 18], [0, 1, 2, 3, 4, 5, 6, 7, 8, 9, 10, 11, 12, 13, 14, 15, 16, 17, 18], [], [], [0, 1, 2, 3, 4, 5, 6, 7, 8, 9, 10, 11, 12, 13, 14, 15, 16, 17, 18, 19, 22, 23], [0, 1, 2, 3, 4, 5, 6, 7, 8, 9, 10, 11, 12, 13, 14, 15, 16, 17, 18, 19, 20, 22, 23, 24], [0, 1, 2, 3, 4, 5, 6, 7, 8, 9, 10, 11, 12, 13, 14, 15, 16, 17, 18, 19, 20, 21, 22, 23, 24, 25]] j ∧ ∀ p ∈ [22, 23], (p = j ∨ p ∈ clsAt [[], [], [1], [1, 2], [], [], [4, 5], [4, 5, 6], [], [], [8, 9], [8, 9, 10], [], [12], [8, 9, 10, 11, 12, 13], [1, 2, 3, 4, 5, 6, 7, 8, 9, 10, 11, 12, 13, 14], [], [0, 1, 2, 3, 4, 5, 6, 7, 8, 9, 10, 11, 12, 13, 14, 15, 16], [0, 1, 2, 3, 4, 5, 6, 7, 8, 9, 10, 11, 12, 13, 14, 15, 16, 17], [0, 1, 2, 3, 4, 5, 6, 7, 8, 9, 10, 11, 12, 13, 14, 15, 16, 17, 18], [0, 1, 2, 3, 4, 5, 6, 7, 8, 9, 10, 11, 12, 13, 14, 15, 16, 17, 18], [0, 1, 2, 3, 4, 5, 6, 7, 8, 9, 10, 11, 12, 13, 14, 15, 16, 17, 18], [], [], [0, 1, 2, 3, 4, 5, 6, 7, 8, 9, 10, 11, 12, 13, 14, 15, 16, 17, 18, 19, 22, 23], [0, 1, 2, 3, 4, 5, 6, 7, 8, 9, 10, 11, 12, 13, 14, 15, 16, 17, 18, 19, 20, 22, 23, 24], [0, 1, 2, 3, 4, 5, 6, 7, 8, 9, 10, 11, 12, 13, 14, 15, 16, 17, 18, 19, 20, 21, 22, 23, 24, 25]] j) → ∀ q ∈ [22, 23], (q = 24 ∨ q ∈ clsAt [[], [], [1], [1, 2], [], [], [4, 5], [4, 5, 6], [], [], [8, 9], [8, 9, 10], [], [12], [8, 9, 10, 11, 12, 13], [1, 2, 3, 4, 5, 6, 7, 8, 9, 10, 11, 12, 13, 14], [], [0, 1, 2, 3, 4, 5, 6, 7, 8, 9, 10, 11, 12, 13, 14, 15, 16], [0, 1, 2, 3, 4, 5, 6, 7, 8, 9, 10, 11, 12, 13, 14, 15, 16, 17], [0, 1, 2, 3, 4, 5, 6, 7, 8, 9, 10, 11, 12, 13, 14, 15, 16, 17, 18], [0, 1, 2, 3, 4, 5, 6, 7, 8, 9, 10, 11, 12, 13, 14, 15, 16, 17, 18], [0, 1, 2, 3, 4, 5, 6, 7, 8, 9, 10, 11, 12, 13, 14, 15, 16, 17, 18], [], [], [0, 1, 2, 3, 4, 5, 6, 7, 8, 9, 10, 11, 12, 13, 14, 15, 16, 17, 18, 19, 22, 23], [0, 1, 2, 3, 4, 5, 6, 7, 8, 9, 10, 11, 12, 13, 14, 15, 16, 17, 18, 19, 20, 22, 23, 24], [0, 1, 2, 3, 4, 5, 6, 7, 8, 9, 10, 11, 12, 13, 14, 15, 16, 17, 18, 19, 20, 21, 22, 23, 24, 25]] 24) → p ≠ q → val p ≠ val q) (fun _ ⟨g, h1, h2, _⟩ => ⟨g, h1, h2, fun h => by rw [ZQ] at h; cases h⟩) (ZF (fun hc ⟨g, h1, h2, h3⟩ => ⟨g, h1, h2, fun h => (h3 (by rwa [Z4 rfl] at h)).grown hgr (fun h => hc.2.2 23 (by simp) (.inl rfl) 22 (by simp) (.inr (ZA.1 rfl)) (by simp) (by have h1' : val 23 = _ := h1; rw [h1', e22]; injection h with h; rw [h]))⟩) (ZF (fun hc => absurd rfl hc.1) (ZF (fun hc ⟨g, h1, h2⟩ => ⟨g, h1, h2.grown hgr (fun h => hc.2.2 23 (by simp) (.inr (ZA.1 rfl)) 22 (by simp) (.inr (ZA.1 rfl)) (by simp) (by have h1' : val 23 = _ := h1; rw [h1', e22]; injection h with h; rw [h]))⟩) (fun _ _ h => h)))) j ⟨hj, hn, hA⟩
        ·
         intro val fl w1 a hb hfi ha hd hfl;obtain ⟨g23_, e23, hg23_, q23_⟩ := hd 23 (ZA.1 rfl);change val 23 = _ at e23;have e20 : val 20 = _ := hd 20 (ZA.1 rfl);have ha := ha.s2 (d := 99) (e := 19) rfl e20 rfl e23;refine Zc ha rfl rfl rfl (q23_ hfi) QAw rfl rfl rfl rfl ?_;intro w' hq hgr;refine ⟨undef, rfl, hgr.size, ZD hb hgr hg23_, ⟨g23_, e23, hq⟩, fun j _ hj hn hA => ?_⟩
         exact ZF (C := fun j => j ≠ 25 ∧ 25 ∉ clsAt [[], [], [1], [1, 2], [], [], [4, 5], [4, 5, 6], [], [], [8, 9], [8, 9, 10], [], [12], [8, 9, 10, 11, 12, 13], [1, 2, 3, 4, 5, 6, 7, 8, 9, 10, 11, 12, 13, 14], [], [0, 1, 2, 3, 4, 5, 6, 7, 8, 9, 10, 11, 12, 13, 14, 15, 16], [0, 1, 2, 3, 4, 5, 6, 7, 8, 9, 10, 11, 12, 13, 14, 15, 16, 17], [0, 1, 2, 3, 4, 5, 6, 7, 8, 9, 10, 11, 12, 13, 14, 15, 16, 17, 18], [0, 1, 2, 3, 4, 5, 6, 7, 8, 9, 10, 11, 12, 13, 14, 15, 16, 17, 18], [0, 1, 2, 3, 4, 5, 6, 7, 8, 9, 10, 11, 12, 13, 14, 15, 16, 17, 18], [], [], [0, 1, 2, 3, 4, 5, 6, 7, 8, 9, 10, 11, 12, 13, 14, 15, 16, 17, 18, 19, 22, 23], [0, 1, 2, 3, 4, 5, 6, 7, 8, 9, 10, 11, 12, 13, 14, 15, 16, 17, 18, 19, 20, 22, 23, 24], [0, 1, 2, 3, 4, 5, 6, 7, 8, 9, 10, 11, 12, 13, 14, 15, 16, 17, 18, 19, 20, 21, 22, 23, 24, 25]] j ∧ ∀ p ∈ [22, 23], (p = j ∨ p ∈ clsAt [[], [], [1], [1, 2], [], [], [4, 5], [4, 5, 6], [], [], [8, 9], [8, 9, 10], [], [12], [8, 9, 10, 11, 12, 13], [1, 2, 3, 4, 5, 6, 7, 8, 9, 10, 11, 12, 13, 14], [], [0, 1, 2, 3, 4, 5, 6, 7, 8, 9, 10, 11, 12, 13, 14, 15, 16], [0, 1, 2, 3, 4, 5, 6, 7, 8, 9, 10, 11, 12, 13, 14, 15, 16, 17], [0, 1, 2, 3, 4, 5, 6, 7, 8, 9, 10, 11, 12, 13, 14, 15, 16, 17, 18], [0, 1, 2, 3, 4, 5, 6, 7, 8, 9, 10, 11, 12, 13, 14, 15, 16, 17, 18], [0, 1, 2, 3, 4, 5, 6, 7, 8, 9, 10, 11, 12, 13, 14, 15, 16, 17, 18], [], [], [0, 1, 2, 3, 4, 5, 6, 7, 8, 9, 10, 11, 12, 13, 14, 15, 16, 17, 18, 19, 22, 23], [0, 1, 2, 3, 4, 5, 6, 7, 8, 9, 10, 11, 12, 13, 14, 15, 16, 17, 18, 19, 20, 22, 23, 24], [0, 1, 2, 3, 4, 5, 6, 7, 8, 9, 10, 11, 12, 13, 14, 15, 16, 17, 18, 19, 20, 21, 22, 23, 24, 25]] j) → ∀ q ∈ [22, 23], (q = 25 ∨ q ∈ clsAt [[], [], [1], [1, 2], [], [], [4, 5], [4, 5, 6], [], [], [8, 9], [8, 9, 10], [], [12], [8, 9, 10, 11, 12, 13], [1, 2, 3, 4, 5, 6, 7, 8, 9, 10, 11, 12, 13, 14], [], [0, 1, 2, 3, 4, 5, 6, 7, 8, 9, 10, 11, 12, 13, 14, 15, 16], [0, 1, 2, 3, 4, 5, 6, 7, 8, 9, 10, 11, 12, 13, 14, 15, 16, 17], [0, 1, 2, 3, 4, 5, 6, 7, 8, 9, 10, 11, 12, 13, 14, 15, 16, 17, 18], [0, 1, 2, 3, 4, 5, 6, 7, 8, 9, 10, 11, 12, 13, 14, 15, 16, 17, 18], [0, 1, 2, 3, 4, 5, 6, 7, 8, 9, 10, 11, 12, 13, 14, 15, 16, 17, 18], [], [], [0, 1, 2, 3, 4, 5, 6, 7, 8, 9, 10, 11, 12, 13, 14, 15, 16, 17, 18, 19, 22, 23], [0, 1, 2, 3, 4, 5, 6, 7, 8, 9, 10, 11, 12, 13, 14, 15, 16, 17, 18, 19, 20, 22, 23, 24], [0, 1, 2, 3, 4, 5, 6, 7, 8, 9, 10, 11, 12, 13, 14, 15, 16, 17, 18, 19, 20, 21, 22, 23, 24, 25]] 25) → p ≠ q → val p ≠ val q) (fun hc ⟨g, h1, h2, h3⟩ => ⟨g, h1, h2, fun h => (h3 (by rwa [Z4 rfl] at h)).grown hgr (fun h => hc.2.2 22 (by simp) (.inl rfl) 23 (by simp) (.inr (ZA.1 rfl)) (by simp) (by have h1' : val 22 = _ := h1; rw [h1', e23]; injection h with h; rw [h]))⟩) (ZF (fun _ ⟨g, h1, h2, _⟩ => ⟨g, h1, h2, fun h => by rw [ZQ] at h; cases h⟩) (ZF (fun hc ⟨g, h1, h2⟩ => ⟨g, h1, h2.grown hgr (fun h => hc.2.2 22 (by simp) (.inr (ZA.1 rfl)) 23 (by simp) (.inr (ZA.1 rfl)) (by simp) (by have h1' : val 22 = _ := h1; rw [h1', e23]; injection h with h; rw [h]))⟩) (ZF (fun hc => absurd rfl hc.1) (fun _ _ h => h)))) j ⟨hj, hn, hA⟩
       ·intro val fl wR21 hfl hb halc hd
        have e0 : val 0 = _ := hd 0 (by omega)
        have e1 : val 1 = _ := hd 1 (by omega)
        have e2 : val 2 = _ := hd 2 (by omega)
        have e3 : val 3 = _ := hd 3 (by omega)
        have e4 : val 4 = _ := hd 4 (by omega)
        have e5 : val 5 = _ := hd 5 (by omega)
        have e6 : val 6 = _ := hd 6 (by omega)
        have e7 : val 7 = _ := hd 7 (by omega)
        have e8 : val 8 = _ := hd 8 (by omega)
        have e9 : val 9 = _ := hd 9 (by omega)
        have e10 : val 10 = _ := hd 10 (by omega)
        have e11 : val 11 = _ := hd 11 (by omega)
        have e12 : val 12 = _ := hd 12 (by omega)
        have e13 : val 13 = _ := hd 13 (by omega)
        have e14 : val 14 = _ := hd 14 (by omega)
        have e15 : val 15 = _ := hd 15 (by omega)
        have e16 : val 16 = _ := hd 16 (by omega)
        have e17 : val 17 = _ := hd 17 (by omega)
        have e18 : val 18 = _ := hd 18 (by omega)
        have e19 : val 19 = _ := hd 19 (by omega)
        have e20 : val 20 = _ := hd 20 (by omega)
        have e21 : val 21 = _ := hd 21 (by omega)
        obtain ⟨ga22_21, e22, qa22_21⟩ := hd 24 (by omega)
        change val 22 = _ at e22;obtain ⟨ga23_21, e23, qa23_21⟩ := hd 25 (by omega)
        change val 23 = _ at e23;refine EL.ends (cs := [_, _, _, _, _, _, _, _, _, _, _, _, _, _, _, _, _, _, _, _, _, _, _, _, val 24, val 25]) ⟨e0, e1, e2, e3, e4, e5, e6, e7, e8, e9, e10, e11, e12, e13, e14, e15, e16, e17, e18, e19, e20, e21, e22, e23, rfl, rfl, trivial⟩ rfl ?_;replace qs6 := qs6.bl hb;replace qs10 := qs10.bl hb;replace q23 := q23.bl hb;replace hq0 := ZE hq0 hb (Nat.le_refl _);replace hq1 := ZE hq1 hb (Nat.le_refl _);replace hrn := ZE hrn hb (Nat.le_refl _);have bge29 := Yq halc (i := 22) rfl rfl e22;have n2_29 : g2 ≠ ga22_21 := Nat.ne_of_lt (Nat.lt_of_lt_of_le lt_2 bge29);have n5_29 : g5 ≠ ga22_21 := Nat.ne_of_lt (Nat.lt_of_lt_of_le lt_5 bge29);have n23_29 : g23 ≠ ga22_21 := Nat.ne_of_lt (Nat.lt_of_lt_of_le lt_23 bge29);have bhbw_29 := Nat.le_trans hbw.size bge29;have bge30 := Yq halc (i := 23) rfl rfl e23;have n2_30 : g2 ≠ ga23_21 := Nat.ne_of_lt (Nat.lt_of_lt_of_le lt_2 bge30);have n5_30 : g5 ≠ ga23_21 := Nat.ne_of_lt (Nat.lt_of_lt_of_le lt_5 bge30);have n23_30 : g23 ≠ ga23_21 := Nat.ne_of_lt (Nat.lt_of_lt_of_le lt_23 bge30);have n29_30 : ga22_21 ≠ ga23_21 := QB5 halc (i := 22) (j := 23) rfl rfl rfl rfl rfl e22 e23;have bhbw_30 := Nat.le_trans hbw.size bge30;replace hbw := bo_ hbw hb;have hnr : ∀ b, (.slice Ar k cr : Value).ownBlock = some b → b ≠ ga23_21 := fun b hb => Nat.ne_of_lt (Nat.lt_of_lt_of_le (hrl b hb).2 bge30)
        clear hrl;refine EL.as rfl rfl (EL.nil (EX.seq (EC.seq (EC.seq (EC.region (EL.mv rfl rfl (EL.val (ZT rfl) rfl (EL.nil (EX.seq ?_)))))))));refine EC.no rfl (EC.skip (EX.seq ?_));have hn19 : ∀ b, (.slice Ar k cr : Value).ownBlock = some b → b ≠ ga23_21 := hnr;have hW := ZI hrn (w1 := wR21) ⟨rfl, rfl, rfl, Nat.le_refl _, fun _ _ _ => rfl⟩ hbw.size
        clear hW;have lt_2 := qs6.lt;have lt_5 := qs10.lt;have lt_23 := q23.lt;have lt_29 := qa22_21.lt;refine EC.regionS [[], [], [], [2], [1, 2, 3], [0, 1, 2, 3, 4], [0, 1, 2, 3, 4, 5]] 5 [] [4] (fun fl w_ => wR21.grownBy w_ ((.slice Ar k cr) : Value).ownBlock ∧ (fl 4 = false → w_.ownsRow w.heap.size 49 2 (.slice Ar k cr) k (rnsC (QBf l q p k)))) (phiS (fun i_ r => match i_ with | 0 => r 0 = (stA (tkS (sAt l q p k) ((waitL q (sAt l q p k) false).take n) false)) | 1 => r 1 = .slice Ar k cr | 2 => r 2 = .agg #[.int .i64 (runT (sAt l q p k) ((waitL q (sAt l q p k) false).take n) false).start, .int .i64 (runT (sAt l q p k) ((waitL q (sAt l q p k) false).take n) false).stop] | _ => True) [(3, fun fl r w_ => fl 4 = false → (∃ g_, r 3 = .slice (some ⟨g_, 0, none⟩) 1 1 ∧ Blk w_ g_ 49 #[.int .i64 (runT (sAt l q p k) ((waitL q (sAt l q p k) false).take n) false).start, .int .i64 (runT (sAt l q p k) ((waitL q (sAt l q p k) false).take n) false).stop] ∧ wR21.heap.size ≤ g_)), (4, fun _ r w_ => w_.ownsRow w.heap.size 49 2 (r 4) (k + 1) ((rnsC (QBf l q p k)) ++ [.int .i64 (runT (sAt l q p k) ((waitL q (sAt l q p k) false).take n) false).start, .int .i64 (runT (sAt l q p k) ((waitL q (sAt l q p k) false).take n) false).stop]) ∧ ∀ b, (r 4).ownBlock = some b → ((.slice Ar k cr) : Value).ownBlock = some b ∨ wR21.heap.size ≤ b)]) (by kernel_rfl) rfl rfl (by intro i hi; simp at hi; subst hi; exact ⟨by simp, by omega⟩) (QAt hrn) (ZK (Z0 Yj) (ZK (QAG (e := 4) (C := fun u_ => ∀ b, u_.ownBlock = some b → ((.slice Ar k cr) : Value).ownBlock = some b ∨ wR21.heap.size ≤ b)) (Zb))) (fun i_ hi_ hs_ => ?_) (fun i_ hi_ => ?_) ?_
        ·match i_, hi_ with
         | 0, _ =>
          intro val fl w1 a hb ha hd hfl;obtain ⟨hgb, hg0⟩ := hb;have hb := ZI hrn hgb hbw.size;have ha := ha.s0 (d := 18) rfl
          exact ZC ha rfl rfl (YB rfl ((ZM qa22_21 hrn rfl hgb).at (j := 0) rfl) ((ZM qa22_21 hrn rfl hgb).at (j := 1) rfl) ((ZM qa22_21 hrn rfl hgb).at (j := 2) rfl) ((ZM qa22_21 hrn rfl hgb).at (j := 3) rfl) ((ZM qa22_21 hrn rfl hgb).at (j := 4) rfl) ((ZM qa22_21 hrn rfl hgb).at (j := 5) rfl) ((ZM qa22_21 hrn rfl hgb).at (j := 6) rfl) ((ZM qa22_21 hrn rfl hgb).at (j := 7) rfl) ((ZM qa22_21 hrn rfl hgb).at (j := 8) rfl) ((ZM qa22_21 hrn rfl hgb).at (j := 9) rfl) ((ZM qa22_21 hrn rfl hgb).at (j := 10) rfl) ((ZM qa22_21 hrn rfl hgb).at (j := 11) rfl) ((ZM qa22_21 hrn rfl hgb).at (j := 12) rfl) ((ZM qa22_21 hrn rfl hgb).at (j := 13) rfl) ((ZM qa22_21 hrn rfl hgb).at (j := 14) rfl)) rfl rfl
         | 1, _ =>
          intro val fl w1 a hb ha hd hfl;obtain ⟨hgb, hg0⟩ := hb;have hb := ZI hrn hgb hbw.size;have ha := ha.s0 (d := 7) rfl
          exact ZC ha rfl rfl (x_move rfl) rfl rfl
         | 2, _ =>
          intro val fl w1 a hb ha hd hfl;obtain ⟨hgb, hg0⟩ := hb;have hb := ZI hrn hgb hbw.size;have ha := ha.s0 (d := 19) rfl
          exact ZC ha rfl rfl (QC2 rfl ((qa23_21.grown hgb (fun e => hn19 _ e.symm rfl)).at (j := 0) rfl) ((qa23_21.grown hgb (fun e => hn19 _ e.symm rfl)).at (j := 1) rfl)) rfl rfl
         | 3, _ =>
          intro val fl w1 a hb ha hd hfl;obtain ⟨hgb, hg0⟩ := hb;have hb := ZI hrn hgb hbw.size;have e2 : val 2 = _ := hd 2 (ZA.1 rfl);have ha := ha.s1 (d := 106) rfl e2
          exact Y4 ha rfl rfl (QGT rfl) rfl (fun g w' hq _ hge => fun _ => ⟨g, rfl, hq, Nat.le_trans hgb.size hge⟩)
         | 4, _ =>
          exact absurd (by simp) hs_
         | k + 5, h => exact absurd h (by omega)
        ·simp only [List.mem_singleton] at hi_; subst hi_
         intro val fl w1 a hb hfi ha hd hfl;obtain ⟨hgb, hg0⟩ := hb;have hb := ZI hrn hgb hbw.size;have e1 : val 1 = _ := hd 1 (ZA.1 rfl);obtain ⟨g3_, e3, q3_, h3_⟩ := hd 3 (ZA.1 rfl) hfi;change val 3 = _ at e3;have ha := ha.s2 (d := 107) (e := 105) rfl e3 rfl e1;refine QAW QD0 ha rfl rfl rfl (hg0 hfi) (QA9 (l := [.int .i64 (runT (sAt l q p k) ((waitL q (sAt l q p k) false).take n) false).start, .int .i64 (runT (sAt l q p k) ((waitL q (sAt l q p k) false).take n) false).stop]) q3_ rfl) (by intro u hu; simp only [List.mem_cons, List.not_mem_nil, or_false] at hu; rcases hu with rfl | rfl <;> rfl) (by omega) rfl (Nat.le_trans hbw.size hgb.size) ?_
         intro v' w' ho' hgr hat;refine ⟨v', rfl, hgr.size, ⟨Zg hgb hgr, fun h => by rw [ZQ] at h; cases h⟩, ⟨ho', fun b hb' => ?_⟩, fun j _ hj hn hA => ?_⟩
         ·rcases hat with h | h
          ·exact .inl (h ▸ hb')
          ·refine .inr ?_
           change v'.ownBlock = some b at hb';rw [h] at hb'
           injection hb' with hb'
           have := hgb.size
           omega
         ·exact ZF (C := fun j => j ≠ 4 ∧ 4 ∉ clsAt [[], [], [], [2], [1, 2, 3], [0, 1, 2, 3, 4], [0, 1, 2, 3, 4, 5]] j) (fun _ _ h => by rw [ZQ] at h; cases h) (ZF (fun hc => absurd rfl hc.1) (fun _ _ h => h)) j ⟨hj, hn⟩
        ·intro val fl w' hfl hb halc hd
         obtain ⟨hgb, _⟩ := hb;have hb := ZI hrn hgb hbw.size;have e0 : val 0 = _ := hd 0 (by omega)
         have e1 : val 1 = _ := hd 1 (by omega)
         have e2 : val 2 = _ := hd 2 (by omega)
         obtain ⟨ho4, hn4⟩ := hd 4 (by omega)
         change w'.ownsRow _ _ _ (val 4) _ _ at ho4;refine EL.ends (cs := [_, _, _, val 3, val 4]) ⟨e0, e1, e2, rfl, rfl, trivial⟩ rfl ?_;replace qs6 := ZM qs6 hrn rfl hgb;replace qs10 := ZM qs10 hrn rfl hgb;replace q23 := ZM q23 hrn rfl hgb;replace qa22_21 := ZM qa22_21 hrn rfl hgb;replace hq0 := QAF hq0 hrn rfl hgb;replace hq1 := QAF hq1 hrn rfl hgb;replace hbw := hbw.trans (hb.mono (Nat.le_refl _));refine EL.store rfl rfl qs6 Z9 rfl rfl rfl rfl ?_;intro w31 hq31 hg31;replace qs10 := qs10.gr hg31 n2_5.symm;replace q23 := q23.gr hg31 n2_23.symm;replace qa22_21 := qa22_21.gr hg31 n2_29.symm;replace hq0 := ZL hq0 qs6 rfl hg31;replace hq1 := ZL hq1 qs6 rfl hg31;replace ho4 := ZL ho4 qs6 rfl hg31;replace hbw := ZD hbw hg31 bhbw_2;replace qs6 := hq31;clear hg31 hq31;refine EL.as rfl rfl (EL.nil (EX.blk (EX.seq (EC.region ?_))));refine EL.val (ZP rfl rfl (c := ((k + 1 : Nat) : Int)) ((IntWalk.i64_in _ ⟨by first | omega | (simp only; omega), by first | omega | (simp only; omega)⟩).trans (by first | omega | (simp only; omega)))) rfl ?_
         refine EL.mv rfl rfl (EL.nil ?_);refine EX.roundD (k + 1, _) ⟨rfl, rfl, trivial⟩ (by repeat first | with_reducible exact .refl _ | refine sp_ rfl ?_ | exact .refl _ | refine sd_ rfl ?_ | refine sn_ ?_) ⟨hltk, (QCs hfa hf), by rw [hss]; exact qs6, qs10, hq0, hq1, by rw [QES, QCm, hrs]; exact ho4, hbw⟩ (show p.length - (k + 1) < p.length - k by omega)
     ·
      have hdu := hdt true;have hle := hdk.le true;change (((sAt l q p k).t1 : Nat) : Int) = _ at hdu;change (sAt l q p k).t1 ≤ _ at hle
      unfold Zn at hin2
      have hwn : n ≤ (waitL q (sAt l q p k) true).length := by rw [YL]; show n ≤ (q true).length - (sAt l q p k).t1; omega
      have hsum := QAv (d := ⟨sAt l q p k, p.take k⟩) hqk hdk hwn;have htwa : twAt l q p k = ((waitL q (sAt l q p k) true).take n) := by unfold twAt; rw [hpx]; rfl
      have hss := QCl (l := l) (q := q) hltk;rw [htwa, hpx] at hss;have hrs : QFQ l q p k = runT (sAt l q p k) ((waitL q (sAt l q p k) true).take n) true := by unfold QFQ; rw [htwa, hpx]
      cases hf : QC8 l q p k
      ·
       obtain ⟨gq, cq_, eq_⟩ := Z_ hq1 (show 0 < (q true).length by omega)
       injection eq_ with eA_ _ eC_
       subst eA_ eC_;have hcap := QBV hq1;obtain ⟨_, hre, _⟩ := QAO (A' := some ⟨gq, 0 + (sAt l q p k).t1 * 5, none⟩) hq1 (lo := (sAt l q p k).t1) hle (by unfold QBJ; simp only [Option.map_some]; rw [if_neg (by omega)]) rfl
       have htk := Y7 hre (k := n) (by omega)
       rw [← YM] at htk;have hrl := hrn.lt;have lt_2 := qs6.lt;have lt_5 := qs10.lt;have lt_23 := q23.lt;refine EC.regionS [[], [], [1], [1, 2], [], [], [4, 5], [4, 5, 6], [], [], [8, 9], [8, 9, 10], [], [12], [8, 9, 10, 11, 12, 13], [1, 2, 3, 4, 5, 6, 7, 8, 9, 10, 11, 12, 13, 14], [], [0, 1, 2, 3, 4, 5, 6, 7, 8, 9, 10, 11, 12, 13, 14, 15, 16], [0, 1, 2, 3, 4, 5, 6, 7, 8, 9, 10, 11, 12, 13, 14, 15, 16, 17], [0, 1, 2, 3, 4, 5, 6, 7, 8, 9, 10, 11, 12, 13, 14, 15, 16, 17, 18], [0, 1, 2, 3, 4, 5, 6, 7, 8, 9, 10, 11, 12, 13, 14, 15, 16, 17, 18], [0, 1, 2, 3, 4, 5, 6, 7, 8, 9, 10, 11, 12, 13, 14, 15, 16, 17, 18], [], [], [0, 1, 2, 3, 4, 5, 6, 7, 8, 9, 10, 11, 12, 13, 14, 15, 16, 17, 18, 19, 22, 23], [0, 1, 2, 3, 4, 5, 6, 7, 8, 9, 10, 11, 12, 13, 14, 15, 16, 17, 18, 19, 20, 22, 23, 24], [0, 1, 2, 3, 4, 5, 6, 7, 8, 9, 10, 11, 12, 13, 14, 15, 16, 17, 18, 19, 20, 21, 22, 23, 24, 25]] 26 [22, 23] [24, 25] (fun _ w_ => Below w25.heap.size w25 w_) (phiS (fun i_ r => match i_ with | 0 => r 0 = (stA (sAt l q p k)) | 1 => r 1 = .int .i64 (wyB true) | 2 => r 2 = .pointer (some ⟨g5, 0 + 1, none⟩) | 3 => r 3 = .slice (some ⟨gq, 0, none⟩) (q true).length c1 | 4 => r 4 = .int .i64 (wyB true) | 5 => r 5 = .pointer (some ⟨g2, 12, none⟩) | 6 => r 6 = .pointer (some ⟨g2, 12 + 1, none⟩) | 7 => r 7 = .int .i64 ((sAt l q p k).t1 : Nat) | 8 => r 8 = .int .i64 (wyB true) | 9 => r 9 = .pointer (some ⟨g2, 12, none⟩) | 10 => r 10 = .pointer (some ⟨g2, 12 + 1, none⟩) | 11 => r 11 = .int .i64 ((sAt l q p k).t1 : Nat) | 12 => r 12 = .pointer (some ⟨g23, 1, none⟩) | 13 => r 13 = .int .i64 (n : Nat) | 14 => r 14 = .int .i64 (((sAt l q p k).t1 + n) : Nat) | 15 => r 15 = .slice (some ⟨gq, 0 + (sAt l q p k).t1 * 5, none⟩) ((sAt l q p k).t1 + n - (sAt l q p k).t1) (c1 - (sAt l q p k).t1) | 16 => r 16 = .int .i64 (wyB true) | 17 => r 17 = .tuple #[(stA (sAt l q p k)), .agg #[.int .i64 rn0.start, .int .i64 rn0.stop], .bool false] | 18 => r 18 = .tuple #[(stA (sAt l q p k)), .agg #[.int .i64 rn0.start, .int .i64 rn0.stop], .bool false] | 19 => r 19 = (stA (sAt l q p k)) | 20 => r 20 = .agg #[.int .i64 rn0.start, .int .i64 rn0.stop] | 21 => r 21 = .bool false | _ => True) [(22, fun fl r w_ => ∃ g_, r 22 = .pointer (some ⟨g_, 0, none⟩) ∧ w25.heap.size ≤ g_ ∧ (fl 24 = false → Blk w_ g_ 114 #[.int .i64 0, .int .i64 0, .int .i64 0, .int .i64 0, .int .i64 0, .bool false, .int .i64 0, .int .i64 0, .int .i64 0, .int .i64 0, .int .i64 0, .int .i64 0, .int .i64 0, .int .i64 0, .int .i64 0])), (23, fun fl r w_ => ∃ g_, r 23 = .pointer (some ⟨g_, 0, none⟩) ∧ w25.heap.size ≤ g_ ∧ (fl 25 = false → Blk w_ g_ 49 #[.int .i64 0, .int .i64 0])), (24, fun _ r w_ => ∃ g_, r 22 = .pointer (some ⟨g_, 0, none⟩) ∧ Blk w_ g_ 114 (stB (sAt l q p k))), (25, fun _ r w_ => ∃ g_, r 23 = .pointer (some ⟨g_, 0, none⟩) ∧ Blk w_ g_ 49 #[.int .i64 rn0.start, .int .i64 rn0.stop])]) (by kernel_rfl) rfl rfl (by intro i hi; simp at hi; first | (subst hi; exact ⟨by simp, by omega⟩) | (rcases hi with rfl | rfl | rfl <;> exact ⟨by simp, by omega⟩) | (rcases hi with rfl | rfl <;> exact ⟨by simp, by omega⟩)) (YG w25) (ZK Zl (ZK Zl (ZK Zk (ZK Zk (Zb))))) (fun i_ hi_ hs_ => ?_) (fun i_ hi_ => ?_) ?_
       ·match i_, hi_ with
        | 0, _ =>
         intro val fl w1 a hb ha hd hfl;have ha := ha.s0 (d := 6) rfl
         exact ZC ha rfl rfl (YB rfl ((qs6.below hb qs6.lt).at (j := 0) rfl) ((qs6.below hb qs6.lt).at (j := 1) rfl) ((qs6.below hb qs6.lt).at (j := 2) rfl) ((qs6.below hb qs6.lt).at (j := 3) rfl) ((qs6.below hb qs6.lt).at (j := 4) rfl) ((qs6.below hb qs6.lt).at (j := 5) rfl) ((qs6.below hb qs6.lt).at (j := 6) rfl) ((qs6.below hb qs6.lt).at (j := 7) rfl) ((qs6.below hb qs6.lt).at (j := 8) rfl) ((qs6.below hb qs6.lt).at (j := 9) rfl) ((qs6.below hb qs6.lt).at (j := 10) rfl) ((qs6.below hb qs6.lt).at (j := 11) rfl) ((qs6.below hb qs6.lt).at (j := 12) rfl) ((qs6.below hb qs6.lt).at (j := 13) rfl) ((qs6.below hb qs6.lt).at (j := 14) rfl)) rfl rfl
        | 1, _ =>
         intro val fl w1 a hb ha hd hfl;have ha := ha.s0 (d := 17) rfl
         exact ZC ha rfl rfl (x_move rfl) rfl rfl
        | 2, _ =>
         intro val fl w1 a hb ha hd hfl;have e1 : val 1 = _ := hd 1 (ZA.1 rfl);have ha := ha.sub (Sub.ins (d := 81) (Sub.ins (d := 10) (Sub.nil _) rfl) (ZO rfl e1))
         exact ZC ha rfl rfl (YE (k := 1) rfl rfl (by omega)) rfl rfl
        | 3, _ =>
         intro val fl w1 a hb ha hd hfl;have e2 : val 2 = _ := hd 2 (ZA.1 rfl);have ha := ha.s1 (d := 82) rfl e2
         exact ZC ha rfl rfl (Yf rfl ((qs10.below hb qs10.lt).at (j := 1) rfl)) rfl rfl
        | 4, _ =>
         intro val fl w1 a hb ha hd hfl;have ha := ha.s0 (d := 17) rfl
         exact ZC ha rfl rfl (x_move rfl) rfl rfl
        | 5, _ =>
         intro val fl w1 a hb ha hd hfl;have ha := ha.s0 (d := 6) rfl
         exact ZC ha rfl rfl (Zr rfl) rfl rfl
        | 6, _ =>
         intro val fl w1 a hb ha hd hfl;have e5 : val 5 = _ := hd 5 (ZA.1 rfl);have e4 : val 4 = _ := hd 4 (ZA.1 rfl);have ha := ha.s2 (d := 84) (e := 85) rfl e4 rfl e5
         exact ZC ha rfl rfl (Zo (k := 1) rfl rfl (by omega)) rfl rfl
        | 7, _ =>
         intro val fl w1 a hb ha hd hfl;have e6 : val 6 = _ := hd 6 (ZA.1 rfl);have ha := ha.s1 (d := 86) rfl e6
         exact ZC ha rfl rfl (ld_3 rfl ((qs6.below hb qs6.lt).at (j := 13) rfl)) rfl rfl
        | 8, _ =>
         intro val fl w1 a hb ha hd hfl;have ha := ha.s0 (d := 17) rfl
         exact ZC ha rfl rfl (x_move rfl) rfl rfl
        | 9, _ =>
         intro val fl w1 a hb ha hd hfl;have ha := ha.s0 (d := 6) rfl
         exact ZC ha rfl rfl (Zr rfl) rfl rfl
        | 10, _ =>
         intro val fl w1 a hb ha hd hfl;have e9 : val 9 = _ := hd 9 (ZA.1 rfl);have e8 : val 8 = _ := hd 8 (ZA.1 rfl);have ha := ha.s2 (d := 88) (e := 89) rfl e8 rfl e9
         exact ZC ha rfl rfl (Zo (k := 1) rfl rfl (by omega)) rfl rfl
        | 11, _ =>
         intro val fl w1 a hb ha hd hfl;have e10 : val 10 = _ := hd 10 (ZA.1 rfl);have ha := ha.s1 (d := 90) rfl e10
         exact ZC ha rfl rfl (ld_3 rfl ((qs6.below hb qs6.lt).at (j := 13) rfl)) rfl rfl
        | 12, _ =>
         intro val fl w1 a hb ha hd hfl;have ha := ha.s0 (d := 16) rfl
         exact ZC ha rfl rfl (Ym rfl) rfl rfl
        | 13, _ =>
         intro val fl w1 a hb ha hd hfl;have e12 : val 12 = _ := hd 12 (ZA.1 rfl);have ha := ha.s1 (d := 92) rfl e12
         exact ZC ha rfl rfl (ld_3 rfl ((q23.below hb q23.lt).at (j := 1) rfl)) rfl rfl
        | 14, _ =>
         intro val fl w1 a hb ha hd hfl;have e11 : val 11 = _ := hd 11 (ZA.1 rfl);have e13 : val 13 = _ := hd 13 (ZA.1 rfl);have ha := ha.s2 (d := 93) (e := 91) rfl e13 rfl e11
         exact ZC ha rfl rfl (ZP rfl rfl (c := (((sAt l q p k).t1 + n : Nat) : Int)) ((IntWalk.i64_in _ ⟨by omega, by omega⟩).trans (by omega))) rfl rfl
        | 15, _ =>
         intro val fl w1 a hb ha hd hfl;have e3 : val 3 = _ := hd 3 (ZA.1 rfl);have e7 : val 7 = _ := hd 7 (ZA.1 rfl);have e14 : val 14 = _ := hd 14 (ZA.1 rfl);have ha := ha.sub (Sub.ins (d := 94) (Sub.ins (d := 87) (Sub.ins (d := 83) (Sub.nil _) (ZO rfl e3)) (ZO rfl e7)) (ZO rfl e14))
         exact ZC ha rfl rfl (QIU rfl rfl rfl (by omega) (by omega) (if_neg (by omega))) rfl rfl
        | 16, _ =>
         intro val fl w1 a hb ha hd hfl;have ha := ha.s0 (d := 17) rfl
         exact ZC ha rfl rfl (x_move rfl) rfl rfl
        | 17, _ =>
         intro val fl w1 a hb ha hd hfl;have e0 : val 0 = _ := hd 0 (ZA.1 rfl);have e15 : val 15 = _ := hd 15 (ZA.1 rfl);have e16 : val 16 = _ := hd 16 (ZA.1 rfl);have ha := ha.sub (Sub.ins (d := 96) (Sub.ins (d := 95) (Sub.ins (d := 80) (Sub.nil _) (ZO rfl e0)) (ZO rfl e15)) (ZO rfl e16));refine Yc ha rfl rfl (cA3 cF57 rfl rfl rfl) (QDw hdk.st (YS (d := ⟨sAt l q p k, p.take k⟩) (u := true) (n := n) hqk) (by rw [Zd (d := ⟨sAt l q p k, p.take k⟩) hwn]; exact hsum) (by rw [Zd (d := ⟨sAt l q p k, p.take k⟩) hwn, show (sAt l q p k).t1 + n - (sAt l q p k).t1 = n by omega]; exact (htk.below (hb.mono (Nat.le_refl _)))) hb.size (by have := hf; unfold QC8 at this; rw [htwa] at this; exact this)) rfl ?_
         rintro e w' ⟨rfl, hb'⟩
         exact ⟨_, rfl, hb', rfl⟩
        | 18, _ =>
         intro val fl w1 a hb ha hd hfl;have e17 : val 17 = _ := hd 17 (ZA.1 rfl);have ha := ha.s1 (d := 97) rfl e17
         exact ZC ha rfl rfl (x_move rfl) rfl rfl
        | 19, _ =>
         intro val fl w1 a hb ha hd hfl;have e18 : val 18 = _ := hd 18 (ZA.1 rfl);have ha := ha.s1 (d := 79) rfl e18
         exact ZC ha rfl rfl (ZR rfl rfl) rfl rfl
        | 20, _ =>
         intro val fl w1 a hb ha hd hfl;have e18 : val 18 = _ := hd 18 (ZA.1 rfl);have ha := ha.s1 (d := 79) rfl e18
         exact ZC ha rfl rfl (ZR rfl rfl) rfl rfl
        | 21, _ =>
         intro val fl w1 a hb ha hd hfl;have e18 : val 18 = _ := hd 18 (ZA.1 rfl);have ha := ha.s1 (d := 79) rfl e18
         exact ZC ha rfl rfl (ZR rfl rfl) rfl rfl
        | 22, _ =>
         intro val fl w1 a hb ha hd hfl;have ha := ha.sub (Sub.nil _)
         exact YK ha rfl rfl QAQ (fun g w' hq _ hge => ⟨g, rfl, Nat.le_trans hb.size hge, fun _ => hq⟩)
        | 23, _ =>
         intro val fl w1 a hb ha hd hfl;have ha := ha.sub (Sub.nil _)
         exact YK ha rfl rfl QCQ (fun g w' hq _ hge => ⟨g, rfl, Nat.le_trans hb.size hge, fun _ => hq⟩)
        | 24, _ =>
         exact absurd (by simp) hs_
        | 25, _ =>
         exact absurd (by simp) hs_
        | k + 26, h => exact absurd h (by omega)
       ·simp only [List.mem_cons, List.not_mem_nil, or_false] at hi_; rcases hi_ with rfl | rfl
        ·
         intro val fl w1 a hb hfi ha hd hfl;obtain ⟨g22_, e22, hg22_, q22_⟩ := hd 22 (ZA.1 rfl);change val 22 = _ at e22;have e19 : val 19 = _ := hd 19 (ZA.1 rfl);have ha := ha.s2 (d := 98) (e := 18) rfl e19 rfl e22;refine Zc ha rfl rfl rfl (q22_ hfi) Z9 rfl rfl rfl rfl ?_;intro w' hq hgr;refine ⟨undef, rfl, hgr.size, ZD hb hgr hg22_, ⟨g22_, e22, hq⟩, fun j _ hj hn hA => ?_⟩
         exact ZF (C := fun j => j ≠ 24 ∧ 24 ∉ clsAt [[], [], [1], [1, 2], [], [], [4, 5], [4, 5, 6], [], [], [8, 9], [8, 9, 10], [], [12], [8, 9, 10, 11, 12, 13], [1, 2, 3, 4, 5, 6, 7, 8, 9, 10, 11, 12, 13, 14], [], [0, 1, 2, 3, 4, 5, 6, 7, 8, 9, 10, 11, 12, 13, 14, 15, 16], [0, 1, 2, 3, 4, 5, 6, 7, 8, 9, 10, 11, 12, 13, 14, 15, 16, 17], [0, 1, 2, 3, 4, 5, 6, 7, 8, 9, 10, 11, 12, 13, 14, 15, 16, 17, 18], [0, 1, 2, 3, 4, 5, 6, 7, 8, 9, 10, 11, 12, 13, 14, 15, 16, 17, 18], [0, 1, 2, 3, 4, 5, 6, 7, 8, 9, 10, 11, 12, 13, 14, 15, 16, 17, 18], [], [], [0, 1, 2, 3, 4, 5, 6, 7, 8, 9, 10, 11, 12, 13, 14, 15, 16, 17, 18, 19, 22, 23], [0, 1, 2, 3, 4, 5, 6, 7, 8, 9, 10, 11, 12, 13, 14, 15, 16, 17, 18, 19, 20, 22, 23, 24], [0, 1, 2, 3, 4, 5, 6, 7, 8, 9, 10, 11, 12, 13, 14, 15, 16, 17, 18, 19, 20, 21, 22, 23, 24, 25]] j ∧ ∀ p ∈ [22, 23], (p = j ∨ p ∈ clsAt [[], [], [1], [1, 2], [], [], [4, 5], [4, 5, 6], [], [], [8, 9], [8, 9, 10], [], [12], [8, 9, 10, 11, 12, 13], [1, 2, 3, 4, 5, 6, 7, 8, 9, 10, 11, 12, 13, 14], [], [0, 1, 2, 3, 4, 5, 6, 7, 8, 9, 10, 11, 12, 13, 14, 15, 16], [0, 1, 2, 3, 4, 5, 6, 7, 8, 9, 10, 11, 12, 13, 14, 15, 16, 17], [0, 1, 2, 3, 4, 5, 6, 7, 8, 9, 10, 11, 12, 13, 14, 15, 16, 17, 18], [0, 1, 2, 3, 4, 5, 6, 7, 8, 9, 10, 11, 12, 13, 14, 15, 16, 17, 18], [0, 1, 2, 3, 4, 5, 6, 7, 8, 9, 10, 11, 12, 13, 14, 15, 16, 17, 18], [], [], [0, 1, 2, 3, 4, 5, 6, 7, 8, 9, 10, 11, 12, 13, 14, 15, 16, 17, 18, 19, 22, 23], [0, 1, 2, 3, 4, 5, 6, 7, 8, 9, 10, 11, 12, 13, 14, 15, 16, 17, 18, 19, 20, 22, 23, 24], [0, 1, 2, 3, 4, 5, 6, 7, 8, 9, 10, 11, 12, 13, 14, 15, 16, 17, 18, 19, 20, 21, 22, 23, 24, 25]] j) → ∀ q ∈ [22, 23], (q = 24 ∨ q ∈ clsAt [[], [], [1], [1, 2], [], [], [4, 5], [4, 5, 6], [], [], [8, 9], [8, 9, 10], [], [12], [8, 9, 10, 11, 12, 13], [1, 2, 3, 4, 5, 6, 7, 8, 9, 10, 11, 12, 13, 14], [], [0, 1, 2, 3, 4, 5, 6, 7, 8, 9, 10, 11, 12, 13, 14, 15, 16], [0, 1, 2, 3, 4, 5, 6, 7, 8, 9, 10, 11, 12, 13, 14, 15, 16, 17], [0, 1, 2, 3, 4, 5, 6, 7, 8, 9, 10, 11, 12, 13, 14, 15, 16, 17, 18], [0, 1, 2, 3, 4, 5, 6, 7, 8, 9, 10, 11, 12, 13, 14, 15, 16, 17, 18], [0, 1, 2, 3, 4, 5, 6, 7, 8, 9, 10, 11, 12, 13, 14, 15, 16, 17, 18], [], [], [0, 1, 2, 3, 4, 5, 6, 7, 8, 9, 10, 11, 12, 13, 14, 15, 16, 17, 18, 19, 22, 23], [0, 1, 2, 3, 4, 5, 6, 7, 8, 9, 10, 11, 12, 13, 14, 15, 16, 17, 18, 19, 20, 22, 23, 24], [0, 1, 2, 3, 4, 5, 6, 7, 8, 9, 10, 11, 12, 13, 14, 15, 16, 17, 18, 19, 20, 21, 22, 23, 24, 25]] 24) → p ≠ q → val p ≠ val q) (fun _ ⟨g, h1, h2, _⟩ => ⟨g, h1, h2, fun h => by rw [ZQ] at h; cases h⟩) (ZF (fun hc ⟨g, h1, h2, h3⟩ => ⟨g, h1, h2, fun h => (h3 (by rwa [Z4 rfl] at h)).grown hgr (fun h => hc.2.2 23 (by simp) (.inl rfl) 22 (by simp) (.inr (ZA.1 rfl)) (by simp) (by have h1' : val 23 = _ := h1; rw [h1', e22]; injection h with h; rw [h]))⟩) (ZF (fun hc => absurd rfl hc.1) (ZF (fun hc ⟨g, h1, h2⟩ => ⟨g, h1, h2.grown hgr (fun h => hc.2.2 23 (by simp) (.inr (ZA.1 rfl)) 22 (by simp) (.inr (ZA.1 rfl)) (by simp) (by have h1' : val 23 = _ := h1; rw [h1', e22]; injection h with h; rw [h]))⟩) (fun _ _ h => h)))) j ⟨hj, hn, hA⟩
        ·
         intro val fl w1 a hb hfi ha hd hfl;obtain ⟨g23_, e23, hg23_, q23_⟩ := hd 23 (ZA.1 rfl);change val 23 = _ at e23;have e20 : val 20 = _ := hd 20 (ZA.1 rfl);have ha := ha.s2 (d := 99) (e := 19) rfl e20 rfl e23;refine Zc ha rfl rfl rfl (q23_ hfi) QAw rfl rfl rfl rfl ?_;intro w' hq hgr;refine ⟨undef, rfl, hgr.size, ZD hb hgr hg23_, ⟨g23_, e23, hq⟩, fun j _ hj hn hA => ?_⟩
         exact ZF (C := fun j => j ≠ 25 ∧ 25 ∉ clsAt [[], [], [1], [1, 2], [], [], [4, 5], [4, 5, 6], [], [], [8, 9], [8, 9, 10], [], [12], [8, 9, 10, 11, 12, 13], [1, 2, 3, 4, 5, 6, 7, 8, 9, 10, 11, 12, 13, 14], [], [0, 1, 2, 3, 4, 5, 6, 7, 8, 9, 10, 11, 12, 13, 14, 15, 16], [0, 1, 2, 3, 4, 5, 6, 7, 8, 9, 10, 11, 12, 13, 14, 15, 16, 17], [0, 1, 2, 3, 4, 5, 6, 7, 8, 9, 10, 11, 12, 13, 14, 15, 16, 17, 18], [0, 1, 2, 3, 4, 5, 6, 7, 8, 9, 10, 11, 12, 13, 14, 15, 16, 17, 18], [0, 1, 2, 3, 4, 5, 6, 7, 8, 9, 10, 11, 12, 13, 14, 15, 16, 17, 18], [], [], [0, 1, 2, 3, 4, 5, 6, 7, 8, 9, 10, 11, 12, 13, 14, 15, 16, 17, 18, 19, 22, 23], [0, 1, 2, 3, 4, 5, 6, 7, 8, 9, 10, 11, 12, 13, 14, 15, 16, 17, 18, 19, 20, 22, 23, 24], [0, 1, 2, 3, 4, 5, 6, 7, 8, 9, 10, 11, 12, 13, 14, 15, 16, 17, 18, 19, 20, 21, 22, 23, 24, 25]] j ∧ ∀ p ∈ [22, 23], (p = j ∨ p ∈ clsAt [[], [], [1], [1, 2], [], [], [4, 5], [4, 5, 6], [], [], [8, 9], [8, 9, 10], [], [12], [8, 9, 10, 11, 12, 13], [1, 2, 3, 4, 5, 6, 7, 8, 9, 10, 11, 12, 13, 14], [], [0, 1, 2, 3, 4, 5, 6, 7, 8, 9, 10, 11, 12, 13, 14, 15, 16], [0, 1, 2, 3, 4, 5, 6, 7, 8, 9, 10, 11, 12, 13, 14, 15, 16, 17], [0, 1, 2, 3, 4, 5, 6, 7, 8, 9, 10, 11, 12, 13, 14, 15, 16, 17, 18], [0, 1, 2, 3, 4, 5, 6, 7, 8, 9, 10, 11, 12, 13, 14, 15, 16, 17, 18], [0, 1, 2, 3, 4, 5, 6, 7, 8, 9, 10, 11, 12, 13, 14, 15, 16, 17, 18], [], [], [0, 1, 2, 3, 4, 5, 6, 7, 8, 9, 10, 11, 12, 13, 14, 15, 16, 17, 18, 19, 22, 23], [0, 1, 2, 3, 4, 5, 6, 7, 8, 9, 10, 11, 12, 13, 14, 15, 16, 17, 18, 19, 20, 22, 23, 24], [0, 1, 2, 3, 4, 5, 6, 7, 8, 9, 10, 11, 12, 13, 14, 15, 16, 17, 18, 19, 20, 21, 22, 23, 24, 25]] j) → ∀ q ∈ [22, 23], (q = 25 ∨ q ∈ clsAt [[], [], [1], [1, 2], [], [], [4, 5], [4, 5, 6], [], [], [8, 9], [8, 9, 10], [], [12], [8, 9, 10, 11, 12, 13], [1, 2, 3, 4, 5, 6, 7, 8, 9, 10, 11, 12, 13, 14], [], [0, 1, 2, 3, 4, 5, 6, 7, 8, 9, 10, 11, 12, 13, 14, 15, 16], [0, 1, 2, 3, 4, 5, 6, 7, 8, 9, 10, 11, 12, 13, 14, 15, 16, 17], [0, 1, 2, 3, 4, 5, 6, 7, 8, 9, 10, 11, 12, 13, 14, 15, 16, 17, 18], [0, 1, 2, 3, 4, 5, 6, 7, 8, 9, 10, 11, 12, 13, 14, 15, 16, 17, 18], [0, 1, 2, 3, 4, 5, 6, 7, 8, 9, 10, 11, 12, 13, 14, 15, 16, 17, 18], [], [], [0, 1, 2, 3, 4, 5, 6, 7, 8, 9, 10, 11, 12, 13, 14, 15, 16, 17, 18, 19, 22, 23], [0, 1, 2, 3, 4, 5, 6, 7, 8, 9, 10, 11, 12, 13, 14, 15, 16, 17, 18, 19, 20, 22, 23, 24], [0, 1, 2, 3, 4, 5, 6, 7, 8, 9, 10, 11, 12, 13, 14, 15, 16, 17, 18, 19, 20, 21, 22, 23, 24, 25]] 25) → p ≠ q → val p ≠ val q) (fun hc ⟨g, h1, h2, h3⟩ => ⟨g, h1, h2, fun h => (h3 (by rwa [Z4 rfl] at h)).grown hgr (fun h => hc.2.2 22 (by simp) (.inl rfl) 23 (by simp) (.inr (ZA.1 rfl)) (by simp) (by have h1' : val 22 = _ := h1; rw [h1', e23]; injection h with h; rw [h]))⟩) (ZF (fun _ ⟨g, h1, h2, _⟩ => ⟨g, h1, h2, fun h => by rw [ZQ] at h; cases h⟩) (ZF (fun hc ⟨g, h1, h2⟩ => ⟨g, h1, h2.grown hgr (fun h => hc.2.2 22 (by simp) (.inr (ZA.1 rfl)) 23 (by simp) (.inr (ZA.1 rfl)) (by simp) (by have h1' : val 22 = _ := h1; rw [h1', e23]; injection h with h; rw [h]))⟩) (ZF (fun hc => absurd rfl hc.1) (fun _ _ h => h)))) j ⟨hj, hn, hA⟩
       ·intro val fl wR21 hfl hb halc hd
        have e0 : val 0 = _ := hd 0 (by omega)
        have e1 : val 1 = _ := hd 1 (by omega)
        have e2 : val 2 = _ := hd 2 (by omega)
        have e3 : val 3 = _ := hd 3 (by omega)
        have e4 : val 4 = _ := hd 4 (by omega)
        have e5 : val 5 = _ := hd 5 (by omega)
        have e6 : val 6 = _ := hd 6 (by omega)
        have e7 : val 7 = _ := hd 7 (by omega)
        have e8 : val 8 = _ := hd 8 (by omega)
        have e9 : val 9 = _ := hd 9 (by omega)
        have e10 : val 10 = _ := hd 10 (by omega)
        have e11 : val 11 = _ := hd 11 (by omega)
        have e12 : val 12 = _ := hd 12 (by omega)
        have e13 : val 13 = _ := hd 13 (by omega)
        have e14 : val 14 = _ := hd 14 (by omega)
        have e15 : val 15 = _ := hd 15 (by omega)
        have e16 : val 16 = _ := hd 16 (by omega)
        have e17 : val 17 = _ := hd 17 (by omega)
        have e18 : val 18 = _ := hd 18 (by omega)
        have e19 : val 19 = _ := hd 19 (by omega)
        have e20 : val 20 = _ := hd 20 (by omega)
        have e21 : val 21 = _ := hd 21 (by omega)
        obtain ⟨ga22_21, e22, qa22_21⟩ := hd 24 (by omega)
        change val 22 = _ at e22;obtain ⟨ga23_21, e23, qa23_21⟩ := hd 25 (by omega)
        change val 23 = _ at e23;refine EL.ends (cs := [_, _, _, _, _, _, _, _, _, _, _, _, _, _, _, _, _, _, _, _, _, _, _, _, val 24, val 25]) ⟨e0, e1, e2, e3, e4, e5, e6, e7, e8, e9, e10, e11, e12, e13, e14, e15, e16, e17, e18, e19, e20, e21, e22, e23, rfl, rfl, trivial⟩ rfl ?_;replace qs6 := qs6.bl hb;replace qs10 := qs10.bl hb;replace q23 := q23.bl hb;replace hq0 := ZE hq0 hb (Nat.le_refl _);replace hq1 := ZE hq1 hb (Nat.le_refl _);replace hrn := ZE hrn hb (Nat.le_refl _);have bge32 := Yq halc (i := 22) rfl rfl e22;have n2_32 : g2 ≠ ga22_21 := Nat.ne_of_lt (Nat.lt_of_lt_of_le lt_2 bge32);have n5_32 : g5 ≠ ga22_21 := Nat.ne_of_lt (Nat.lt_of_lt_of_le lt_5 bge32);have n23_32 : g23 ≠ ga22_21 := Nat.ne_of_lt (Nat.lt_of_lt_of_le lt_23 bge32);have bhbw_32 := Nat.le_trans hbw.size bge32;have bge33 := Yq halc (i := 23) rfl rfl e23;have n2_33 : g2 ≠ ga23_21 := Nat.ne_of_lt (Nat.lt_of_lt_of_le lt_2 bge33);have n5_33 : g5 ≠ ga23_21 := Nat.ne_of_lt (Nat.lt_of_lt_of_le lt_5 bge33);have n23_33 : g23 ≠ ga23_21 := Nat.ne_of_lt (Nat.lt_of_lt_of_le lt_23 bge33);have n32_33 : ga22_21 ≠ ga23_21 := QB5 halc (i := 22) (j := 23) rfl rfl rfl rfl rfl e22 e23;have bhbw_33 := Nat.le_trans hbw.size bge33;replace hbw := bo_ hbw hb;have hnr : ∀ b, (.slice Ar k cr : Value).ownBlock = some b → b ≠ ga23_21 := fun b hb => Nat.ne_of_lt (Nat.lt_of_lt_of_le (hrl b hb).2 bge33)
        clear hrl;refine EL.as rfl rfl (EL.nil (EX.seq (EC.seq (EC.seq (EC.region (EL.mv rfl rfl (EL.val (ZT rfl) rfl (EL.nil (EX.seq ?_)))))))));refine EC.yes rfl (EC.seq (EC.region (EL.val (YB rfl (qs6.at (j := 0) rfl) (qs6.at (j := 1) rfl) (qs6.at (j := 2) rfl) (qs6.at (j := 3) rfl) (qs6.at (j := 4) rfl) (qs6.at (j := 5) rfl) (qs6.at (j := 6) rfl) (qs6.at (j := 7) rfl) (qs6.at (j := 8) rfl) (qs6.at (j := 9) rfl) (qs6.at (j := 10) rfl) (qs6.at (j := 11) rfl) (qs6.at (j := 12) rfl) (qs6.at (j := 13) rfl) (qs6.at (j := 14) rfl)) rfl (EL.store rfl rfl qs6 Z9 rfl rfl rfl rfl ?_))));intro w34 hq34 hg34;replace qs10 := qs10.gr hg34 n2_5.symm;replace q23 := q23.gr hg34 n2_23.symm;replace qa22_21 := qa22_21.gr hg34 n2_32.symm;replace qa23_21 := qa23_21.gr hg34 n2_33.symm;replace hq0 := ZL hq0 qs6 rfl hg34;replace hq1 := ZL hq1 qs6 rfl hg34;replace hrn := ZL hrn qs6 rfl hg34;replace hbw := ZD hbw hg34 bhbw_2;replace qs6 := hq34;clear hg34 hq34;refine EL.as rfl rfl (EL.as rfl rfl (EL.nil (EX.seq (EC.ret (EX.seq_ret (EX.blk_ret (EX.seq_ret (EX.seq_ret (EX.blk_ret ?_)))))))));refine EX.seq_ret ?_
        exact EX.done (QCU rfl rfl rfl rfl (QAP (qs6.at (j := 0) rfl) (qs6.at (j := 1) rfl) (qs6.at (j := 2) rfl) (qs6.at (j := 3) rfl) (qs6.at (j := 4) rfl) (qs6.at (j := 5) rfl) (qs6.at (j := 6) rfl) (qs6.at (j := 7) rfl) (qs6.at (j := 8) rfl) (qs6.at (j := 9) rfl) (qs6.at (j := 10) rfl) (qs6.at (j := 11) rfl) (qs6.at (j := 12) rfl) (qs6.at (j := 13) rfl) (qs6.at (j := 14) rfl))) ⟨sAt l q p k, _, by rw [QDN ht (by rw [← hqe]; exact hoc) (by rw [← hqe]; exact QEC hltk hf)]; rfl, fun he => absurd he (by rw [QDN ht (by rw [← hqe]; exact hoc) (by rw [← hqe]; exact QEC hltk hf)]; decide), hbw⟩
      ·
       obtain ⟨gq, cq_, eq_⟩ := Z_ hq1 (show 0 < (q true).length by omega)
       injection eq_ with eA_ _ eC_
       subst eA_ eC_;have hcap := QBV hq1;obtain ⟨_, hre, _⟩ := QAO (A' := some ⟨gq, 0 + (sAt l q p k).t1 * 5, none⟩) hq1 (lo := (sAt l q p k).t1) hle (by unfold QBJ; simp only [Option.map_some]; rw [if_neg (by omega)]) rfl
       have htk := Y7 hre (k := n) (by omega)
       rw [← YM] at htk;have hrl := hrn.lt;have lt_2 := qs6.lt;have lt_5 := qs10.lt;have lt_23 := q23.lt;refine EC.regionS [[], [], [1], [1, 2], [], [], [4, 5], [4, 5, 6], [], [], [8, 9], [8, 9, 10], [], [12], [8, 9, 10, 11, 12, 13], [1, 2, 3, 4, 5, 6, 7, 8, 9, 10, 11, 12, 13, 14], [], [0, 1, 2, 3, 4, 5, 6, 7, 8, 9, 10, 11, 12, 13, 14, 15, 16], [0, 1, 2, 3, 4, 5, 6, 7, 8, 9, 10, 11, 12, 13, 14, 15, 16, 17], [0, 1, 2, 3, 4, 5, 6, 7, 8, 9, 10, 11, 12, 13, 14, 15, 16, 17, 18], [0, 1, 2, 3, 4, 5, 6, 7, 8, 9, 10, 11, 12, 13, 14, 15, 16, 17, 18], [0, 1, 2, 3, 4, 5, 6, 7, 8, 9, 10, 11, 12, 13, 14, 15, 16, 17, 18], [], [], [0, 1, 2, 3, 4, 5, 6, 7, 8, 9, 10, 11, 12, 13, 14, 15, 16, 17, 18, 19, 22, 23], [0, 1, 2, 3, 4, 5, 6, 7, 8, 9, 10, 11, 12, 13, 14, 15, 16, 17, 18, 19, 20, 22, 23, 24], [0, 1, 2, 3, 4, 5, 6, 7, 8, 9, 10, 11, 12, 13, 14, 15, 16, 17, 18, 19, 20, 21, 22, 23, 24, 25]] 26 [22, 23] [24, 25] (fun _ w_ => Below w25.heap.size w25 w_) (phiS (fun i_ r => match i_ with | 0 => r 0 = (stA (sAt l q p k)) | 1 => r 1 = .int .i64 (wyB true) | 2 => r 2 = .pointer (some ⟨g5, 0 + 1, none⟩) | 3 => r 3 = .slice (some ⟨gq, 0, none⟩) (q true).length c1 | 4 => r 4 = .int .i64 (wyB true) | 5 => r 5 = .pointer (some ⟨g2, 12, none⟩) | 6 => r 6 = .pointer (some ⟨g2, 12 + 1, none⟩) | 7 => r 7 = .int .i64 ((sAt l q p k).t1 : Nat) | 8 => r 8 = .int .i64 (wyB true) | 9 => r 9 = .pointer (some ⟨g2, 12, none⟩) | 10 => r 10 = .pointer (some ⟨g2, 12 + 1, none⟩) | 11 => r 11 = .int .i64 ((sAt l q p k).t1 : Nat) | 12 => r 12 = .pointer (some ⟨g23, 1, none⟩) | 13 => r 13 = .int .i64 (n : Nat) | 14 => r 14 = .int .i64 (((sAt l q p k).t1 + n) : Nat) | 15 => r 15 = .slice (some ⟨gq, 0 + (sAt l q p k).t1 * 5, none⟩) ((sAt l q p k).t1 + n - (sAt l q p k).t1) (c1 - (sAt l q p k).t1) | 16 => r 16 = .int .i64 (wyB true) | 17 => r 17 = .tuple #[(stA (tkS (sAt l q p k) ((waitL q (sAt l q p k) true).take n) true)), .agg #[.int .i64 (runT (sAt l q p k) ((waitL q (sAt l q p k) true).take n) true).start, .int .i64 (runT (sAt l q p k) ((waitL q (sAt l q p k) true).take n) true).stop], .bool true] | 18 => r 18 = .tuple #[(stA (tkS (sAt l q p k) ((waitL q (sAt l q p k) true).take n) true)), .agg #[.int .i64 (runT (sAt l q p k) ((waitL q (sAt l q p k) true).take n) true).start, .int .i64 (runT (sAt l q p k) ((waitL q (sAt l q p k) true).take n) true).stop], .bool true] | 19 => r 19 = (stA (tkS (sAt l q p k) ((waitL q (sAt l q p k) true).take n) true)) | 20 => r 20 = .agg #[.int .i64 (runT (sAt l q p k) ((waitL q (sAt l q p k) true).take n) true).start, .int .i64 (runT (sAt l q p k) ((waitL q (sAt l q p k) true).take n) true).stop] | 21 => r 21 = .bool true | _ => True) [(22, fun fl r w_ => ∃ g_, r 22 = .pointer (some ⟨g_, 0, none⟩) ∧ w25.heap.size ≤ g_ ∧ (fl 24 = false → Blk w_ g_ 114 #[.int .i64 0, .int .i64 0, .int .i64 0, .int .i64 0, .int .i64 0, .bool false, .int .i64 0, .int .i64 0, .int .i64 0, .int .i64 0, .int .i64 0, .int .i64 0, .int .i64 0, .int .i64 0, .int .i64 0])), (23, fun fl r w_ => ∃ g_, r 23 = .pointer (some ⟨g_, 0, none⟩) ∧ w25.heap.size ≤ g_ ∧ (fl 25 = false → Blk w_ g_ 49 #[.int .i64 0, .int .i64 0])), (24, fun _ r w_ => ∃ g_, r 22 = .pointer (some ⟨g_, 0, none⟩) ∧ Blk w_ g_ 114 (stB (tkS (sAt l q p k) ((waitL q (sAt l q p k) true).take n) true))), (25, fun _ r w_ => ∃ g_, r 23 = .pointer (some ⟨g_, 0, none⟩) ∧ Blk w_ g_ 49 #[.int .i64 (runT (sAt l q p k) ((waitL q (sAt l q p k) true).take n) true).start, .int .i64 (runT (sAt l q p k) ((waitL q (sAt l q p k) true).take n) true).stop])]) (by kernel_rfl) rfl rfl (by intro i hi; simp at hi; first | (subst hi; exact ⟨by simp, by omega⟩) | (rcases hi with rfl | rfl | rfl <;> exact ⟨by simp, by omega⟩) | (rcases hi with rfl | rfl <;> exact ⟨by simp, by omega⟩)) (YG w25) (ZK Zl (ZK Zl (ZK Zk (ZK Zk (Zb))))) (fun i_ hi_ hs_ => ?_) (fun i_ hi_ => ?_) ?_
       ·match i_, hi_ with
        | 0, _ =>
         intro val fl w1 a hb ha hd hfl;have ha := ha.s0 (d := 6) rfl
         exact ZC ha rfl rfl (YB rfl ((qs6.below hb qs6.lt).at (j := 0) rfl) ((qs6.below hb qs6.lt).at (j := 1) rfl) ((qs6.below hb qs6.lt).at (j := 2) rfl) ((qs6.below hb qs6.lt).at (j := 3) rfl) ((qs6.below hb qs6.lt).at (j := 4) rfl) ((qs6.below hb qs6.lt).at (j := 5) rfl) ((qs6.below hb qs6.lt).at (j := 6) rfl) ((qs6.below hb qs6.lt).at (j := 7) rfl) ((qs6.below hb qs6.lt).at (j := 8) rfl) ((qs6.below hb qs6.lt).at (j := 9) rfl) ((qs6.below hb qs6.lt).at (j := 10) rfl) ((qs6.below hb qs6.lt).at (j := 11) rfl) ((qs6.below hb qs6.lt).at (j := 12) rfl) ((qs6.below hb qs6.lt).at (j := 13) rfl) ((qs6.below hb qs6.lt).at (j := 14) rfl)) rfl rfl
        | 1, _ =>
         intro val fl w1 a hb ha hd hfl;have ha := ha.s0 (d := 17) rfl
         exact ZC ha rfl rfl (x_move rfl) rfl rfl
        | 2, _ =>
         intro val fl w1 a hb ha hd hfl;have e1 : val 1 = _ := hd 1 (ZA.1 rfl);have ha := ha.sub (Sub.ins (d := 81) (Sub.ins (d := 10) (Sub.nil _) rfl) (ZO rfl e1))
         exact ZC ha rfl rfl (YE (k := 1) rfl rfl (by omega)) rfl rfl
        | 3, _ =>
         intro val fl w1 a hb ha hd hfl;have e2 : val 2 = _ := hd 2 (ZA.1 rfl);have ha := ha.s1 (d := 82) rfl e2
         exact ZC ha rfl rfl (Yf rfl ((qs10.below hb qs10.lt).at (j := 1) rfl)) rfl rfl
        | 4, _ =>
         intro val fl w1 a hb ha hd hfl;have ha := ha.s0 (d := 17) rfl
         exact ZC ha rfl rfl (x_move rfl) rfl rfl
        | 5, _ =>
         intro val fl w1 a hb ha hd hfl;have ha := ha.s0 (d := 6) rfl
         exact ZC ha rfl rfl (Zr rfl) rfl rfl
        | 6, _ =>
         intro val fl w1 a hb ha hd hfl;have e5 : val 5 = _ := hd 5 (ZA.1 rfl);have e4 : val 4 = _ := hd 4 (ZA.1 rfl);have ha := ha.s2 (d := 84) (e := 85) rfl e4 rfl e5
         exact ZC ha rfl rfl (Zo (k := 1) rfl rfl (by omega)) rfl rfl
        | 7, _ =>
         intro val fl w1 a hb ha hd hfl;have e6 : val 6 = _ := hd 6 (ZA.1 rfl);have ha := ha.s1 (d := 86) rfl e6
         exact ZC ha rfl rfl (ld_3 rfl ((qs6.below hb qs6.lt).at (j := 13) rfl)) rfl rfl
        | 8, _ =>
         intro val fl w1 a hb ha hd hfl;have ha := ha.s0 (d := 17) rfl
         exact ZC ha rfl rfl (x_move rfl) rfl rfl
        | 9, _ =>
         intro val fl w1 a hb ha hd hfl;have ha := ha.s0 (d := 6) rfl
         exact ZC ha rfl rfl (Zr rfl) rfl rfl
        | 10, _ =>
         intro val fl w1 a hb ha hd hfl;have e9 : val 9 = _ := hd 9 (ZA.1 rfl);have e8 : val 8 = _ := hd 8 (ZA.1 rfl);have ha := ha.s2 (d := 88) (e := 89) rfl e8 rfl e9
         exact ZC ha rfl rfl (Zo (k := 1) rfl rfl (by omega)) rfl rfl
        | 11, _ =>
         intro val fl w1 a hb ha hd hfl;have e10 : val 10 = _ := hd 10 (ZA.1 rfl);have ha := ha.s1 (d := 90) rfl e10
         exact ZC ha rfl rfl (ld_3 rfl ((qs6.below hb qs6.lt).at (j := 13) rfl)) rfl rfl
        | 12, _ =>
         intro val fl w1 a hb ha hd hfl;have ha := ha.s0 (d := 16) rfl
         exact ZC ha rfl rfl (Ym rfl) rfl rfl
        | 13, _ =>
         intro val fl w1 a hb ha hd hfl;have e12 : val 12 = _ := hd 12 (ZA.1 rfl);have ha := ha.s1 (d := 92) rfl e12
         exact ZC ha rfl rfl (ld_3 rfl ((q23.below hb q23.lt).at (j := 1) rfl)) rfl rfl
        | 14, _ =>
         intro val fl w1 a hb ha hd hfl;have e11 : val 11 = _ := hd 11 (ZA.1 rfl);have e13 : val 13 = _ := hd 13 (ZA.1 rfl);have ha := ha.s2 (d := 93) (e := 91) rfl e13 rfl e11
         exact ZC ha rfl rfl (ZP rfl rfl (c := (((sAt l q p k).t1 + n : Nat) : Int)) ((IntWalk.i64_in _ ⟨by omega, by omega⟩).trans (by omega))) rfl rfl
        | 15, _ =>
         intro val fl w1 a hb ha hd hfl;have e3 : val 3 = _ := hd 3 (ZA.1 rfl);have e7 : val 7 = _ := hd 7 (ZA.1 rfl);have e14 : val 14 = _ := hd 14 (ZA.1 rfl);have ha := ha.sub (Sub.ins (d := 94) (Sub.ins (d := 87) (Sub.ins (d := 83) (Sub.nil _) (ZO rfl e3)) (ZO rfl e7)) (ZO rfl e14))
         exact ZC ha rfl rfl (QIU rfl rfl rfl (by omega) (by omega) (if_neg (by omega))) rfl rfl
        | 16, _ =>
         intro val fl w1 a hb ha hd hfl;have ha := ha.s0 (d := 17) rfl
         exact ZC ha rfl rfl (x_move rfl) rfl rfl
        | 17, _ =>
         intro val fl w1 a hb ha hd hfl;have e0 : val 0 = _ := hd 0 (ZA.1 rfl);have e15 : val 15 = _ := hd 15 (ZA.1 rfl);have e16 : val 16 = _ := hd 16 (ZA.1 rfl);have ha := ha.sub (Sub.ins (d := 96) (Sub.ins (d := 95) (Sub.ins (d := 80) (Sub.nil _) (ZO rfl e0)) (ZO rfl e15)) (ZO rfl e16));refine Yc ha rfl rfl (cA3 cF57 rfl rfl rfl) (QCj hdk.st (YS (d := ⟨sAt l q p k, p.take k⟩) (u := true) (n := n) hqk) (by rw [Zd (d := ⟨sAt l q p k, p.take k⟩) hwn]; exact hsum) (by rw [Zd (d := ⟨sAt l q p k, p.take k⟩) hwn, show (sAt l q p k).t1 + n - (sAt l q p k).t1 = n by omega]; exact (htk.below (hb.mono (Nat.le_refl _)))) hb.size (by have := hf; unfold QC8 at this; rw [htwa] at this; exact this)) rfl ?_
         rintro e w' ⟨rfl, hb'⟩
         exact ⟨_, rfl, hb', rfl⟩
        | 18, _ =>
         intro val fl w1 a hb ha hd hfl;have e17 : val 17 = _ := hd 17 (ZA.1 rfl);have ha := ha.s1 (d := 97) rfl e17
         exact ZC ha rfl rfl (x_move rfl) rfl rfl
        | 19, _ =>
         intro val fl w1 a hb ha hd hfl;have e18 : val 18 = _ := hd 18 (ZA.1 rfl);have ha := ha.s1 (d := 79) rfl e18
         exact ZC ha rfl rfl (ZR rfl rfl) rfl rfl
        | 20, _ =>
         intro val fl w1 a hb ha hd hfl;have e18 : val 18 = _ := hd 18 (ZA.1 rfl);have ha := ha.s1 (d := 79) rfl e18
         exact ZC ha rfl rfl (ZR rfl rfl) rfl rfl
        | 21, _ =>
         intro val fl w1 a hb ha hd hfl;have e18 : val 18 = _ := hd 18 (ZA.1 rfl);have ha := ha.s1 (d := 79) rfl e18
         exact ZC ha rfl rfl (ZR rfl rfl) rfl rfl
        | 22, _ =>
         intro val fl w1 a hb ha hd hfl;have ha := ha.sub (Sub.nil _)
         exact YK ha rfl rfl QAQ (fun g w' hq _ hge => ⟨g, rfl, Nat.le_trans hb.size hge, fun _ => hq⟩)
        | 23, _ =>
         intro val fl w1 a hb ha hd hfl;have ha := ha.sub (Sub.nil _)
         exact YK ha rfl rfl QCQ (fun g w' hq _ hge => ⟨g, rfl, Nat.le_trans hb.size hge, fun _ => hq⟩)
        | 24, _ =>
         exact absurd (by simp) hs_
        | 25, _ =>
         exact absurd (by simp) hs_
        | k + 26, h => exact absurd h (by omega)
       ·simp only [List.mem_cons, List.not_mem_nil, or_false] at hi_; rcases hi_ with rfl | rfl
        ·
         intro val fl w1 a hb hfi ha hd hfl;obtain ⟨g22_, e22, hg22_, q22_⟩ := hd 22 (ZA.1 rfl);change val 22 = _ at e22;have e19 : val 19 = _ := hd 19 (ZA.1 rfl);have ha := ha.s2 (d := 98) (e := 18) rfl e19 rfl e22;refine Zc ha rfl rfl rfl (q22_ hfi) Z9 rfl rfl rfl rfl ?_;intro w' hq hgr;refine ⟨undef, rfl, hgr.size, ZD hb hgr hg22_, ⟨g22_, e22, hq⟩, fun j _ hj hn hA => ?_⟩
         exact ZF (C := fun j => j ≠ 24 ∧ 24 ∉ clsAt [[], [], [1], [1, 2], [], [], [4, 5], [4, 5, 6], [], [], [8, 9], [8, 9, 10], [], [12], [8, 9, 10, 11, 12, 13], [1, 2, 3, 4, 5, 6, 7, 8, 9, 10, 11, 12, 13, 14], [], [0, 1, 2, 3, 4, 5, 6, 7, 8, 9, 10, 11, 12, 13, 14, 15, 16], [0, 1, 2, 3, 4, 5, 6, 7, 8, 9, 10, 11, 12, 13, 14, 15, 16, 17], [0, 1, 2, 3, 4, 5, 6, 7, 8, 9, 10, 11, 12, 13, 14, 15, 16, 17, 18], [0, 1, 2, 3, 4, 5, 6, 7, 8, 9, 10, 11, 12, 13, 14, 15, 16, 17, 18], [0, 1, 2, 3, 4, 5, 6, 7, 8, 9, 10, 11, 12, 13, 14, 15, 16, 17, 18], [], [], [0, 1, 2, 3, 4, 5, 6, 7, 8, 9, 10, 11, 12, 13, 14, 15, 16, 17, 18, 19, 22, 23], [0, 1, 2, 3, 4, 5, 6, 7, 8, 9, 10, 11, 12, 13, 14, 15, 16, 17, 18, 19, 20, 22, 23, 24], [0, 1, 2, 3, 4, 5, 6, 7, 8, 9, 10, 11, 12, 13, 14, 15, 16, 17, 18, 19, 20, 21, 22, 23, 24, 25]] j ∧ ∀ p ∈ [22, 23], (p = j ∨ p ∈ clsAt [[], [], [1], [1, 2], [], [], [4, 5], [4, 5, 6], [], [], [8, 9], [8, 9, 10], [], [12], [8, 9, 10, 11, 12, 13], [1, 2, 3, 4, 5, 6, 7, 8, 9, 10, 11, 12, 13, 14], [], [0, 1, 2, 3, 4, 5, 6, 7, 8, 9, 10, 11, 12, 13, 14, 15, 16], [0, 1, 2, 3, 4, 5, 6, 7, 8, 9, 10, 11, 12, 13, 14, 15, 16, 17], [0, 1, 2, 3, 4, 5, 6, 7, 8, 9, 10, 11, 12, 13, 14, 15, 16, 17, 18], [0, 1, 2, 3, 4, 5, 6, 7, 8, 9, 10, 11, 12, 13, 14, 15, 16, 17, 18], [0, 1, 2, 3, 4, 5, 6, 7, 8, 9, 10, 11, 12, 13, 14, 15, 16, 17, 18], [], [], [0, 1, 2, 3, 4, 5, 6, 7, 8, 9, 10, 11, 12, 13, 14, 15, 16, 17, 18, 19, 22, 23], [0, 1, 2, 3, 4, 5, 6, 7, 8, 9, 10, 11, 12, 13, 14, 15, 16, 17, 18, 19, 20, 22, 23, 24], [0, 1, 2, 3, 4, 5, 6, 7, 8, 9, 10, 11, 12, 13, 14, 15, 16, 17, 18, 19, 20, 21, 22, 23, 24, 25]] j) → ∀ q ∈ [22, 23], (q = 24 ∨ q ∈ clsAt [[], [], [1], [1, 2], [], [], [4, 5], [4, 5, 6], [], [], [8, 9], [8, 9, 10], [], [12], [8, 9, 10, 11, 12, 13], [1, 2, 3, 4, 5, 6, 7, 8, 9, 10, 11, 12, 13, 14], [], [0, 1, 2, 3, 4, 5, 6, 7, 8, 9, 10, 11, 12, 13, 14, 15, 16], [0, 1, 2, 3, 4, 5, 6, 7, 8, 9, 10, 11, 12, 13, 14, 15, 16, 17], [0, 1, 2, 3, 4, 5, 6, 7, 8, 9, 10, 11, 12, 13, 14, 15, 16, 17, 18], [0, 1, 2, 3, 4, 5, 6, 7, 8, 9, 10, 11, 12, 13, 14, 15, 16, 17, 18], [0, 1, 2, 3, 4, 5, 6, 7, 8, 9, 10, 11, 12, 13, 14, 15, 16, 17, 18], [], [], [0, 1, 2, 3, 4, 5, 6, 7, 8, 9, 10, 11, 12, 13, 14, 15, 16, 17, 18, 19, 22, 23], [0, 1, 2, 3, 4, 5, 6, 7, 8, 9, 10, 11, 12, 13, 14, 15, 16, 17, 18, 19, 20, 22, 23, 24], [0, 1, 2, 3, 4, 5, 6, 7, 8, 9, 10, 11, 12, 13, 14, 15, 16, 17, 18, 19, 20, 21, 22, 23, 24, 25]] 24) → p ≠ q → val p ≠ val q) (fun _ ⟨g, h1, h2, _⟩ => ⟨g, h1, h2, fun h => by rw [ZQ] at h; cases h⟩) (ZF (fun hc ⟨g, h1, h2, h3⟩ => ⟨g, h1, h2, fun h => (h3 (by rwa [Z4 rfl] at h)).grown hgr (fun h => hc.2.2 23 (by simp) (.inl rfl) 22 (by simp) (.inr (ZA.1 rfl)) (by simp) (by have h1' : val 23 = _ := h1; rw [h1', e22]; injection h with h; rw [h]))⟩) (ZF (fun hc => absurd rfl hc.1) (ZF (fun hc ⟨g, h1, h2⟩ => ⟨g, h1, h2.grown hgr (fun h => hc.2.2 23 (by simp) (.inr (ZA.1 rfl)) 22 (by simp) (.inr (ZA.1 rfl)) (by simp) (by have h1' : val 23 = _ := h1; rw [h1', e22]; injection h with h; rw [h]))⟩) (fun _ _ h => h)))) j ⟨hj, hn, hA⟩
        ·
         intro val fl w1 a hb hfi ha hd hfl;obtain ⟨g23_, e23, hg23_, q23_⟩ := hd 23 (ZA.1 rfl);change val 23 = _ at e23;have e20 : val 20 = _ := hd 20 (ZA.1 rfl);have ha := ha.s2 (d := 99) (e := 19) rfl e20 rfl e23;refine Zc ha rfl rfl rfl (q23_ hfi) QAw rfl rfl rfl rfl ?_;intro w' hq hgr;refine ⟨undef, rfl, hgr.size, ZD hb hgr hg23_, ⟨g23_, e23, hq⟩, fun j _ hj hn hA => ?_⟩
         exact ZF (C := fun j => j ≠ 25 ∧ 25 ∉ clsAt [[], [], [1], [1, 2], [], [], [4, 5], [4, 5, 6], [], [], [8, 9], [8, 9, 10], [], [12], [8, 9, 10, 11, 12, 13], [1, 2, 3, 4, 5, 6, 7, 8, 9, 10, 11, 12, 13, 14], [], [0, 1, 2, 3, 4, 5, 6, 7, 8, 9, 10, 11, 12, 13, 14, 15, 16], [0, 1, 2, 3, 4, 5, 6, 7, 8, 9, 10, 11, 12, 13, 14, 15, 16, 17], [0, 1, 2, 3, 4, 5, 6, 7, 8, 9, 10, 11, 12, 13, 14, 15, 16, 17, 18], [0, 1, 2, 3, 4, 5, 6, 7, 8, 9, 10, 11, 12, 13, 14, 15, 16, 17, 18], [0, 1, 2, 3, 4, 5, 6, 7, 8, 9, 10, 11, 12, 13, 14, 15, 16, 17, 18], [], [], [0, 1, 2, 3, 4, 5, 6, 7, 8, 9, 10, 11, 12, 13, 14, 15, 16, 17, 18, 19, 22, 23], [0, 1, 2, 3, 4, 5, 6, 7, 8, 9, 10, 11, 12, 13, 14, 15, 16, 17, 18, 19, 20, 22, 23, 24], [0, 1, 2, 3, 4, 5, 6, 7, 8, 9, 10, 11, 12, 13, 14, 15, 16, 17, 18, 19, 20, 21, 22, 23, 24, 25]] j ∧ ∀ p ∈ [22, 23], (p = j ∨ p ∈ clsAt [[], [], [1], [1, 2], [], [], [4, 5], [4, 5, 6], [], [], [8, 9], [8, 9, 10], [], [12], [8, 9, 10, 11, 12, 13], [1, 2, 3, 4, 5, 6, 7, 8, 9, 10, 11, 12, 13, 14], [], [0, 1, 2, 3, 4, 5, 6, 7, 8, 9, 10, 11, 12, 13, 14, 15, 16], [0, 1, 2, 3, 4, 5, 6, 7, 8, 9, 10, 11, 12, 13, 14, 15, 16, 17], [0, 1, 2, 3, 4, 5, 6, 7, 8, 9, 10, 11, 12, 13, 14, 15, 16, 17, 18], [0, 1, 2, 3, 4, 5, 6, 7, 8, 9, 10, 11, 12, 13, 14, 15, 16, 17, 18], [0, 1, 2, 3, 4, 5, 6, 7, 8, 9, 10, 11, 12, 13, 14, 15, 16, 17, 18], [], [], [0, 1, 2, 3, 4, 5, 6, 7, 8, 9, 10, 11, 12, 13, 14, 15, 16, 17, 18, 19, 22, 23], [0, 1, 2, 3, 4, 5, 6, 7, 8, 9, 10, 11, 12, 13, 14, 15, 16, 17, 18, 19, 20, 22, 23, 24], [0, 1, 2, 3, 4, 5, 6, 7, 8, 9, 10, 11, 12, 13, 14, 15, 16, 17, 18, 19, 20, 21, 22, 23, 24, 25]] j) → ∀ q ∈ [22, 23], (q = 25 ∨ q ∈ clsAt [[], [], [1], [1, 2], [], [], [4, 5], [4, 5, 6], [], [], [8, 9], [8, 9, 10], [], [12], [8, 9, 10, 11, 12, 13], [1, 2, 3, 4, 5, 6, 7, 8, 9, 10, 11, 12, 13, 14], [], [0, 1, 2, 3, 4, 5, 6, 7, 8, 9, 10, 11, 12, 13, 14, 15, 16], [0, 1, 2, 3, 4, 5, 6, 7, 8, 9, 10, 11, 12, 13, 14, 15, 16, 17], [0, 1, 2, 3, 4, 5, 6, 7, 8, 9, 10, 11, 12, 13, 14, 15, 16, 17, 18], [0, 1, 2, 3, 4, 5, 6, 7, 8, 9, 10, 11, 12, 13, 14, 15, 16, 17, 18], [0, 1, 2, 3, 4, 5, 6, 7, 8, 9, 10, 11, 12, 13, 14, 15, 16, 17, 18], [], [], [0, 1, 2, 3, 4, 5, 6, 7, 8, 9, 10, 11, 12, 13, 14, 15, 16, 17, 18, 19, 22, 23], [0, 1, 2, 3, 4, 5, 6, 7, 8, 9, 10, 11, 12, 13, 14, 15, 16, 17, 18, 19, 20, 22, 23, 24], [0, 1, 2, 3, 4, 5, 6, 7, 8, 9, 10, 11, 12, 13, 14, 15, 16, 17, 18, 19, 20, 21, 22, 23, 24, 25]] 25) → p ≠ q → val p ≠ val q) (fun hc ⟨g, h1, h2, h3⟩ => ⟨g, h1, h2, fun h => (h3 (by rwa [Z4 rfl] at h)).grown hgr (fun h => hc.2.2 22 (by simp) (.inl rfl) 23 (by simp) (.inr (ZA.1 rfl)) (by simp) (by have h1' : val 22 = _ := h1; rw [h1', e23]; injection h with h; rw [h]))⟩) (ZF (fun _ ⟨g, h1, h2, _⟩ => ⟨g, h1, h2, fun h => by rw [ZQ] at h; cases h⟩) (ZF (fun hc ⟨g, h1, h2⟩ => ⟨g, h1, h2.grown hgr (fun h => hc.2.2 22 (by simp) (.inr (ZA.1 rfl)) 23 (by simp) (.inr (ZA.1 rfl)) (by simp) (by have h1' : val 22 = _ := h1; rw [h1', e23]; injection h with h; rw [h]))⟩) (ZF (fun hc => absurd rfl hc.1) (fun _ _ h => h)))) j ⟨hj, hn, hA⟩
       ·intro val fl wR21 hfl hb halc hd
        have e0 : val 0 = _ := hd 0 (by omega)
        have e1 : val 1 = _ := hd 1 (by omega)
        have e2 : val 2 = _ := hd 2 (by omega)
        have e3 : val 3 = _ := hd 3 (by omega)
        have e4 : val 4 = _ := hd 4 (by omega)
        have e5 : val 5 = _ := hd 5 (by omega)
        have e6 : val 6 = _ := hd 6 (by omega)
        have e7 : val 7 = _ := hd 7 (by omega)
        have e8 : val 8 = _ := hd 8 (by omega)
        have e9 : val 9 = _ := hd 9 (by omega)
        have e10 : val 10 = _ := hd 10 (by omega)
        have e11 : val 11 = _ := hd 11 (by omega)
        have e12 : val 12 = _ := hd 12 (by omega)
        have e13 : val 13 = _ := hd 13 (by omega)
        have e14 : val 14 = _ := hd 14 (by omega)
        have e15 : val 15 = _ := hd 15 (by omega)
        have e16 : val 16 = _ := hd 16 (by omega)
        have e17 : val 17 = _ := hd 17 (by omega)
        have e18 : val 18 = _ := hd 18 (by omega)
        have e19 : val 19 = _ := hd 19 (by omega)
        have e20 : val 20 = _ := hd 20 (by omega)
        have e21 : val 21 = _ := hd 21 (by omega)
        obtain ⟨ga22_21, e22, qa22_21⟩ := hd 24 (by omega)
        change val 22 = _ at e22;obtain ⟨ga23_21, e23, qa23_21⟩ := hd 25 (by omega)
        change val 23 = _ at e23;refine EL.ends (cs := [_, _, _, _, _, _, _, _, _, _, _, _, _, _, _, _, _, _, _, _, _, _, _, _, val 24, val 25]) ⟨e0, e1, e2, e3, e4, e5, e6, e7, e8, e9, e10, e11, e12, e13, e14, e15, e16, e17, e18, e19, e20, e21, e22, e23, rfl, rfl, trivial⟩ rfl ?_;replace qs6 := qs6.bl hb;replace qs10 := qs10.bl hb;replace q23 := q23.bl hb;replace hq0 := ZE hq0 hb (Nat.le_refl _);replace hq1 := ZE hq1 hb (Nat.le_refl _);replace hrn := ZE hrn hb (Nat.le_refl _);have bge35 := Yq halc (i := 22) rfl rfl e22;have n2_35 : g2 ≠ ga22_21 := Nat.ne_of_lt (Nat.lt_of_lt_of_le lt_2 bge35);have n5_35 : g5 ≠ ga22_21 := Nat.ne_of_lt (Nat.lt_of_lt_of_le lt_5 bge35);have n23_35 : g23 ≠ ga22_21 := Nat.ne_of_lt (Nat.lt_of_lt_of_le lt_23 bge35);have bhbw_35 := Nat.le_trans hbw.size bge35;have bge36 := Yq halc (i := 23) rfl rfl e23;have n2_36 : g2 ≠ ga23_21 := Nat.ne_of_lt (Nat.lt_of_lt_of_le lt_2 bge36);have n5_36 : g5 ≠ ga23_21 := Nat.ne_of_lt (Nat.lt_of_lt_of_le lt_5 bge36);have n23_36 : g23 ≠ ga23_21 := Nat.ne_of_lt (Nat.lt_of_lt_of_le lt_23 bge36);have n35_36 : ga22_21 ≠ ga23_21 := QB5 halc (i := 22) (j := 23) rfl rfl rfl rfl rfl e22 e23;have bhbw_36 := Nat.le_trans hbw.size bge36;replace hbw := bo_ hbw hb;have hnr : ∀ b, (.slice Ar k cr : Value).ownBlock = some b → b ≠ ga23_21 := fun b hb => Nat.ne_of_lt (Nat.lt_of_lt_of_le (hrl b hb).2 bge36)
        clear hrl;refine EL.as rfl rfl (EL.nil (EX.seq (EC.seq (EC.seq (EC.region (EL.mv rfl rfl (EL.val (ZT rfl) rfl (EL.nil (EX.seq ?_)))))))));refine EC.no rfl (EC.skip (EX.seq ?_));have hn19 : ∀ b, (.slice Ar k cr : Value).ownBlock = some b → b ≠ ga23_21 := hnr;have hW := ZI hrn (w1 := wR21) ⟨rfl, rfl, rfl, Nat.le_refl _, fun _ _ _ => rfl⟩ hbw.size
        clear hW;have lt_2 := qs6.lt;have lt_5 := qs10.lt;have lt_23 := q23.lt;have lt_35 := qa22_21.lt;refine EC.regionS [[], [], [], [2], [1, 2, 3], [0, 1, 2, 3, 4], [0, 1, 2, 3, 4, 5]] 5 [] [4] (fun fl w_ => wR21.grownBy w_ ((.slice Ar k cr) : Value).ownBlock ∧ (fl 4 = false → w_.ownsRow w.heap.size 49 2 (.slice Ar k cr) k (rnsC (QBf l q p k)))) (phiS (fun i_ r => match i_ with | 0 => r 0 = (stA (tkS (sAt l q p k) ((waitL q (sAt l q p k) true).take n) true)) | 1 => r 1 = .slice Ar k cr | 2 => r 2 = .agg #[.int .i64 (runT (sAt l q p k) ((waitL q (sAt l q p k) true).take n) true).start, .int .i64 (runT (sAt l q p k) ((waitL q (sAt l q p k) true).take n) true).stop] | _ => True) [(3, fun fl r w_ => fl 4 = false → (∃ g_, r 3 = .slice (some ⟨g_, 0, none⟩) 1 1 ∧ Blk w_ g_ 49 #[.int .i64 (runT (sAt l q p k) ((waitL q (sAt l q p k) true).take n) true).start, .int .i64 (runT (sAt l q p k) ((waitL q (sAt l q p k) true).take n) true).stop] ∧ wR21.heap.size ≤ g_)), (4, fun _ r w_ => w_.ownsRow w.heap.size 49 2 (r 4) (k + 1) ((rnsC (QBf l q p k)) ++ [.int .i64 (runT (sAt l q p k) ((waitL q (sAt l q p k) true).take n) true).start, .int .i64 (runT (sAt l q p k) ((waitL q (sAt l q p k) true).take n) true).stop]) ∧ ∀ b, (r 4).ownBlock = some b → ((.slice Ar k cr) : Value).ownBlock = some b ∨ wR21.heap.size ≤ b)]) (by kernel_rfl) rfl rfl (by intro i hi; simp at hi; subst hi; exact ⟨by simp, by omega⟩) (QAt hrn) (ZK (Z0 Yj) (ZK (QAG (e := 4) (C := fun u_ => ∀ b, u_.ownBlock = some b → ((.slice Ar k cr) : Value).ownBlock = some b ∨ wR21.heap.size ≤ b)) (Zb))) (fun i_ hi_ hs_ => ?_) (fun i_ hi_ => ?_) ?_
        ·match i_, hi_ with
         | 0, _ =>
          intro val fl w1 a hb ha hd hfl;obtain ⟨hgb, hg0⟩ := hb;have hb := ZI hrn hgb hbw.size;have ha := ha.s0 (d := 18) rfl
          exact ZC ha rfl rfl (YB rfl ((ZM qa22_21 hrn rfl hgb).at (j := 0) rfl) ((ZM qa22_21 hrn rfl hgb).at (j := 1) rfl) ((ZM qa22_21 hrn rfl hgb).at (j := 2) rfl) ((ZM qa22_21 hrn rfl hgb).at (j := 3) rfl) ((ZM qa22_21 hrn rfl hgb).at (j := 4) rfl) ((ZM qa22_21 hrn rfl hgb).at (j := 5) rfl) ((ZM qa22_21 hrn rfl hgb).at (j := 6) rfl) ((ZM qa22_21 hrn rfl hgb).at (j := 7) rfl) ((ZM qa22_21 hrn rfl hgb).at (j := 8) rfl) ((ZM qa22_21 hrn rfl hgb).at (j := 9) rfl) ((ZM qa22_21 hrn rfl hgb).at (j := 10) rfl) ((ZM qa22_21 hrn rfl hgb).at (j := 11) rfl) ((ZM qa22_21 hrn rfl hgb).at (j := 12) rfl) ((ZM qa22_21 hrn rfl hgb).at (j := 13) rfl) ((ZM qa22_21 hrn rfl hgb).at (j := 14) rfl)) rfl rfl
         | 1, _ =>
          intro val fl w1 a hb ha hd hfl;obtain ⟨hgb, hg0⟩ := hb;have hb := ZI hrn hgb hbw.size;have ha := ha.s0 (d := 7) rfl
          exact ZC ha rfl rfl (x_move rfl) rfl rfl
         | 2, _ =>
          intro val fl w1 a hb ha hd hfl;obtain ⟨hgb, hg0⟩ := hb;have hb := ZI hrn hgb hbw.size;have ha := ha.s0 (d := 19) rfl
          exact ZC ha rfl rfl (QC2 rfl ((qa23_21.grown hgb (fun e => hn19 _ e.symm rfl)).at (j := 0) rfl) ((qa23_21.grown hgb (fun e => hn19 _ e.symm rfl)).at (j := 1) rfl)) rfl rfl
         | 3, _ =>
          intro val fl w1 a hb ha hd hfl;obtain ⟨hgb, hg0⟩ := hb;have hb := ZI hrn hgb hbw.size;have e2 : val 2 = _ := hd 2 (ZA.1 rfl);have ha := ha.s1 (d := 106) rfl e2
          exact Y4 ha rfl rfl (QGT rfl) rfl (fun g w' hq _ hge => fun _ => ⟨g, rfl, hq, Nat.le_trans hgb.size hge⟩)
         | 4, _ =>
          exact absurd (by simp) hs_
         | k + 5, h => exact absurd h (by omega)
        ·simp only [List.mem_singleton] at hi_; subst hi_
         intro val fl w1 a hb hfi ha hd hfl;obtain ⟨hgb, hg0⟩ := hb;have hb := ZI hrn hgb hbw.size;have e1 : val 1 = _ := hd 1 (ZA.1 rfl);obtain ⟨g3_, e3, q3_, h3_⟩ := hd 3 (ZA.1 rfl) hfi;change val 3 = _ at e3;have ha := ha.s2 (d := 107) (e := 105) rfl e3 rfl e1;refine QAW QD0 ha rfl rfl rfl (hg0 hfi) (QA9 (l := [.int .i64 (runT (sAt l q p k) ((waitL q (sAt l q p k) true).take n) true).start, .int .i64 (runT (sAt l q p k) ((waitL q (sAt l q p k) true).take n) true).stop]) q3_ rfl) (by intro u hu; simp only [List.mem_cons, List.not_mem_nil, or_false] at hu; rcases hu with rfl | rfl <;> rfl) (by omega) rfl (Nat.le_trans hbw.size hgb.size) ?_
         intro v' w' ho' hgr hat;refine ⟨v', rfl, hgr.size, ⟨Zg hgb hgr, fun h => by rw [ZQ] at h; cases h⟩, ⟨ho', fun b hb' => ?_⟩, fun j _ hj hn hA => ?_⟩
         ·rcases hat with h | h
          ·exact .inl (h ▸ hb')
          ·refine .inr ?_
           change v'.ownBlock = some b at hb';rw [h] at hb'
           injection hb' with hb'
           have := hgb.size
           omega
         ·exact ZF (C := fun j => j ≠ 4 ∧ 4 ∉ clsAt [[], [], [], [2], [1, 2, 3], [0, 1, 2, 3, 4], [0, 1, 2, 3, 4, 5]] j) (fun _ _ h => by rw [ZQ] at h; cases h) (ZF (fun hc => absurd rfl hc.1) (fun _ _ h => h)) j ⟨hj, hn⟩
        ·intro val fl w' hfl hb halc hd
         obtain ⟨hgb, _⟩ := hb;have hb := ZI hrn hgb hbw.size;have e0 : val 0 = _ := hd 0 (by omega)
         have e1 : val 1 = _ := hd 1 (by omega)
         have e2 : val 2 = _ := hd 2 (by omega)
         obtain ⟨ho4, hn4⟩ := hd 4 (by omega)
         change w'.ownsRow _ _ _ (val 4) _ _ at ho4;refine EL.ends (cs := [_, _, _, val 3, val 4]) ⟨e0, e1, e2, rfl, rfl, trivial⟩ rfl ?_;replace qs6 := ZM qs6 hrn rfl hgb;replace qs10 := ZM qs10 hrn rfl hgb;replace q23 := ZM q23 hrn rfl hgb;replace qa22_21 := ZM qa22_21 hrn rfl hgb;replace hq0 := QAF hq0 hrn rfl hgb;replace hq1 := QAF hq1 hrn rfl hgb;replace hbw := hbw.trans (hb.mono (Nat.le_refl _));refine EL.store rfl rfl qs6 Z9 rfl rfl rfl rfl ?_;intro w37 hq37 hg37;replace qs10 := qs10.gr hg37 n2_5.symm;replace q23 := q23.gr hg37 n2_23.symm;replace qa22_21 := qa22_21.gr hg37 n2_35.symm;replace hq0 := ZL hq0 qs6 rfl hg37;replace hq1 := ZL hq1 qs6 rfl hg37;replace ho4 := ZL ho4 qs6 rfl hg37;replace hbw := ZD hbw hg37 bhbw_2;replace qs6 := hq37;clear hg37 hq37;refine EL.as rfl rfl (EL.nil (EX.blk (EX.seq (EC.region ?_))));refine EL.val (ZP rfl rfl (c := ((k + 1 : Nat) : Int)) ((IntWalk.i64_in _ ⟨by first | omega | (simp only; omega), by first | omega | (simp only; omega)⟩).trans (by first | omega | (simp only; omega)))) rfl ?_
         refine EL.mv rfl rfl (EL.nil ?_);refine EX.roundD (k + 1, _) ⟨rfl, rfl, trivial⟩ (by repeat first | with_reducible exact .refl _ | refine sp_ rfl ?_ | exact .refl _ | refine sd_ rfl ?_ | refine sn_ ?_) ⟨hltk, (QCs hfa hf), by rw [hss]; exact qs6, qs10, hq0, hq1, by rw [QES, QCm, hrs]; exact ho4, hbw⟩ (show p.length - (k + 1) < p.length - k by omega)
    ·
     obtain rfl : k = p.length := by omega
     refine EC.seq (EC.region ?_);refine EL.val (ZS (r := false) rfl rfl (decide_eq_false (by omega))) rfl ?_
     refine EL.nil (EX.seq (EC.seq (EC.no rfl (EC.exit (EX.seq_exit (EX.seq_exit (EX.blk_here (EX.seq (EC.seq ?_)))))))));refine EC.region (EL.val (YB rfl (qs6.at (j := 0) rfl) (qs6.at (j := 1) rfl) (qs6.at (j := 2) rfl) (qs6.at (j := 3) rfl) (qs6.at (j := 4) rfl) (qs6.at (j := 5) rfl) (qs6.at (j := 6) rfl) (qs6.at (j := 7) rfl) (qs6.at (j := 8) rfl) (qs6.at (j := 9) rfl) (qs6.at (j := 10) rfl) (qs6.at (j := 11) rfl) (qs6.at (j := 12) rfl) (qs6.at (j := 13) rfl) (qs6.at (j := 14) rfl)) rfl (EL.mv rfl rfl (EL.store rfl rfl qs6 Z9 rfl rfl rfl rfl ?_)));intro w38 hq38 hg38;replace qs10 := qs10.gr hg38 n2_5.symm;replace hq0 := ZL hq0 qs6 rfl hg38;replace hq1 := ZL hq1 qs6 rfl hg38;replace hrn := ZL hrn qs6 rfl hg38;replace hbw := ZD hbw hg38 bhbw_2;replace qs6 := hq38;clear hg38 hq38;refine EL.as rfl rfl (EL.as rfl rfl (EL.nil (EX.seq (EC.ret ?_))))
     exact EX.done (QCU rfl rfl rfl rfl (QAP (qs6.at (j := 0) rfl) (qs6.at (j := 1) rfl) (qs6.at (j := 2) rfl) (qs6.at (j := 3) rfl) (qs6.at (j := 4) rfl) (qs6.at (j := 5) rfl) (qs6.at (j := 6) rfl) (qs6.at (j := 7) rfl) (qs6.at (j := 8) rfl) (qs6.at (j := 9) rfl) (qs6.at (j := 10) rfl) (qs6.at (j := 11) rfl) (qs6.at (j := 12) rfl) (qs6.at (j := 13) rfl) (qs6.at (j := 14) rfl))) ⟨sAt l q p p.length, _, by rw [QLB ht (by rw [← hqe]; exact hoc) (by rw [← hqe]; exact QLN hfa)]; rfl, fun _ => ⟨by rw [← hqe], by rw [← hqe]; exact hrn⟩, hbw⟩
   ·
    refine EL.val (QJs (r := true) rfl rfl (decide_eq_true hz)) rfl (EL.nil (EX.seq (EC.yes rfl (EC.seq (EC.region (EL.val (YB rfl (q2.at (j := 0) rfl) (q2.at (j := 1) rfl) (q2.at (j := 2) rfl) (q2.at (j := 3) rfl) (q2.at (j := 4) rfl) (q2.at (j := 5) rfl) (q2.at (j := 6) rfl) (q2.at (j := 7) rfl) (q2.at (j := 8) rfl) (q2.at (j := 9) rfl) (q2.at (j := 10) rfl) (q2.at (j := 11) rfl) (q2.at (j := 12) rfl) (q2.at (j := 13) rfl) (q2.at (j := 14) rfl)) rfl (EL.store rfl rfl q2 Z9 rfl rfl rfl rfl ?_)))))));intro w39 hq39 hg39;replace q1 := q1.gr hg39 n1_2;replace q5 := q5.gr hg39 n2_5.symm;replace q7 := q7.gr hg39 n2_7.symm;replace hq0 := ZL hq0 q2 rfl hg39;replace hq1 := ZL hq1 q2 rfl hg39;replace hbw := ZD hbw hg39 bhbw_2;replace q2 := hq39;clear hg39 hq39;refine EL.as rfl rfl (EL.as rfl rfl (EL.nil (EX.seq (EC.ret (EX.seq_ret ?_)))))
    exact EX.done (QCU rfl rfl rfl rfl (QAP (q2.at (j := 0) rfl) (q2.at (j := 1) rfl) (q2.at (j := 2) rfl) (q2.at (j := 3) rfl) (q2.at (j := 4) rfl) (q2.at (j := 5) rfl) (q2.at (j := 6) rfl) (q2.at (j := 7) rfl) (q2.at (j := 8) rfl) (q2.at (j := 9) rfl) (q2.at (j := 10) rfl) (q2.at (j := 11) rfl) (q2.at (j := 12) rfl) (q2.at (j := 13) rfl) (q2.at (j := 14) rfl))) ⟨st0, _, by rw [QBN ht (by rw [← hqe]; exact QGv hz)]; rfl, fun he => absurd he (by rw [QBN ht (by rw [← hqe]; exact QGv hz)]; decide), hbw⟩
 ·
  refine EL.val (Zp (r := true) rfl rfl (decide_eq_true (by omega))) rfl ?_
  refine EL.nil (EX.seq (EC.yes rfl (EC.seq (EC.region (EL.val (YB rfl (q2.at (j := 0) rfl) (q2.at (j := 1) rfl) (q2.at (j := 2) rfl) (q2.at (j := 3) rfl) (q2.at (j := 4) rfl) (q2.at (j := 5) rfl) (q2.at (j := 6) rfl) (q2.at (j := 7) rfl) (q2.at (j := 8) rfl) (q2.at (j := 9) rfl) (q2.at (j := 10) rfl) (q2.at (j := 11) rfl) (q2.at (j := 12) rfl) (q2.at (j := 13) rfl) (q2.at (j := 14) rfl)) rfl (EL.mv rfl rfl (EL.store rfl rfl q2 Z9 rfl rfl rfl rfl ?_)))))));intro w40 hq40 hg40;replace q1 := q1.gr hg40 n1_2;replace hbw := ZD hbw hg40 bhbw_2;replace q2 := hq40;clear hg40 hq40;refine EL.as rfl rfl (EL.as rfl rfl (EL.nil (EX.seq (EC.ret (EX.seq_ret ?_)))))
  exact EX.done (QCU rfl rfl rfl rfl (QAP (q2.at (j := 0) rfl) (q2.at (j := 1) rfl) (q2.at (j := 2) rfl) (q2.at (j := 3) rfl) (q2.at (j := 4) rfl) (q2.at (j := 5) rfl) (q2.at (j := 6) rfl) (q2.at (j := 7) rfl) (q2.at (j := 8) rfl) (q2.at (j := 9) rfl) (q2.at (j := 10) rfl) (q2.at (j := 11) rfl) (q2.at (j := 12) rfl) (q2.at (j := 13) rfl) (q2.at (j := 14) rfl))) ⟨st0, _, by rw [QHP ht]; rfl, fun he => absurd ((QHP ht).symm.trans he) ht, hbw⟩
section
variable {n : Nat} {σ : Sg} {w : World} {dst : Option Tmp} {ty : TypeId} {pos : String} {af : Array Edge} {g : Option (Nat × Bool)} {x y z : Operand} {at' : Array TypeId}
theorem cF40 : cF 40 := fun _ _ => by simp [go_sem]
theorem QMt (a : Act) (_ : Env n σ a) : (execOp a.eval ⟨dst, .alloc 35, ty, pos, af, g⟩).run Try.prog w = .ok (.value (.pointer (some ⟨w.heap.size, 0, none⟩))) (w.alloc (.cells #[.int .i64 0, .int .i64 0, .int .i64 0, .int .i64 0] 35)) := by
 simp only [execOp]
 simp [go_sem]
theorem QMn {b o : Nat} {v0 v1 v2 v3 : Value} (hx : evS σ x = some (.pointer (some ⟨b, o, none⟩))) (c0 : w.cell? ⟨b, o, none⟩ = some v0) (c1 : w.cell? ⟨b, o + 1, none⟩ = some v1) (c2 : w.cell? ⟨b, o + 2, none⟩ = some v2) (c3 : w.cell? ⟨b, o + 3, none⟩ = some v3) : ZJ Try.prog n σ w ⟨dst, .load 35 x, ty, pos, af, g⟩ (.agg #[v0, v1, v2, v3]) := fun a ha => by
 simp only [execOp, ha.eval hx]
 simp [go_sem, c0, c1, c2, c3]
theorem QJ6 : (Try.prog.info? 35).map (·.size) = some 4 := by kernel_rfl
theorem QMl {b o : Nat} {v0 v1 v2 v3 : Value} (c0 : w.cell? ⟨b, o, none⟩ = some v0) (c1 : w.cell? ⟨b, o + 1, none⟩ = some v1) (c2 : w.cell? ⟨b, o + 2, none⟩ = some v2) (c3 : w.cell? ⟨b, o + 3, none⟩ = some v3) : (loadVar 35 ⟨b, o, none⟩).run Try.prog w = .ok (.agg #[v0, v1, v2, v3]) w := by
 simp [go_sem, loadVar, c0, c1, c2, c3]
theorem QNU    : ZJ Try.prog n σ w ⟨dst, .build 35 #[], ty, pos, af, g⟩ (.agg #[.int .i64 0, .int .i64 0, .int .i64 0, .int .i64 0]) := fun a _ => by
 simp only [execOp, List.map_toArray, List.map_nil]
 go_simp
end
theorem res4 {P : Program} {n : Nat} {σ : Sg} {w : World} {fn : Func} {t s r q : Tmp} {v u x y : Value} (h : fn.results = #[.tmp t, .tmp s, .tmp r, .tmp q]) (ht : σ t = some v) (hs : σ s = some u) (hr : σ r = some x) (hq : σ q = some y) (a : Act) (ha : Env n σ a) : (results fn a.tmps).run P w = .ok (.tuple #[v, u, x, y]) w := by
 have e1 : a.tmps.getD t undef = v := ha.eval (x := .tmp t) ht;have e2 : a.tmps.getD s undef = u := ha.eval (x := .tmp s) hs;have e3 : a.tmps.getD r undef = x := ha.eval (x := .tmp r) hr;have e4 : a.tmps.getD q undef = y := ha.eval (x := .tmp q) hq;rw [Array.getD_eq_getD_getElem?] at e1 e2 e3 e4
 simp [results, h, e1, e2, e3, e4]
def endP (l : LK) (ts : List TW) (p : List SP) : ST := if Z2 l ts p = 0 then sAt l (qL ts) p p.length else st0
def QGn (l : LK) (ts : List TW) (p : List SP) : List RN := if Z2 l ts p = 0 then QBf l (qL ts) p p.length else []
section
variable {l : LK} {ts : List TW} {p : List SP}
theorem QMK (h : Z2 l ts p = 0) : (endP l ts p).cost = (sAt l (qL ts) p p.length).cost := by unfold endP; rw [if_pos h]
theorem QNe (h : Z2 l ts p = 0) : (endP l ts p).mv = (sAt l (qL ts) p p.length).mv := by unfold endP; rw [if_pos h]
theorem QNO (h : Z2 l ts p = 0) : endP l ts p = sAt l (qL ts) p p.length := if_pos h
theorem QH4 (h : ¬Z2 l ts p = 0) : endP l ts p = st0 := if_neg h
theorem QML (h : ¬Z2 l ts p = 0) : (endP l ts p).cost = 0 := by rw [QH4 h]; rfl
theorem QNf (h : ¬Z2 l ts p = 0) : (endP l ts p).mv = 0 := by rw [QH4 h]; rfl
theorem QLi (h : Z2 l ts p = 0) : QGn l ts p = QBf l (qL ts) p p.length := if_pos h
theorem QLj (h : ¬Z2 l ts p = 0) : QGn l ts p = [] := if_neg h
end
theorem QMf {l : LK} {ts : List TW} {p : List SP} {v vp : Value} {w : World} {B : Nat} (hr : Rd w B 5 v ts.length (twsC ts)) (hp : Rd w B 2 vp p.length (spsC p)) (hB : B ≤ w.heap.size) (hpn : p.length ≤ 1000000) :
  Calls Try.prog 16 #[.agg #[.int .i64 l.length, .int .i64 l.cycle, .int .i64 l.turn, .int .i64 l.fill, .int .i64 l.save, .bool l.high], v, vp] w fun e w' => ∃ sl, e = .returned (.tuple #[sl, .int .i64 (endP l ts p).cost, .int .i64 (endP l ts p).mv, .int .i64 (Z2 l ts p)]) ∧ w'.ownsRow w.heap.size 49 2 sl (QGn l ts p).length (rnsC (QGn l ts p)) ∧ Below w.heap.size w w' := by
 obtain ⟨At, ct, rfl, _⟩ := hr.shape;obtain ⟨Ap, cp, rfl, _⟩ := hp.shape;have hbw := Below.refl w.heap.size w;refine EC.enter 29 Try.func16 rfl rfl rfl (EC.seq (EC.region (EL.newP (QAD rfl) rfl ?_)));intro g1 w1 q1 hb1 hg1 hl1;have bhbw_1 := Nat.le_trans hbw.size hg1;replace hbw := bo_ hbw hb1;clear hb1 hg1 hl1;refine EL.as rfl rfl (EL.as rfl rfl (EL.as rfl rfl (EL.as rfl rfl (EL.nil (EX.seq (EC.seq (EC.region (EL.val (YY rfl (q1.at (j := 0) rfl) (q1.at (j := 1) rfl) (q1.at (j := 2) rfl) (q1.at (j := 3) rfl) (q1.at (j := 4) rfl) (q1.at (j := 5) rfl)) rfl (EL.mv rfl rfl ?_)))))))));refine EL.mv rfl rfl (EL.call (cA3 cF40 rfl rfl rfl) rfl (QFj (hr.below (hbw.mono hB)) (hp.below (hbw.mono hB)) (Nat.le_trans hB hbw.size) hpn) ?_)
 rintro e w2 ⟨s, sl, rfl, hok, hc2⟩
 refine ⟨_, rfl, ?_⟩
 unfold stV
 have hrn := fun he => Yh (hok he).2 hbw.size
 replace q1 := q1.bl hc2;replace hbw := bo_ hbw hc2;clear hc2;refine EL.mv rfl rfl (EL.val (ZR (v := .agg (stC s).toArray) rfl rfl) rfl (EL.val (ZR (v := sl) rfl rfl) rfl (EL.val (ZR (v := .int .i64 (Z2 l ts p)) rfl rfl) rfl (EL.newP QAQ rfl ?_))));intro g3 w3 q3 hb3 hg3 hl3;have n1_3 := q1.na hg3;have bhbw_3 := Nat.le_trans hbw.size hg3;replace q1 := q1.bl hb3;replace hrn := fun he => ZE (hrn he) hb3 (Nat.le_refl _)
 replace hbw := bo_ hbw hb3;clear hb3 hg3 hl3;refine EL.store rfl rfl q3 Z9 rfl rfl rfl rfl ?_;intro w4 hq4 hg4;replace q1 := q1.gr hg4 n1_3;replace hrn := fun he => ZL (hrn he) q3 rfl hg4
 replace hbw := ZD hbw hg4 bhbw_3;replace q3 := hq4;clear hg4 hq4;refine EL.as rfl rfl (EL.as rfl rfl (EL.nil (EX.seq (EC.seq (EC.seq (EC.region (EL.mv rfl rfl ?_)))))))
 by_cases he : Z2 l ts p = 0
 ·
  obtain ⟨hs, _⟩ := hok he;replace hrn := hrn he;clear hok;refine EL.val (Zp (r := false) rfl rfl (decide_eq_false (by omega))) rfl ?_
  refine EL.nil (EX.seq (EC.no rfl (EC.skip (EX.seq (EC.seq ?_)))));refine EC.regionQ (by kernel_rfl) (by kernel_rfl) ?_
  refine EQ.mv rfl rfl ?_;refine EQ.val (fun _ hw => (YZ rfl)) rfl ?_
  refine EQ.val (fun _ hw => (ld_3 rfl (ZB hw (q3.at (j := 14) rfl)))) rfl ?_
  refine EQ.val (fun _ hw => (ZN rfl)) rfl ?_
  refine EQ.val (fun _ hw => (Za rfl)) rfl ?_
  refine EQ.val (fun _ hw => (QB0 rfl)) rfl ?_
  refine EQ.val (fun _ hw => (ld_3 rfl (ZB hw (q3.at (j := 10) rfl)))) rfl ?_
  refine EQ.val (fun _ hw => (ZZ rfl)) rfl ?_
  refine EQ.val (fun _ hw => (ZZ rfl)) rfl ?_
  refine EQ.val (fun _ hw => (ZZ rfl)) rfl ?_
  refine EQ.val (fun _ hw => (ZZ rfl)) rfl ?_
  refine EQ.fin (fun w5 hw_ => ?_)
  replace q1 := q1.bl hw_;replace q3 := q3.bl hw_;replace hrn := ZE hrn hw_ (Nat.le_refl _);replace hbw := bo_ hbw hw_;clear hw_;refine EX.seq (EC.ret ?_)
  exact EX.done (res4 rfl rfl rfl rfl rfl) ⟨_, by rw [QMK he, QNe he, ← hs, he], by rw [QLi he]; unfold QBf at hrn ⊢; rw [List.length_map, List.length_range]; exact hrn, hbw⟩
 ·
  clear hrn;refine EL.val (Zp (r := true) rfl rfl (decide_eq_true (by omega))) rfl ?_
  refine EL.nil (EX.seq (EC.yes rfl (EC.seq (EC.region (EL.mv rfl rfl (EL.as rfl rfl (EL.as rfl rfl (EL.as rfl rfl (EL.as rfl rfl ?_)))))))));refine EL.nil (EX.seq (EC.ret (EX.seq_ret ?_)))
  exact EX.done (res4 rfl rfl rfl rfl rfl) ⟨_, by rw [QML he, QNf he], by rw [QLj he]; exact Y9 _ _ _ _, hbw⟩
theorem QJn {l : LK} {ts : List TW} {p : List SP} {v vp : Value} {w : World} {B : Nat} (hr : Rd w B 5 v ts.length (twsC ts)) (hp : Rd w B 2 vp p.length (spsC p)) (hB : B ≤ w.heap.size) (hpn : p.length ≤ 1000000) :
  Calls Try.prog 17 #[.agg #[.int .i64 l.length, .int .i64 l.cycle, .int .i64 l.turn, .int .i64 l.fill, .int .i64 l.save, .bool l.high], v, vp] w fun e w' => e = .returned (.tuple #[.agg #[.int .i64 (endP l ts p).up, .int .i64 (endP l ts p).lo, .int .i64 (endP l ts p).ch, .int .i64 (endP l ts p).ba], .int .i64 (Z2 l ts p)]) ∧ Below w.heap.size w w' := by
 obtain ⟨At, ct, rfl, _⟩ := hr.shape;obtain ⟨Ap, cp, rfl, _⟩ := hp.shape;have hbw := Below.refl w.heap.size w;refine EC.enter 27 Try.func17 rfl rfl rfl (EC.seq (EC.region (EL.newP (QAD rfl) rfl ?_)));intro g1 w1 q1 hb1 hg1 hl1;have bhbw_1 := Nat.le_trans hbw.size hg1;replace hbw := bo_ hbw hb1;clear hb1 hg1 hl1;refine EL.newP QMt rfl ?_;intro g2 w2 q2 hb2 hg2 hl2;have n1_2 := q1.na hg2;have bhbw_2 := Nat.le_trans hbw.size hg2;replace q1 := q1.bl hb2;replace hbw := bo_ hbw hb2;clear hb2 hg2 hl2;refine EL.as rfl rfl (EL.nil (EX.seq (EC.seq (EC.region (EL.val (YY rfl (q1.at (j := 0) rfl) (q1.at (j := 1) rfl) (q1.at (j := 2) rfl) (q1.at (j := 3) rfl) (q1.at (j := 4) rfl) (q1.at (j := 5) rfl)) rfl (EL.mv rfl rfl (EL.mv rfl rfl (EL.call (cA3 cF40 rfl rfl rfl) rfl (QFj (hr.below (hbw.mono hB)) (hp.below (hbw.mono hB)) (Nat.le_trans hB hbw.size) hpn) ?_))))))))
 rintro e w3 ⟨s, sl, rfl, hok, hc3⟩
 refine ⟨_, rfl, ?_⟩
 unfold stV
 have hrn := fun he => Yh (hok he).2 hbw.size
 replace q1 := q1.bl hc3;replace q2 := q2.bl hc3;replace hbw := bo_ hbw hc3;clear hc3;refine EL.mv rfl rfl (EL.val (ZR (v := .agg (stC s).toArray) rfl rfl) rfl (EL.val (ZR (v := sl) rfl rfl) rfl (EL.val (ZR (v := .int .i64 (Z2 l ts p)) rfl rfl) rfl (EL.newP QAQ rfl ?_))));intro g4 w4 q4 hb4 hg4 hl4;have n1_4 := q1.na hg4;have n2_4 := q2.na hg4;have bhbw_4 := Nat.le_trans hbw.size hg4;replace q1 := q1.bl hb4;replace q2 := q2.bl hb4;replace hrn := fun he => ZE (hrn he) hb4 (Nat.le_refl _)
 replace hbw := bo_ hbw hb4;clear hb4 hg4 hl4;refine EL.store rfl rfl q4 Z9 rfl rfl rfl rfl ?_;intro w5 hq5 hg5;replace q1 := q1.gr hg5 n1_4;replace q2 := q2.gr hg5 n2_4;replace hrn := fun he => ZL (hrn he) q4 rfl hg5
 replace hbw := ZD hbw hg5 bhbw_4;replace q4 := hq5;clear hg5 hq5;refine EL.as rfl rfl (EL.as rfl rfl (EL.nil (EX.seq (EC.seq (EC.seq (EC.region (EL.mv rfl rfl ?_)))))))
 by_cases he : Z2 l ts p = 0
 ·
  obtain ⟨hs, _⟩ := hok he;replace hrn := hrn he;clear hok;refine EL.val (Zp (r := false) rfl rfl (decide_eq_false (by omega))) rfl ?_
  refine EL.nil (EX.seq (EC.no rfl (EC.skip (EX.seq (EC.seq (EC.region (EL.val (ZN rfl) rfl (EL.val (Za rfl) rfl (EL.val (Zi rfl) rfl ?_)))))))));refine EL.val (QMn rfl (q4.at (j := 6) rfl) (q4.at (j := 7) rfl) (q4.at (j := 8) rfl) (q4.at (j := 9) rfl)) rfl (EL.store rfl rfl q2 QJ6 rfl rfl rfl rfl ?_);intro w6 hq6 hg6;replace q1 := q1.gr hg6 n1_2;replace q4 := q4.gr hg6 n2_4.symm;replace hrn := ZL hrn q2 rfl hg6;replace hbw := ZD hbw hg6 bhbw_2;replace q2 := hq6;clear hg6 hq6;refine EL.as rfl rfl (EL.nil (EX.seq (EC.ret ?_)))
  exact EX.done (QGp rfl rfl rfl (QMl (q2.at (j := 0) rfl) (q2.at (j := 1) rfl) (q2.at (j := 2) rfl) (q2.at (j := 3) rfl))) ⟨by rw [QNO he, ← hs, he], hbw⟩
 ·
  clear hrn;refine EL.val (Zp (r := true) rfl rfl (decide_eq_true (by omega))) rfl ?_
  refine EL.nil (EX.seq (EC.yes rfl (EC.seq (EC.region (EL.val (QNU) rfl (EL.mv rfl rfl (EL.store rfl rfl q2 QJ6 rfl rfl rfl rfl ?_)))))));intro w7 hq7 hg7;replace q1 := q1.gr hg7 n1_2;replace q4 := q4.gr hg7 n2_4.symm;replace hbw := ZD hbw hg7 bhbw_2;replace q2 := hq7;clear hg7 hq7;refine EL.as rfl rfl (EL.nil (EX.seq (EC.ret (EX.seq_ret ?_))))
  exact EX.done (QGp rfl rfl rfl (QMl (q2.at (j := 0) rfl) (q2.at (j := 1) rfl) (q2.at (j := 2) rfl) (q2.at (j := 3) rfl))) ⟨by rw [QH4 he]; rfl, hbw⟩
def volL (x : List LR) (y : List LT) (d : Nat) : List Bd := (List.range x.length).map fun i => volD x y i d
def QA6 (x : List LR) (y : List LT) (n : Nat) : List (List Bd) := (List.range n).map fun d => volL x y (d + 1)
/-- the first k volumes have been laid -/
def firstL (x : List LR) (y : List LT) (k : Nat) : List Bd := (List.range x.length).map fun i => if i < k then volD x y i 0 else bd0
/-- the inflow of the first k reaches has been added -/
def infL (x : List LR) (y : List LT) (d k : Nat) : List Bd := (List.range x.length).map fun i => if i < k then plusB (volD x y i d) (x.getD i lr0).inf else volD x y i d
/-- the first j locks have been looked at -/
def lockL (x : List LR) (y : List LT) (d j : Nat) : List Bd := (List.range x.length).map fun i => plusB (plusB (volD x y i d) (x.getD i lr0).inf) (lkD y j i)
theorem QCy {α : Type} {f : Nat → α} (n : Nat) : ((List.range n).map f).length = n := by simp
theorem QCn {α : Type} {f : Nat → α} {n i : Nat} (d : α) (h : i < n) : ((List.range n).map f).getD i d = f i := by
 rw [Zj (by simpa using h)]
 simp
theorem QB9 {α : Type} {f g : Nat → α} {n i : Nat} (hg : ∀ k, k < n → g k = if k = i then g i else f k) : ((List.range n).map f).set i (g i) = (List.range n).map g := by
 apply List.ext_getElem?
 intro k;rw [List.getElem?_set]
 by_cases h : k < n
 ·by_cases e : i = k
  ·subst e
   simp [h]
  ·have := hg k h
   rw [if_neg (fun h => e h.symm)] at this
   simp [h, e, this]
 ·by_cases e : i = k
  ·subst e
   simp [h]
  ·simp [h, e]
theorem firstL_zero (x : List LR) (y : List LT) : firstL x y 0 = List.replicate x.length bd0 := by
 unfold firstL
 apply List.ext_getElem?
 intro k
 by_cases h : k < x.length <;> simp [h]
theorem QHH {x : List LR} {y : List LT} {k : Nat} (h : k < x.length) : (firstL x y k).set k (volD x y k 0) = firstL x y (k + 1) := by
 have := QB9 (f := fun i => if i < k then volD x y i 0 else bd0) (g := fun i => if i < k + 1 then volD x y i 0 else bd0) (n := x.length) (i := k) (fun j hj => by
  by_cases e : j = k
  ·subst e; rw [if_pos rfl]
  ·rw [if_neg e]
   by_cases h2 : j < k
   ·rw [if_pos h2, if_pos (by omega)]
   ·rw [if_neg h2, if_neg (by omega)])
 simp only [if_pos (Nat.lt_succ_self k)] at this
 exact this
theorem QH3 (x : List LR) (y : List LT) : firstL x y x.length = volL x y 0 := List.map_congr_left fun i hi => if_pos (List.mem_range.1 hi)
theorem QJb (x : List LR) (y : List LT) (d : Nat) : infL x y d 0 = volL x y d := List.map_congr_left fun i hi => if_neg (Nat.not_lt_zero i)
theorem QMB {x : List LR} {y : List LT} {d k : Nat} (h : k < x.length) : (infL x y d k).getD k bd0 = volD x y k d := by
 unfold infL
 rw [QCn _ h, if_neg (Nat.lt_irrefl k)]
theorem QJc {x : List LR} {y : List LT} {d k : Nat} (h : k < x.length) : (infL x y d k).set k (plusB (volD x y k d) (x.getD k lr0).inf) = infL x y d (k + 1) := by
 have := QB9 (f := fun i => if i < k then plusB (volD x y i d) (x.getD i lr0).inf else volD x y i d) (g := fun i => if i < k + 1 then plusB (volD x y i d) (x.getD i lr0).inf else volD x y i d) (n := x.length) (i := k) (fun j hj => by
  by_cases e : j = k
  ·subst e; rw [if_pos rfl]
  ·rw [if_neg e]
   by_cases h2 : j < k
   ·rw [if_pos h2, if_pos (by omega)]
   ·rw [if_neg h2, if_neg (by omega)])
 simp only [if_pos (Nat.lt_succ_self k)] at this
 exact this
theorem QJN (a : Bd) : plusB a bd0 = a := by
 cases a
 simp [plusB, bd0]
theorem QKu (x : List LR) (y : List LT) (d : Nat) : infL x y d x.length = lockL x y d 0 := List.map_congr_left fun i hi => by
 rw [if_pos (List.mem_range.1 hi), QKi, QJN]
theorem QEY (a b c : Bd) : plusB (plusB a b) c = plusB a (plusB b c) := by
 simp only [plusB, Bd.mk.injEq]
 omega
theorem QCz {x : List LR} {y : List LT} {d j i : Nat} (h : i < x.length) : (lockL x y d j).getD i bd0 = plusB (plusB (volD x y i d) (x.getD i lr0).inf) (lkD y j i) := QCn _ h
theorem QHz {x : List LR} {y : List LT} {d j : Nat} (h : j + 1 < x.length) :
  ((lockL x y d j).set j (plusB ((lockL x y d j).getD j bd0) (oppB (movT (y.getD j lt0))))).set (j + 1) (plusB ((lockL x y d j).getD (j + 1) bd0) (movT (y.getD j lt0))) = lockL x y d (j + 1) := by
 rw [QCz (by omega), QCz h]
 have e1 := QB9 (f := fun i => plusB (plusB (volD x y i d) (x.getD i lr0).inf) (lkD y j i)) (g := fun i => if i = j then plusB (plusB (plusB (volD x y i d) (x.getD i lr0).inf) (lkD y j i)) (oppB (movT (y.getD j lt0))) else plusB (plusB (volD x y i d) (x.getD i lr0).inf) (lkD y j i)) (n := x.length) (i := j) (fun k hk => by
  by_cases e : k = j
  ·subst e; rw [if_pos rfl]; exact (if_pos rfl).symm
  ·rw [if_neg e, if_neg e])
 simp only [if_true] at e1
 have e2 := QB9 (f := fun i => if i = j then plusB (plusB (plusB (volD x y i d) (x.getD i lr0).inf) (lkD y j i)) (oppB (movT (y.getD j lt0))) else plusB (plusB (volD x y i d) (x.getD i lr0).inf) (lkD y j i)) (g := fun i => plusB (plusB (volD x y i d) (x.getD i lr0).inf) (lkD y (j + 1) i)) (n := x.length) (i := j + 1) (fun k hk => by
  rw [QEl]
  by_cases e : k = j
  ·subst e
   rw [if_pos rfl, if_neg (by omega), ← QEY (plusB _ _)]
   exact (if_pos rfl).symm
  ·rw [if_neg e, if_neg e]
   by_cases e3 : k = j + 1
   ·subst e3
    rw [if_pos rfl, if_pos rfl, QEl, if_neg (by omega), if_pos rfl]
   ·rw [if_neg e3, if_neg e3])
 unfold lockL
 rw [e1, ← e2]
 congr 1
 rw [QEl, if_neg (by omega), if_pos rfl, QEY (plusB _ _)]
theorem lockL_all (x : List LR) (y : List LT) (d : Nat) : lockL x y d y.length = volL x y (d + 1) := List.map_congr_left fun i hi => (QFL x y i d).symm
theorem QBi (x : List LR) (y : List LT) (d : Nat) : (volL x y d).length = x.length := QCy _
theorem QEn (x : List LR) (y : List LT) (d k : Nat) : (infL x y d k).length = x.length := QCy _
theorem Y0 (x : List LR) (y : List LT) (d k : Nat) : (lockL x y d k).length = x.length := QCy _
theorem QEu (x : List LR) (y : List LT) (k : Nat) : (firstL x y k).length = x.length := QCy _
theorem Yo (x : List LR) (y : List LT) (n : Nat) : (QA6 x y n).length = n := QCy _
theorem QB1 {x : List LR} {y : List LT} {n d : Nat} (h : d < n) : (QA6 x y n).getD d [] = volL x y (d + 1) := QCn _ h
/-! ### Bounds -/
structure ChOk (x : List LR) (y : List LT) (days : Int) : Prop where
 n10 : x.length ≤ 10
 yl : y.length + 1 = x.length
 lr : ∀ r ∈ x, lrB r = true
 lt : ∀ k ∈ y, ltB k = true
 days : 0 ≤ days ∧ days ≤ 60
theorem QHO {x : List LR} {y : List LT} {days : Int} (h : chE x y days = 0) : ChOk x y days := by
 unfold chE at h
 split at h
 ·cases h
 ·rename_i h1
  split at h
  ·cases h
  ·rename_i h2
   split at h
   ·rename_i h3
    split at h
    ·rename_i h4
     split at h
     ·rename_i h5
      exact ⟨by omega, by omega, List.all_eq_true.1 h3, List.all_eq_true.1 h4, (Yk ..).1 h5⟩
     ·cases h
    ·cases h
   ·cases h
def Mid (M : Int) (b : Bd) : Prop := (-M ≤ b.lo ∧ b.lo ≤ M) ∧ -M ≤ b.hi ∧ b.hi ≤ M
theorem Mid.plus {M K : Int} {a b : Bd} (h : Mid M a) (k : Mid K b) : Mid (M + K) (plusB a b) := by
 obtain ⟨⟨h1, h2⟩, h3, h4⟩ := h;obtain ⟨⟨k1, k2⟩, k3, k4⟩ := k
 unfold plusB
 exact ⟨⟨by simp only; omega, by simp only; omega⟩, by simp only; omega, by simp only; omega⟩
theorem Mid.opp {M : Int} {a : Bd} (h : Mid M a) : Mid M (oppB a) := by
 obtain ⟨⟨h1, h2⟩, h3, h4⟩ := h
 exact ⟨⟨by show -M ≤ -a.hi; omega, by show -a.hi ≤ M; omega⟩, by show -M ≤ -a.lo; omega, by show -a.lo ≤ M; omega⟩
theorem Mid.mono {M K : Int} {a : Bd} (h : Mid M a) (hk : M ≤ K) : Mid K a := by
 obtain ⟨⟨h1, h2⟩, h3, h4⟩ := h
 exact ⟨⟨by omega, by omega⟩, by omega, by omega⟩
theorem Mid.zero {M : Int} (h : 0 ≤ M) : Mid M bd0 := ⟨⟨by show -M ≤ 0; omega, by show (0 : Int) ≤ M; omega⟩, by show -M ≤ 0; omega, by show (0 : Int) ≤ M; omega⟩
theorem QKe {k : LT} (h : ltB k = true) : Mid 100000000 (movT k) := by
 unfold ltB at h
 rw [Bool.and_eq_true, Yk, QGV] at h;obtain ⟨⟨h1, h2⟩, h3, h4, h5⟩ := h;have a := Int.mul_nonneg h1 h3;have b := Int.mul_le_mul h2 (show k.cyc.lo ≤ 100 by omega) h3 (by omega)
 have c := Int.mul_nonneg h1 (show 0 ≤ k.cyc.hi by omega)
 have d := Int.mul_le_mul h2 h5 (by omega) (by omega)
 exact ⟨⟨by show _ ≤ k.fill * k.cyc.lo; omega, by show k.fill * k.cyc.lo ≤ _; omega⟩, by show _ ≤ k.fill * k.cyc.hi; omega, by show k.fill * k.cyc.hi ≤ _; omega⟩
theorem QL8 : Mid 100000000 (movT lt0) := ⟨⟨by decide, by decide⟩, by decide, by decide⟩
theorem QIs {y : List LT} (h : ∀ k ∈ y, ltB k = true) (i : Nat) : Mid 100000000 (movT (y.getD i lt0)) := by
 by_cases hi : i < y.length
 ·exact QKe (h _ (Z1 hi lt0))
 ·have e : y.getD i lt0 = lt0 := by simp [List.getD, show y.length ≤ i by omega]
  rw [e]
  exact QL8
theorem QIl {y : List LT} (h : ∀ k ∈ y, ltB k = true) (j i : Nat) : Mid 200000000 (lkD y j i) := by
 unfold lkD
 refine (Mid.plus (M := 100000000) (K := 100000000) ?_ ?_).mono (by omega)
 ·split
  ·exact (QIs h i).opp
  ·exact Mid.zero (by omega)
 ·split
  ·exact QIs h _
  ·exact Mid.zero (by omega)
theorem QF_ {r : LR} (h : lrB r = true) : (0 ≤ r.vol ∧ r.vol ≤ 1000000000000) ∧ Mid 1000000000000 r.inf := by
 unfold lrB at h
 rw [Bool.and_eq_true, Bool.and_eq_true, Yk, Yk, QGV] at h
 exact ⟨h.1.1, ⟨⟨by omega, by omega⟩, by omega, by omega⟩⟩
theorem QGb {x : List LR} {y : List LT} {days : Int} (h : ChOk x y days) {i : Nat} (hi : i < x.length) : ∀ (d : Nat), Mid (1000000000000 + d * 1000200000000) (volD x y i d)
 | 0 => by
  have := (QF_ (h.lr _ (Z1 hi lr0))).1;rw [QFK]
  exact ⟨⟨by simp only; omega, by simp only; omega⟩, by simp only; omega, by simp only; omega⟩
 | d + 1 => by
  rw [QFL]
  exact (((QGb h hi d).plus (QF_ (h.lr _ (Z1 hi lr0))).2).plus (QIl h.lt y.length i)).mono (by omega)
theorem QIj {x : List LR} {y : List LT} {days : Int} (h : ChOk x y days) {i d : Nat} (hi : i < x.length) (hd : d ≤ 60) : Mid 100000000000000 (volD x y i d) := (QGb h hi d).mono (by omega)
theorem QG6 {x : List LR} {y : List LT} {days : Int} (h : ChOk x y days) {i d : Nat} (j : Nat) (hi : i < x.length) (hd : d ≤ 60) : Mid 200000000000000 (plusB (plusB (volD x y i d) (x.getD i lr0).inf) (lkD y j i)) :=
 (((QIj h hi hd).plus (QF_ (h.lr _ (Z1 hi lr0))).2).plus (QIl h.lt j i)).mono (by omega)
section
variable {n : Nat} {σ : Sg} {w : World} {dst : Option Tmp} {ty : TypeId} {pos : String} {af : Array Edge} {g : Option (Nat × Bool)} {x y z : Operand} {at' : Array TypeId}
theorem QMM (a : Act) (_ : Env n σ a) : (execOp a.eval ⟨dst, .buildSlice 73 0 #[], ty, pos, af, g⟩).run Try.prog w = .ok (.value (.slice (some ⟨w.heap.size, 0, none⟩) 0 0)) (w.alloc (.cells #[] 67)) := by
 simp only [execOp]
 go_simp
theorem cF48 : cF 48 := fun _ _ => by simp [go_sem]
theorem QCN {b o m c k : Nat} (hx : evS σ x = some (.slice (some ⟨b, o, none⟩) m c)) (hy : evS σ y = some (.int .i64 (k : Int))) (hk : k < m) : ZJ Try.prog n σ w ⟨dst, .indexAddr 73 x y, ty, pos, af, g⟩ (.pointer (some ⟨b, o + k * 2, none⟩)) := fun a ha => by
 have k0 : (0 : Int) ≤ (k : Int) := Int.natCast_nonneg _;have k1 : (k : Int) < (m : Int) := by omega
 simp only [execOp, ha.eval hx, ha.eval hy]
 simp [go_sem, k0, k1]
theorem QMs (a : Act) (_ : Env n σ a) : (execOp a.eval ⟨dst, .alloc 69, ty, pos, af, g⟩).run Try.prog w = .ok (.value (.pointer (some ⟨w.heap.size, 0, none⟩))) (w.alloc (.cells #[.int .i64 0, .int .i64 0, .int .i64 0, .int .i64 0] 69)) := by
 simp only [execOp]
 simp [go_sem]
theorem QMg : (Try.prog.info? 69).map (·.size) = some 4 := by kernel_rfl
theorem cF49 : cF 49 := fun _ _ => by simp [go_sem]
theorem cF50 : cF 50 := fun _ _ => by simp [go_sem]
theorem QNy (a : Act) (_ : Env n σ a) : (execOp a.eval ⟨dst, .alloc 71, ty, pos, af, g⟩).run Try.prog w = .ok (.value (.pointer (some ⟨w.heap.size, 0, none⟩))) (w.alloc (.cells #[.int .i64 0, .int .i64 0, .int .i64 0] 71)) := by
 simp only [execOp]
 simp [go_sem]
theorem QNZ : (Try.prog.info? 71).map (·.size) = some 3 := by kernel_rfl
theorem cF52 : cF 52 := fun _ _ => by simp [go_sem]
theorem cF51 : cF 51 := fun _ _ => by simp [go_sem]
theorem QMN {x0 : Operand} {A0 : Option Addr} {m0 c0 : Nat} (h0 : evS σ x0 = some (.slice A0 m0 c0)) (a : Act) (ha : Env n σ a) : (execOp a.eval ⟨dst, .buildSlice 61 1 #[(0, x0)], ty, pos, af, g⟩).run Try.prog w = .ok (.value (.slice (some ⟨w.heap.size, 0, none⟩) 1 1)) (w.alloc (.cells #[.slice A0 m0 c0] 73)) := by
 simp only [execOp, List.map_toArray, List.map_cons, List.map_nil, ha.eval h0]
 go_simp
end
theorem QKG {P : Program} {w : World} {t e : TypeId} {b o m c : Nat} (ht : P.underlying t = some (.slice e)) : (binOp .eql t (.slice (some ⟨b, o, none⟩) m c) (.slice none 0 0)).run P w = .ok (.bool false) w := by
 have h : ∀ d : Nat, (Op.equalIn (d + 1) t (.slice (some ⟨b, o, none⟩) m c) (.slice none 0 0)).run P w = .ok false w := fun d => by
  simp [Op.equalIn, run_underlying ht]
 simp only [binOp]
 simp [Op.equal, Op.maxDepth, h 9999]
theorem QMw {P : Program} {n : Nat} {σ : Sg} {w : World} {dst : Option Tmp} {ty t t' e : TypeId} {pos : String} {af : Array Edge} {g : Option (Nat × Bool)} {x y : Operand} {b o m c : Nat} (ht : P.underlying t = some (.slice e)) (hx : evS σ x = some (.slice (some ⟨b, o, none⟩) m c)) (hy : evS σ y = some (.slice none 0 0)) : ZJ P n σ w ⟨dst, .binOp .eql t x y t', ty, pos, af, g⟩ (.bool false) := fun a ha => by
 simp only [execOp, ha.eval hx, ha.eval hy]
 simp [QKG ht, Result.andThen, eqGuard, ha.eval hx, ha.eval hy]
theorem EL.copy {P : Program} {n : Nat} {L : List Oper} {Q : Exit → Act → World → Prop} {rest : List Oper} {σ : Sg} {w : World} {d ty t e size bytes base B mm g : Nat} {s x : Operand} {pos : String} {af : Array Edge} (E : Elem P t e size bytes) {src : Value} {news : List Value} (hs : evS σ s = some (.slice (some ⟨g, 0, none⟩) 0 0)) (hx : evS σ x = some src)
  (hq : Blk w g e #[]) (hg : base ≤ g) (hr : Rd w B size src mm news) (h1 : ∀ u ∈ news, u.oneCell' = true) (hm : mm ≤ 1048576) (hby : bytes ≤ 1048576) (hbase : base ≤ w.heap.size) (hd : Nat.blt d n = true)
  (next : ∀ v' w', w'.ownsRow base e size v' mm news → Below w.heap.size w w' → EL P n L Q rest (ins σ d v') w') : EL P n L Q (⟨some d, .call { callee := .builtin .append, args := #[s, x], argTypes := #[t, t] }, ty, pos, af, none⟩ :: rest) σ w := fun a ha => by
 obtain ⟨v', w', h2, h3, h4⟩ := QGo (P := P) (ty := ty) E hq hg hr h1 hm hby hbase
 exact QBQ (ZX rfl _) (Z6 rfl (ha.eval hs) (ha.eval hx) h2) (next v' w' h3 h4 _ (ha.put hd _))
theorem QI4 : (Try.prog.info? 67).map (fun i => (i.zero, i.size, i.bytes)) = some (some (.agg #[.int .i64 0, .int .i64 0]), 2, 16) := by kernel_rfl
theorem QMX : Elem Try.prog 73 67 2 16 := Elem.mk' Try.underlying73 QI4 rfl (by omega)
theorem QMU : (Try.prog.info? 73).map (fun i => (i.zero, i.size, i.bytes)) = some (some (.slice none 0 0), 1, 24) := by kernel_rfl
theorem QMV : Elem Try.prog 61 73 1 24 := Elem.mk' Try.underlying61 QMU rfl (by omega)
theorem QIH {l : List Bd} {g c : Nat} {w : World} {B : Nat} (hr : Rd w B 2 (.slice (some ⟨g, 0, none⟩) l.length c) l.length (bdsC l)) (hB : B ≤ w.heap.size) (hn : l.length ≤ 1000) :
  Calls Try.prog 49 #[.slice (some ⟨g, 0, none⟩) l.length c] w fun e w' => (∃ v, e = .returned v ∧ w'.ownsRow w.heap.size 67 2 v l.length (bdsC l)) ∧ Below w.heap.size w w' := by
 have hbw := Below.refl w.heap.size w;refine EC.enter 8 Try.func49 rfl rfl rfl (EC.seq (EC.region (EL.as rfl rfl (EL.nil (EX.seq (EC.seq (EC.seq (EC.region (EL.mv rfl rfl ?_)))))))));refine EL.val (QMw Try.underlying73 rfl rfl) rfl (EL.nil (EX.seq (EC.no rfl (EC.skip (EX.seq (EC.seq (EC.region ?_)))))));have hsz := hbw.size;refine EL.newS QMM rfl ?_;intro g1 w1 q1 hb1 hg1 hl1;have bhbw_1 := Nat.le_trans hbw.size hg1;replace hbw := bo_ hbw hb1;clear hb1 hl1;have hsz2 := hbw.size;refine EL.mv rfl rfl ?_;refine EL.copy QMX rfl rfl (base := w.heap.size) q1 (Nat.le_trans hsz hg1) (hr.below (hbw.mono hB)) (QLI l) (by omega) (by omega) hbw.size rfl ?_
 intro v2 w2 ho hb2;replace hbw := bo_ hbw hb2;clear hb2;refine EL.as rfl rfl (EL.nil (EX.seq (EC.ret ?_)))
 exact EX.done (res1 rfl rfl) ⟨⟨_, rfl, ho⟩, hbw⟩
theorem QL6 (n : Nat) : (madeCells (Value.agg #[.int .i64 0, .int .i64 0]).cells (n * 2)).toList = bdsC (List.replicate n bd0) := by
 have h1 : bdsC (List.replicate n bd0) = List.replicate (n * 2) (.int .i64 0) := by
  induction n with
  | zero => rfl
  | succ n ih =>
   rw [List.replicate_succ, Nat.succ_mul, List.replicate_succ', List.replicate_succ', ← ih];have e : ∀ m, List.replicate m (Value.int .i64 0) ++ [.int .i64 0] = .int .i64 0 :: List.replicate m (.int .i64 0) := fun m => by rw [← List.replicate_succ', List.replicate_succ]
   rw [ih, e, List.cons_append, e, ← ih]
   rfl
 rw [h1]
 apply List.ext_getElem?
 intro i
 by_cases h : i < n * 2
 ·have h2 : i % 2 = 0 ∨ i % 2 = 1 := by omega
  rcases h2 with h2 | h2 <;> simp [madeCells, Value.cells, h, h2]
 ·simp [madeCells, h]
theorem EL.makeB {n : Nat} {L : List Oper} {Q : Exit → Act → World → Prop} {rest : List Oper} {σ : Sg} {w : World} {d ty base m : Nat} {x : Operand} {pos : String} {af : Array Edge} (hx : evS σ x = some (.int .i64 (m : Nat))) (hm : m ≤ 1048576) (hbase : base ≤ w.heap.size) (hd : Nat.blt d n = true)
  (next : ∀ g w', w'.ownsRow base 67 2 (.slice (some ⟨g, 0, none⟩) m m) m (bdsC (List.replicate m bd0)) → Below w.heap.size w w' → w.heap.size ≤ g → EL Try.prog n L Q rest (ins σ d (.slice (some ⟨g, 0, none⟩) m m)) w') : EL Try.prog n L Q (⟨some d, .makeSlice 73 x x, ty, pos, af, none⟩ :: rest) σ w := by
 intro a ha;obtain ⟨i0, hi, hz, hs, hb⟩ := info_parts QI4;obtain ⟨w', h1, h2, h3⟩ := run_make_full (P := Try.prog) (w := w) base 73 67 i0 (.agg #[.int .i64 0, .int .i64 0]) 2 Try.underlying73 hi hz hs .i64 .i64 m (by rw [hb]; omega) (by unfold maxLen; omega) hbase
 rw [QL6] at h2;refine QBQ (ZX rfl _) (w' := w') (v := .slice (some ⟨w.heap.size, 0, none⟩) m m) ?_ (next _ _ h2 ((Below.refl w.heap.size w).grown h3 (Nat.le_refl _) fun g h => by cases h) (Nat.le_refl _) _ (ha.put hd _))
 simp only [execOp, ha.eval hx, Sem.run_bind, h1, Result.andThen_ok]
 rfl
/-- lists of bounds of one's own -/
structure OwnLL (w : World) (base : Nat) (sl : Value) (us : List Value) (ls : List (List Bd)) : Prop where
 len : us.length = ls.length
 rd : w.ownsRow base 73 1 sl ls.length us
 row : ∀ i, i < ls.length → w.ownsRow base 67 2 (us.getD i undef) (ls.getD i []).length (bdsC (ls.getD i []))
section
variable {w w' : World} {base : Nat} {sl : Value} {us : List Value} {ls : List (List Bd)}
theorem OwnLL.below (h : OwnLL w base sl us ls) (hb : Below w.heap.size w w') : OwnLL w' base sl us ls := ⟨h.len, ZE h.rd hb (Nat.le_refl _), fun i hi => ZE (h.row i hi) hb (Nat.le_refl _)⟩
theorem OwnLL.box {g T : Nat} {cs : Array Value} (h : OwnLL w base sl us ls) (hq : Blk w g T cs) (h1 : Nat.beq T 73 = false) (h2 : Nat.beq T 67 = false) (hg : w.grownBy w' (some g)) : OwnLL w' base sl us ls := ⟨h.len, ZL h.rd hq h1 hg, fun i hi => ZL (h.row i hi) hq h2 hg⟩
theorem OwnLL.apart {g : Nat} (h : OwnLL w base sl us ls) (hg : w.heap.size ≤ g) : (∀ b, sl.ownBlock = some b → b ≠ g) ∧ ∀ i, i < ls.length → ∀ b, (us.getD i undef).ownBlock = some b → b ≠ g :=
 ⟨fun b hb => Nat.ne_of_lt (Nat.lt_of_lt_of_le (h.rd.lt b hb).2 hg), fun i hi b hb => Nat.ne_of_lt (Nat.lt_of_lt_of_le ((h.row i hi).lt b hb).2 hg)⟩
theorem OwnLL.kept {g : Nat} (h : OwnLL w base sl us ls) (hg : w.grownBy w' (some g)) (ha : (∀ b, sl.ownBlock = some b → b ≠ g) ∧ ∀ i, i < ls.length → ∀ b, (us.getD i undef).ownBlock = some b → b ≠ g) : OwnLL w' base sl us ls :=
 ⟨h.len, QAK h.rd hg (fun b hb e => ha.1 b hb (Option.some.inj e).symm), fun i hi => QAK (h.row i hi) hg (fun b hb e => ha.2 i hi b hb (Option.some.inj e).symm)⟩
end
theorem OwnLL.push {w w' : World} {base d : Nat} {sl vo v : Value} {us : List Value} {x : List LR} {y : List LT} (h : OwnLL w base sl us (QA6 x y d)) (hrd : w.ownsRow base 73 1 sl d us) (hn : w.ownsRow base 67 2 v x.length (bdsC (volL x y (d + 1)))) (ho : w'.ownsRow base 73 1 vo (d + 1) (us ++ [v])) (hg : w.grownBy w' sl.ownBlock) : OwnLL w' base vo (us ++ [v]) (QA6 x y (d + 1)) := by
 have hl := h.len;rw [Yo] at hl;refine ⟨by rw [List.length_append, Yo, hl]; rfl, by rw [Yo]; exact ho, fun i hi => ?_⟩
 rw [Yo] at hi
 by_cases e : i < d
 ·have h1 := h.row i (by rw [Yo]; exact e)
  rw [QB1 e] at h1;rw [QB1 hi, QLJ (by omega)]
  exact QAF h1 hrd rfl hg
 ·obtain rfl : i = d := by omega
  rw [QB1 hi, QBi];have e2 : (us ++ [v]).getD i undef = v := by
   have := QI7 (a := us) (b := [v]) (d := undef) (n := 0);rw [hl] at this
   exact this
  rw [e2]
  exact QAF hn hrd rfl hg
set_option maxHeartbeats 1000000 in
set_option maxRecDepth 100000 in
theorem QHd {x : List LR} {y : List LT} {vx vy : Value} {days : Int} {w : World} {B : Nat} (hx : Rd w B 4 vx x.length (lrsC x)) (hy : Rd w B 3 vy y.length (ltsC y)) (hB : B ≤ w.heap.size) (hyn : y.length ≤ 9223372036854775806) :
  Calls Try.prog 26 #[vx, vy, .int .i64 days] w fun e w' => ∃ sl us, e = .returned (.tuple #[sl, .int .i64 (chE x y days)]) ∧ (chE x y days = 0 → OwnLL w' w.heap.size sl us (QA6 x y days.toNat)) ∧ (chE x y days ≠ 0 → sl = .slice none 0 0) ∧ Below w.heap.size w w' := by
 obtain ⟨Ax, cx, rfl, _⟩ := hx.shape;obtain ⟨Ay, cy, rfl, _⟩ := hy.shape;have hbw := Below.refl w.heap.size w;refine EC.enter 102 Try.func26 rfl rfl rfl (EC.seq (EC.region (EL.as rfl rfl (EL.as rfl rfl (EL.nil (EX.seq (EC.seq (EC.seq (EC.region ?_)))))))));refine EL.mv rfl rfl (EL.mv rfl rfl (EL.mv rfl rfl (EL.call (cA3 cF48 rfl rfl rfl) rfl (QEx (hx.below (hbw.mono hB)) (hy.below (hbw.mono hB)) (Nat.le_trans hB hbw.size) hyn) ?_)))
 rintro e w1 ⟨rfl, hc1⟩
 refine ⟨_, rfl, ?_⟩;replace hbw := bo_ hbw hc1;clear hc1;refine EL.as rfl rfl (EL.nil (EX.seq (EC.seq (EC.region (EL.mv rfl rfl ?_)))))
 by_cases he : chE x y days = 0
 ·
  have hch := QHO he;have hxn := hch.n10;have hyl := hch.yl;obtain ⟨N, rfl⟩ : ∃ N : Nat, days = N := ⟨days.toNat, (Int.toNat_of_nonneg hch.days.1).symm⟩;have hN := hch.days.2;obtain ⟨n, hn⟩ : ∃ n, n = x.length := ⟨_, rfl⟩;refine EL.val (Zp (r := false) rfl rfl (decide_eq_false (by omega))) rfl ?_
  refine EL.nil (EX.seq (EC.no rfl (EC.skip (EX.seq (EC.seq (EC.region (EL.mv rfl rfl (EL.val (QEj rfl) rfl ?_))))))));refine EL.makeB (base := w.heap.size) rfl (by omega) hbw.size rfl ?_
  intro gn w2 hnw hb2 hgn;rw [← firstL_zero x y] at hnw;replace hbw := bo_ hbw hb2;clear hb2;refine EL.as rfl rfl (EL.nil (EX.seq (EC.seq (EC.seq (EC.region (EL.mv rfl rfl (EL.val (QEj rfl) rfl (EL.mv rfl rfl (EL.nil ?_)))))))));refine EX.seq (EC.block ?_);refine EC.loopD [10, 11, 28, 29, 30, 31, 32, 33, 34, 35, 36, 37, 38, 39, 40, 41] (fun k : Nat => [(28, .int .i64 (k : Nat))]) (fun k W => k ≤ x.length ∧ W.ownsRow w.heap.size 67 2 (.slice (some ⟨gn, 0, none⟩) x.length x.length) x.length (bdsC (firstL x y k)) ∧ Below w.heap.size w W) (fun k => x.length - k) 0 ⟨Nat.zero_le _, hnw, hbw⟩ ⟨rfl, trivial⟩ ?_
  clear hnw hbw
  rintro k wk ⟨hk, hnw, hbw⟩
  by_cases hltk : k < x.length
  ·
   obtain ⟨b, o, rfl, _, cc⟩ := QCD x k hltk w B _ _ _ hx;refine EC.seq (EC.region ?_);refine EL.val (ZS (r := true) rfl rfl (decide_eq_true (by omega))) rfl ?_
   refine EL.nil (EX.seq (EC.seq (EC.yes rfl (EC.skip (EX.seq (EC.seq (EC.block (EC.seq (EC.region ?_)))))))));refine EL.mv rfl rfl (EL.val (QIo rfl rfl hltk) rfl (EL.val (QKm rfl (ZB hbw cc.c0) (ZB hbw cc.c1) (ZB hbw cc.c2) (ZB hbw cc.c3)) rfl (EL.newP QMs rfl ?_)));intro g3 w3 q3 hb3 hg3 hl3;have bhbw_3 := Nat.le_trans hbw.size hg3;replace hnw := ZE hnw hb3 (Nat.le_refl _);replace hbw := bo_ hbw hb3;clear hb3 hg3 hl3;refine EL.as rfl rfl (EL.store rfl rfl q3 QMg rfl rfl rfl rfl ?_);intro w4 hq4 hg4;replace hnw := ZL hnw q3 rfl hg4;replace hbw := ZD hbw hg4 bhbw_3;replace q3 := hq4;clear hg4 hq4;refine EL.nil (EX.seq (EC.region (EL.mv rfl rfl (EL.mv rfl rfl (EL.val (QGI rfl) rfl (EL.val (ld_3 rfl (q3.at (j := 0) rfl)) rfl (EL.val (QGI rfl) rfl (EL.val (ld_3 rfl (q3.at (j := 0) rfl)) rfl (EL.val (Y3 rfl rfl) rfl ?_)))))))));refine EL.val (QCN rfl rfl hltk) rfl ?_;refine EL.storeRow (l' := [.int .i64 (x.getD k lr0).vol, .int .i64 (x.getD k lr0).vol]) rfl rfl hnw QDd rfl rfl (by rw [QDP, QEu]; omega) rfl ?_
   intro w5 ho2 hgr;rw [Nat.zero_add] at ho2;replace ho2 := QBM ho2 (QBI QCH _ _ (by rw [QEu]; omega) ⟨(x.getD k lr0).vol, (x.getD k lr0).vol⟩)
   rw [← QFK x y k, QHH hltk] at ho2;replace q3 := q3.grown hgr (fun h => QDz hnw q3 rfl (Option.some.inj h))
   replace hbw := hbw.trans (ZI hnw hgr hbw.size);clear hnw hgr;have hnw := ho2;clear ho2;refine EL.nil (EX.blk (EX.seq (EC.region ?_)));refine EL.val (ZP rfl rfl (c := ((k + 1 : Nat) : Int)) ((IntWalk.i64_in _ ⟨by first | omega | (simp only; omega), by first | omega | (simp only; omega)⟩).trans (by first | omega | (simp only; omega)))) rfl ?_
   refine EL.mv rfl rfl (EL.nil ?_);refine EX.roundD (k + 1) ⟨rfl, trivial⟩ (by repeat first | with_reducible exact .refl _ | refine sp_ rfl ?_ | exact .refl _ | refine sd_ rfl ?_ | refine sn_ ?_) ⟨hltk, hnw, hbw⟩ (by omega)
  ·
   obtain rfl : k = x.length := by omega
   rw [QH3] at hnw;refine EC.seq (EC.region ?_);refine EL.val (ZS (r := false) rfl rfl (decide_eq_false (by omega))) rfl ?_
   refine EL.nil (EX.seq (EC.seq (EC.no rfl (EC.exit (EX.seq_exit (EX.seq_exit (EX.blk_here (EX.seq (EC.seq ?_)))))))));refine EC.seq (EC.region (EL.mv rfl rfl (EL.mv rfl rfl (EL.nil (EX.seq (EC.block ?_))))));have hout : OwnLL wk w.heap.size (.slice none 0 0) [] (QA6 x y 0) := ⟨rfl, Y9 _ _ _ _, fun i hi => absurd hi (Nat.not_lt_zero i)⟩
   refine EC.loopD [6, 9, 12, 13, 14, 15, 43, 44, 45, 46, 47, 48, 49, 50, 51, 52, 53, 54, 55, 56, 57, 58, 59, 60, 61, 62, 63, 64, 65, 66, 67, 68, 69, 70, 71, 72, 73, 74, 75, 76, 77, 78, 79, 80, 81, 82, 83, 84, 85, 86, 87, 88, 89, 90, 91, 92, 93, 94, 95, 96, 97, 98, 99, 100] (fun x_ : Nat × Value × Value × List Value => [(43, .int .i64 (x_.1 : Nat)), (9, x_.2.1), (6, x_.2.2.1)]) (fun x_ W => x_.1 ≤ N ∧ W.ownsRow w.heap.size 67 2 (x_.2.1) x.length (bdsC (volL x y x_.1)) ∧ OwnLL W w.heap.size x_.2.2.1 x_.2.2.2 (QA6 x y x_.1) ∧ Below w.heap.size w W) (fun x_ => N - x_.1) (0, .slice (some ⟨gn, 0, none⟩) x.length x.length, .slice none 0 0, []) ⟨Nat.zero_le _, hnw, hout, hbw⟩ ⟨rfl, rfl, rfl, trivial⟩ ?_
   clear hnw hout hbw
   rintro ⟨dd, vn, so, us⟩ wk ⟨hk, hnw, hout, hbw⟩
   dsimp only at hk hnw hout
   obtain ⟨gv, cv, rfl⟩ := Z_ hnw (by omega)
   by_cases hltd : dd < N
   ·
    refine EC.seq (EC.region ?_);refine EL.val (ZS (r := true) rfl rfl (decide_eq_true (by omega))) rfl ?_
    refine EL.nil (EX.seq (EC.seq (EC.yes rfl (EC.skip (EX.seq (EC.seq (EC.block (EC.seq (EC.region ?_)))))))));refine EL.mv rfl rfl ?_;have hrv := Rd.of_own hnw;have hvl := QBi x y dd;rw [← hvl] at hrv;refine EL.call (cA1 cF49 rfl) rfl (by have h_ := QIH hrv (Nat.le_refl _) (by omega); rw [hvl] at h_; exact h_) ?_
    rintro e w6 ⟨⟨v9, rfl, hnc⟩, hc6⟩
    refine ⟨_, rfl, ?_⟩;obtain ⟨gc, cc9, rfl⟩ := Z_ hnc (by omega)
    have hgc := (hnc.lt _ rfl).1;have hap := hout.apart hgc;replace hnc := Yh hnc hbw.size;rw [← QJb] at hnc;clear hrv;replace hout := hout.below hc6;replace hbw := bo_ hbw hc6;clear hc6 hnw;refine EL.as rfl rfl (EL.nil (EX.seq (EC.seq (EC.seq (EC.region (EL.mv rfl rfl (EL.val (QEj rfl) rfl (EL.mv rfl rfl (EL.nil ?_)))))))));refine EX.seq (EC.block ?_);refine EC.loopD [12, 13, 49, 50, 51, 52, 53, 54, 55, 56, 57, 58, 59, 60, 61, 62, 63, 64] (fun k : Nat => [(49, .int .i64 (k : Nat))]) (fun k W => k ≤ x.length ∧ W.ownsRow w.heap.size 67 2 (.slice (some ⟨gc, 0, none⟩) x.length cc9) x.length (bdsC (infL x y dd k)) ∧ OwnLL W w.heap.size so us (QA6 x y dd) ∧ Below w.heap.size w W) (fun k => x.length - k) 0 ⟨Nat.zero_le _, hnc, hout, hbw⟩ ⟨rfl, trivial⟩ ?_
    clear hnc hout hbw
    rintro k wj49 ⟨hkj, hnc, hout, hbw⟩
    by_cases hltk : k < x.length
    ·
     obtain ⟨b, o, rfl, _, cc⟩ := QCD x k hltk w B _ _ _ hx;have hm1 := (QIj hch hltk (show dd ≤ 60 by omega)).mono (show (100000000000000 : Int) ≤ 1000000000000000 by omega)
     have hm2 := (QF_ (hch.lr _ (Z1 hltk lr0))).2.mono (show (1000000000000 : Int) ≤ 1000000000000000 by omega)
     refine EC.seq (EC.region ?_);refine EL.val (ZS (r := true) rfl rfl (decide_eq_true (by omega))) rfl ?_
     refine EL.nil (EX.seq (EC.seq (EC.yes rfl (EC.skip (EX.seq (EC.seq (EC.block (EC.seq (EC.region ?_)))))))));refine EL.mv rfl rfl (EL.val (QIo rfl rfl hltk) rfl (EL.val (QKm rfl (ZB hbw cc.c0) (ZB hbw cc.c1) (ZB hbw cc.c2) (ZB hbw cc.c3)) rfl (EL.newP QMs rfl ?_)));intro g7 w7 q7 hb7 hg7 hl7;have bhbw_7 := Nat.le_trans hbw.size hg7;replace hnc := ZE hnc hb7 (Nat.le_refl _);replace hout := hout.below hb7;replace hbw := bo_ hbw hb7;clear hb7 hg7 hl7;refine EL.as rfl rfl (EL.store rfl rfl q7 QMg rfl rfl rfl rfl ?_);intro w8 hq8 hg8;replace hnc := ZL hnc q7 rfl hg8;replace hout := hout.box q7 rfl rfl hg8;replace hbw := ZD hbw hg8 bhbw_7;replace q7 := hq8;clear hg8 hq8;refine EL.nil (EX.seq ?_);obtain ⟨bn, on, eb_, _, cn⟩ := QAd _ k (by rw [QEn]; exact hltk) _ _ _ _ _ (Rd.of_own hnc)
     injection eb_ with eb_
     injection eb_ with eb1_ eb2_
     subst eb1_ eb2_;rw [QMB hltk] at cn;have lt_7 := q7.lt;refine EC.regionP [[], [], [], [], [2, 3], [2, 3, 4], [], [6], [2, 3, 4, 5, 6, 7], [0, 1, 2, 3, 4, 5, 6, 7, 8], [0, 1, 2, 3, 4, 5, 6, 7, 8, 9]] 9 [] (phi (fun i_ r => match i_ with | 0 => r 0 = .slice (some ⟨gc, 0, none⟩) x.length cc9 | 1 => r 1 = .int .i64 (k : Nat) | 2 => r 2 = .slice (some ⟨gc, 0, none⟩) x.length cc9 | 3 => r 3 = .int .i64 (k : Nat) | 4 => r 4 = .pointer (some ⟨gc, 0 + k * 2, none⟩) | 5 => r 5 = .agg #[.int .i64 ((volD x y k dd)).lo, .int .i64 ((volD x y k dd)).hi] | 6 => r 6 = .pointer (some ⟨g7, 2, none⟩) | 7 => r 7 = .agg #[.int .i64 (x.getD k lr0).inf.lo, .int .i64 (x.getD k lr0).inf.hi] | 8 => r 8 = .agg #[.int .i64 (plusB (volD x y k dd) (x.getD k lr0).inf).lo, .int .i64 (plusB (volD x y k dd) (x.getD k lr0).inf).hi] | _ => True) []) (by kernel_rfl) rfl rfl (YT) (fun i_ hi_ => ?_) ?_
     ·match i_, hi_ with
      | 0, _ =>
       intro val w1 a hb ha hd;have ha := ha.s0 (d := 9) rfl
       exact ZH ha rfl rfl (x_move rfl) rfl rfl
      | 1, _ =>
       intro val w1 a hb ha hd;have ha := ha.s0 (d := 12) rfl
       exact ZH ha rfl rfl (x_move rfl) rfl rfl
      | 2, _ =>
       intro val w1 a hb ha hd;have ha := ha.s0 (d := 9) rfl
       exact ZH ha rfl rfl (x_move rfl) rfl rfl
      | 3, _ =>
       intro val w1 a hb ha hd;have ha := ha.s0 (d := 12) rfl
       exact ZH ha rfl rfl (x_move rfl) rfl rfl
      | 4, _ =>
       intro val w1 a hb ha hd;have e2 : val 2 = _ := hd 2 (ZA.1 rfl);have e3 : val 3 = _ := hd 3 (ZA.1 rfl);have ha := ha.s2 (d := 57) (e := 56) rfl e3 rfl e2
       exact ZH ha rfl rfl (QCN rfl rfl hltk) rfl rfl
      | 5, _ =>
       intro val w1 a hb ha hd;have e4 : val 4 = _ := hd 4 (ZA.1 rfl);have ha := ha.s1 (d := 58) rfl e4
       exact ZH ha rfl rfl (QC1 rfl (ZB hb cn.c0) (ZB hb cn.c1)) rfl rfl
      | 6, _ =>
       intro val w1 a hb ha hd;have ha := ha.s0 (d := 13) rfl
       exact ZH ha rfl rfl (QIt rfl) rfl rfl
      | 7, _ =>
       intro val w1 a hb ha hd;have e6 : val 6 = _ := hd 6 (ZA.1 rfl);have ha := ha.s1 (d := 60) rfl e6
       exact ZH ha rfl rfl (QC1 rfl ((q7.below hb q7.lt).at (j := 2) rfl) ((q7.below hb q7.lt).at (j := 3) rfl)) rfl rfl
      | 8, _ =>
       intro val w1 a hb ha hd;have e5 : val 5 = _ := hd 5 (ZA.1 rfl);have e7 : val 7 = _ := hd 7 (ZA.1 rfl);have ha := ha.s2 (d := 61) (e := 59) rfl e7 rfl e5;refine Yl ha rfl rfl (cA2 cF50 rfl rfl) (QEZ (volD x y k dd) (x.getD k lr0).inf _ hm1.1 hm1.2 hm2.1 hm2.2) rfl ?_
       rintro e w' ⟨rfl, hb'⟩
       exact ⟨_, rfl, hb', rfl⟩
      | k + 9, h => exact absurd h (by omega)
     ·intro val wR16 hb halc hd
      have e0 : val 0 = _ := hd 0 (by omega)
      have e1 : val 1 = _ := hd 1 (by omega)
      have e2 : val 2 = _ := hd 2 (by omega)
      have e3 : val 3 = _ := hd 3 (by omega)
      have e4 : val 4 = _ := hd 4 (by omega)
      have e5 : val 5 = _ := hd 5 (by omega)
      have e6 : val 6 = _ := hd 6 (by omega)
      have e7 : val 7 = _ := hd 7 (by omega)
      have e8 : val 8 = _ := hd 8 (by omega)
      refine EL.ends (cs := [_, _, _, _, _, _, _, _, _]) ⟨e0, e1, e2, e3, e4, e5, e6, e7, e8, trivial⟩ rfl ?_;replace q7 := q7.bl hb;replace hnc := ZE hnc hb (Nat.le_refl _);replace hout := hout.below hb;replace hbw := bo_ hbw hb;clear hb;refine EL.val (QCN rfl rfl hltk) rfl ?_;refine EL.storeRow (l' := [.int .i64 (plusB (volD x y k dd) (x.getD k lr0).inf).lo, .int .i64 (plusB (volD x y k dd) (x.getD k lr0).inf).hi]) rfl rfl hnc QDd rfl rfl (by rw [QDP, QEn]; omega) rfl ?_
      intro w9 ho2 hgr;rw [Nat.zero_add] at ho2;replace ho2 := QBM ho2 (QBI QCH _ _ (by rw [QEn]; omega) (plusB (volD x y k dd) (x.getD k lr0).inf))
      rw [QJc hltk] at ho2;replace hout := hout.kept hgr hap;replace q7 := q7.grown hgr (fun h => QDz hnc q7 rfl (Option.some.inj h))
      replace hbw := hbw.trans (ZI hnc hgr hbw.size);clear hnc hgr;have hnc := ho2;clear ho2;refine EL.nil (EX.blk (EX.seq (EC.region ?_)));refine EL.val (ZP rfl rfl (c := ((k + 1 : Nat) : Int)) ((IntWalk.i64_in _ ⟨by first | omega | (simp only; omega), by first | omega | (simp only; omega)⟩).trans (by first | omega | (simp only; omega)))) rfl ?_
      refine EL.mv rfl rfl (EL.nil ?_);refine EX.roundD (k + 1) ⟨rfl, trivial⟩ (by repeat first | with_reducible exact .refl _ | refine sp_ rfl ?_ | exact .refl _ | refine sd_ rfl ?_ | refine sn_ ?_) ⟨hltk, hnc, hout, hbw⟩ (by omega)
    ·
     obtain rfl : k = x.length := by omega
     rw [QKu] at hnc;refine EC.seq (EC.region ?_);refine EL.val (ZS (r := false) rfl rfl (decide_eq_false (by omega))) rfl ?_
     refine EL.nil (EX.seq (EC.seq (EC.no rfl (EC.exit (EX.seq_exit (EX.seq_exit (EX.blk_here (EX.seq (EC.seq ?_)))))))));refine EC.seq (EC.region (EL.mv rfl rfl (EL.val (QKg rfl) rfl (EL.mv rfl rfl (EL.nil (EX.seq (EC.block ?_)))))));refine EC.loopD [14, 15, 67, 68, 69, 70, 71, 72, 73, 74, 75, 76, 77, 78, 79, 80, 81, 82, 83, 84, 85, 86, 87, 88, 89, 90, 91, 92, 93, 94, 95] (fun k : Nat => [(67, .int .i64 (k : Nat))]) (fun k W => k ≤ y.length ∧ W.ownsRow w.heap.size 67 2 (.slice (some ⟨gc, 0, none⟩) x.length cc9) x.length (bdsC (lockL x y dd k)) ∧ OwnLL W w.heap.size so us (QA6 x y dd) ∧ Below w.heap.size w W) (fun k => y.length - k) 0 ⟨Nat.zero_le _, hnc, hout, hbw⟩ ⟨rfl, trivial⟩ ?_
     clear hnc hout hbw
     rintro k wj67 ⟨hkj, hnc, hout, hbw⟩
     by_cases hltk : k < y.length
     ·
      obtain ⟨b, o, rfl, _, cc⟩ := QFa y k hltk w B _ _ _ hy;obtain ⟨bn, on, eb_, _, cn⟩ := QAd _ k (by rw [Y0]; omega) _ _ _ _ _ (Rd.of_own hnc)
      injection eb_ with eb_
      injection eb_ with eb1_ eb2_
      subst eb1_ eb2_;obtain ⟨bm, om, eb_, _, cm⟩ := QAd _ (k + 1) (by rw [Y0]; omega) _ _ _ _ _ (Rd.of_own hnc)
      injection eb_ with eb_
      injection eb_ with eb1_ eb2_
      subst eb1_ eb2_;have hlt := hch.lt _ (Z1 hltk lt0);have hs1 := QHz (x := x) (y := y) (d := dd) (j := k) (by omega)
      have hm1 := (QG6 hch k (show k < x.length by omega) (show dd ≤ 60 by omega)).mono (show (200000000000000 : Int) ≤ 1000000000000000 by omega)
      rw [← QCz (by omega)] at hm1
      have hm2 := (QG6 hch k (show k + 1 < x.length by omega) (show dd ≤ 60 by omega)).mono (show (200000000000000 : Int) ≤ 1000000000000000 by omega)
      rw [← QCz (by omega)] at hm2
      have hm3 := (QKe hlt).mono (show (100000000 : Int) ≤ 1000000000000000 by omega)
      have hm4 := hm3.opp;obtain ⟨V1, hV1⟩ : ∃ V1, (lockL x y dd k).getD k bd0 = V1 := ⟨_, rfl⟩;obtain ⟨V2, hV2⟩ : ∃ V2, (lockL x y dd k).getD (k + 1) bd0 = V2 := ⟨_, rfl⟩;rw [hV1] at hm1 cn hs1;rw [hV2] at hm2 cm hs1
      generalize y.getD k lt0 = kk at *
      refine EC.seq (EC.region ?_);refine EL.val (ZS (r := true) rfl rfl (decide_eq_true (by omega))) rfl ?_
      refine EL.nil (EX.seq (EC.seq (EC.yes rfl (EC.skip (EX.seq (EC.seq (EC.block (EC.seq (EC.region ?_)))))))));refine EL.mv rfl rfl (EL.val (QMo rfl rfl hltk) rfl (EL.val (QIn rfl (ZB hbw cc.c0) (ZB hbw cc.c1) (ZB hbw cc.c2)) rfl (EL.newP QNy rfl ?_)));intro g10 w10 q10 hb10 hg10 hl10;have bhbw_10 := Nat.le_trans hbw.size hg10;replace hnc := ZE hnc hb10 (Nat.le_refl _);replace hout := hout.below hb10;replace hbw := bo_ hbw hb10;clear hb10 hg10 hl10;refine EL.as rfl rfl (EL.store rfl rfl q10 QNZ rfl rfl rfl rfl ?_);intro w11 hq11 hg11;replace hnc := ZL hnc q10 rfl hg11;replace hout := hout.box q10 rfl rfl hg11;replace hbw := ZD hbw hg11 bhbw_10;replace q10 := hq11;clear hg11 hq11;refine EL.nil (EX.seq ?_);have nr10_nw : g10 ≠ gc := QDz hnc q10 rfl;have lb_nw : w.heap.size ≤ gc := (hnc.lt _ rfl).1;refine EC.regionS [[], [], [], [], [3], [], [], [5, 6], [5, 6, 7], [], [9], [9, 10], [5, 6, 7, 8, 9, 10, 11], [], [], [14], [13, 14, 15], [13, 14, 15, 16], [], [5, 6, 7, 8, 9, 10, 11, 12, 18], [5, 6, 7, 8, 9, 10, 11, 12, 13, 14, 15, 16, 17, 18, 19], [0, 1, 5, 6, 7, 8, 9, 10, 11, 12, 13, 14, 15, 16, 17, 18, 19, 20], [0, 1, 5, 6, 7, 8, 9, 10, 11, 12, 13, 14, 15, 16, 17, 18, 19, 20, 21], [0, 1, 2, 3, 4, 5, 6, 7, 8, 9, 10, 11, 12, 13, 14, 15, 16, 17, 18, 19, 20, 21, 22], [0, 1, 2, 3, 4, 5, 6, 7, 8, 9, 10, 11, 12, 13, 14, 15, 16, 17, 18, 19, 20, 21, 22, 23]] 23 [] [22] (fun fl w_ => Touch w11 w_ [gc] ∧ (fl 22 = false → w_.ownsRow w.heap.size 67 2 (.slice (some ⟨gc, 0, none⟩) x.length cc9) x.length (bdsC (lockL x y dd k)))) (phiS (fun i_ r => match i_ with | 0 => r 0 = .slice (some ⟨gc, 0, none⟩) x.length cc9 | 1 => r 1 = .int .i64 (k : Nat) | 2 => r 2 = .slice (some ⟨gc, 0, none⟩) x.length cc9 | 3 => r 3 = .int .i64 (k : Nat) | 4 => r 4 = .int .i64 ((k + 1) : Nat) | 5 => r 5 = .slice (some ⟨gc, 0, none⟩) x.length cc9 | 6 => r 6 = .int .i64 (k : Nat) | 7 => r 7 = .pointer (some ⟨gc, 0 + k * 2, none⟩) | 8 => r 8 = .agg #[.int .i64 (V1).lo, .int .i64 (V1).hi] | 9 => r 9 = .agg #[.int .i64 kk.fill, .int .i64 kk.cyc.lo, .int .i64 kk.cyc.hi] | 10 => r 10 = .agg #[.int .i64 ((movT kk)).lo, .int .i64 ((movT kk)).hi] | 11 => r 11 = .agg #[.int .i64 (oppB (movT kk)).lo, .int .i64 (oppB (movT kk)).hi] | 12 => r 12 = .agg #[.int .i64 (plusB V1 (oppB (movT kk))).lo, .int .i64 (plusB V1 (oppB (movT kk))).hi] | 13 => r 13 = .slice (some ⟨gc, 0, none⟩) x.length cc9 | 14 => r 14 = .int .i64 (k : Nat) | 15 => r 15 = .int .i64 ((k + 1) : Nat) | 16 => r 16 = .pointer (some ⟨gc, 0 + (k + 1) * 2, none⟩) | 17 => r 17 = .agg #[.int .i64 (V2).lo, .int .i64 (V2).hi] | 18 => r 18 = .agg #[.int .i64 kk.fill, .int .i64 kk.cyc.lo, .int .i64 kk.cyc.hi] | 19 => r 19 = .agg #[.int .i64 ((movT kk)).lo, .int .i64 ((movT kk)).hi] | 20 => r 20 = .agg #[.int .i64 (plusB V2 (movT kk)).lo, .int .i64 (plusB V2 (movT kk)).hi] | 21 => r 21 = .pointer (some ⟨gc, 0 + k * 2, none⟩) | _ => True) [(22, fun fl _ w_ => fl 22 = true ∧ w_.ownsRow w.heap.size 67 2 (.slice (some ⟨gc, 0, none⟩) x.length cc9) x.length (bdsC ((lockL x y dd k).set k (plusB V1 (oppB (movT kk))))))]) (by kernel_rfl) rfl rfl (by intro i hi; simp at hi; rcases hi with rfl <;> exact ⟨by simp, by omega⟩) ⟨fun _ _ => ⟨Touch.start _ _, fun _ => QCA hnc 1⟩, fun _ _ _ ⟨hT, hA0_⟩ hb => ⟨hT.below hb, fun h => ZE (hA0_ h) hb (Nat.le_refl _)⟩, fun _ _ h => h.1.size⟩ (ZK (fun _ _ _ _ hb ⟨h1, h2⟩ => ⟨h1, ZE h2 hb (Nat.le_refl _)⟩) (Zb)) (fun i_ hi_ hs_ => ?_) (fun i_ hi_ => ?_) ?_
      ·match i_, hi_ with
       | 0, _ =>
        intro val fl w1 a hb ha hd hfl;obtain ⟨hT, hA0_⟩ := hb;have ha := ha.s0 (d := 9) rfl
        exact ZC ha rfl rfl (x_move rfl) rfl rfl
       | 1, _ =>
        intro val fl w1 a hb ha hd hfl;obtain ⟨hT, hA0_⟩ := hb;have ha := ha.s0 (d := 14) rfl
        exact ZC ha rfl rfl (x_move rfl) rfl rfl
       | 2, _ =>
        intro val fl w1 a hb ha hd hfl;obtain ⟨hT, hA0_⟩ := hb;have ha := ha.s0 (d := 9) rfl
        exact ZC ha rfl rfl (x_move rfl) rfl rfl
       | 3, _ =>
        intro val fl w1 a hb ha hd hfl;obtain ⟨hT, hA0_⟩ := hb;have ha := ha.s0 (d := 14) rfl
        exact ZC ha rfl rfl (x_move rfl) rfl rfl
       | 4, _ =>
        intro val fl w1 a hb ha hd hfl;obtain ⟨hT, hA0_⟩ := hb;have e3 : val 3 = _ := hd 3 (ZA.1 rfl);have ha := ha.s1 (d := 75) rfl e3
        exact ZC ha rfl rfl (ZP rfl rfl (c := ((k + 1 : Nat) : Int)) ((IntWalk.i64_in _ ⟨by first | omega | (simp only; omega), by first | omega | (simp only; omega)⟩).trans (by first | omega | (simp only; omega)))) rfl rfl
       | 5, _ =>
        intro val fl w1 a hb ha hd hfl;obtain ⟨hT, hA0_⟩ := hb;have ha := ha.s0 (d := 9) rfl
        exact ZC ha rfl rfl (x_move rfl) rfl rfl
       | 6, _ =>
        intro val fl w1 a hb ha hd hfl;obtain ⟨hT, hA0_⟩ := hb;have ha := ha.s0 (d := 14) rfl
        exact ZC ha rfl rfl (x_move rfl) rfl rfl
       | 7, _ =>
        intro val fl w1 a hb ha hd hfl;obtain ⟨hT, hA0_⟩ := hb;have e5 : val 5 = _ := hd 5 (ZA.1 rfl);have e6 : val 6 = _ := hd 6 (ZA.1 rfl);have ha := ha.s2 (d := 78) (e := 77) rfl e6 rfl e5
        exact ZC ha rfl rfl (QCN rfl rfl (show k < x.length by omega)) rfl rfl
       | 8, _ =>
        intro val fl w1 a hb ha hd hfl;obtain ⟨hT, hA0_⟩ := hb;have e7 : val 7 = _ := hd 7 (ZA.1 rfl);have ha := ha.s1 (d := 79) rfl e7;have hr0 := hA0_ (hfl 22 (by simp) (ZA.1 rfl))
        exact ZC ha rfl rfl (by obtain ⟨b_, o_, e_, _, c_⟩ := QAd _ (k) (by rw [Y0]; omega) _ _ _ _ _ (Rd.of_own hr0); injection e_ with e_; injection e_ with e1_ e2_; subst e1_ e2_; rw [hV1] at c_; exact QC1 rfl c_.c0 c_.c1) rfl rfl
       | 9, _ =>
        intro val fl w1 a hb ha hd hfl;obtain ⟨hT, hA0_⟩ := hb;have ha := ha.s0 (d := 15) rfl
        exact ZC ha rfl rfl (QIn rfl ((q10.touch hT (by simp only [List.mem_cons, List.not_mem_nil, or_false, not_or]; exact nr10_nw)).at (j := 0) rfl) ((q10.touch hT (by simp only [List.mem_cons, List.not_mem_nil, or_false, not_or]; exact nr10_nw)).at (j := 1) rfl) ((q10.touch hT (by simp only [List.mem_cons, List.not_mem_nil, or_false, not_or]; exact nr10_nw)).at (j := 2) rfl)) rfl rfl
       | 10, _ =>
        intro val fl w1 a hb ha hd hfl;obtain ⟨hT, hA0_⟩ := hb;have e9 : val 9 = _ := hd 9 (ZA.1 rfl);have ha := ha.s1 (d := 81) rfl e9;refine Yc ha rfl rfl (cA1 cF52 rfl) (QFW kk _ hlt) rfl ?_
        rintro e w' ⟨rfl, hb'⟩
        exact ⟨_, rfl, hb', rfl⟩
       | 11, _ =>
        intro val fl w1 a hb ha hd hfl;obtain ⟨hT, hA0_⟩ := hb;have e10 : val 10 = _ := hd 10 (ZA.1 rfl);have ha := ha.s1 (d := 82) rfl e10;refine Yc ha rfl rfl (cA1 cF51 rfl) (QF5 (movT kk) _ hm3.1 hm3.2) rfl ?_
        rintro e w' ⟨rfl, hb'⟩
        exact ⟨_, rfl, hb', rfl⟩
       | 12, _ =>
        intro val fl w1 a hb ha hd hfl;obtain ⟨hT, hA0_⟩ := hb;have e8 : val 8 = _ := hd 8 (ZA.1 rfl);have e11 : val 11 = _ := hd 11 (ZA.1 rfl);have ha := ha.s2 (d := 83) (e := 80) rfl e11 rfl e8;refine Yc ha rfl rfl (cA2 cF50 rfl rfl) (QEZ V1 (oppB (movT kk)) _ hm1.1 hm1.2 hm4.1 hm4.2) rfl ?_
        rintro e w' ⟨rfl, hb'⟩
        exact ⟨_, rfl, hb', rfl⟩
       | 13, _ =>
        intro val fl w1 a hb ha hd hfl;obtain ⟨hT, hA0_⟩ := hb;have ha := ha.s0 (d := 9) rfl
        exact ZC ha rfl rfl (x_move rfl) rfl rfl
       | 14, _ =>
        intro val fl w1 a hb ha hd hfl;obtain ⟨hT, hA0_⟩ := hb;have ha := ha.s0 (d := 14) rfl
        exact ZC ha rfl rfl (x_move rfl) rfl rfl
       | 15, _ =>
        intro val fl w1 a hb ha hd hfl;obtain ⟨hT, hA0_⟩ := hb;have e14 : val 14 = _ := hd 14 (ZA.1 rfl);have ha := ha.s1 (d := 86) rfl e14
        exact ZC ha rfl rfl (ZP rfl rfl (c := ((k + 1 : Nat) : Int)) ((IntWalk.i64_in _ ⟨by first | omega | (simp only; omega), by first | omega | (simp only; omega)⟩).trans (by first | omega | (simp only; omega)))) rfl rfl
       | 16, _ =>
        intro val fl w1 a hb ha hd hfl;obtain ⟨hT, hA0_⟩ := hb;have e13 : val 13 = _ := hd 13 (ZA.1 rfl);have e15 : val 15 = _ := hd 15 (ZA.1 rfl);have ha := ha.s2 (d := 87) (e := 85) rfl e15 rfl e13
        exact ZC ha rfl rfl (QCN rfl rfl (show k + 1 < x.length by omega)) rfl rfl
       | 17, _ =>
        intro val fl w1 a hb ha hd hfl;obtain ⟨hT, hA0_⟩ := hb;have e16 : val 16 = _ := hd 16 (ZA.1 rfl);have ha := ha.s1 (d := 88) rfl e16;have hr0 := hA0_ (hfl 22 (by simp) (ZA.1 rfl))
        exact ZC ha rfl rfl (by obtain ⟨b_, o_, e_, _, c_⟩ := QAd _ (k + 1) (by rw [Y0]; omega) _ _ _ _ _ (Rd.of_own hr0); injection e_ with e_; injection e_ with e1_ e2_; subst e1_ e2_; rw [hV2] at c_; exact QC1 rfl c_.c0 c_.c1) rfl rfl
       | 18, _ =>
        intro val fl w1 a hb ha hd hfl;obtain ⟨hT, hA0_⟩ := hb;have ha := ha.s0 (d := 15) rfl
        exact ZC ha rfl rfl (QIn rfl ((q10.touch hT (by simp only [List.mem_cons, List.not_mem_nil, or_false, not_or]; exact nr10_nw)).at (j := 0) rfl) ((q10.touch hT (by simp only [List.mem_cons, List.not_mem_nil, or_false, not_or]; exact nr10_nw)).at (j := 1) rfl) ((q10.touch hT (by simp only [List.mem_cons, List.not_mem_nil, or_false, not_or]; exact nr10_nw)).at (j := 2) rfl)) rfl rfl
       | 19, _ =>
        intro val fl w1 a hb ha hd hfl;obtain ⟨hT, hA0_⟩ := hb;have e18 : val 18 = _ := hd 18 (ZA.1 rfl);have ha := ha.s1 (d := 90) rfl e18;refine Yc ha rfl rfl (cA1 cF52 rfl) (QFW kk _ hlt) rfl ?_
        rintro e w' ⟨rfl, hb'⟩
        exact ⟨_, rfl, hb', rfl⟩
       | 20, _ =>
        intro val fl w1 a hb ha hd hfl;obtain ⟨hT, hA0_⟩ := hb;have e17 : val 17 = _ := hd 17 (ZA.1 rfl);have e19 : val 19 = _ := hd 19 (ZA.1 rfl);have ha := ha.s2 (d := 91) (e := 89) rfl e19 rfl e17;refine Yc ha rfl rfl (cA2 cF50 rfl rfl) (QEZ V2 (movT kk) _ hm2.1 hm2.2 hm3.1 hm3.2) rfl ?_
        rintro e w' ⟨rfl, hb'⟩
        exact ⟨_, rfl, hb', rfl⟩
       | 21, _ =>
        intro val fl w1 a hb ha hd hfl;obtain ⟨hT, hA0_⟩ := hb;have e0 : val 0 = _ := hd 0 (ZA.1 rfl);have e1 : val 1 = _ := hd 1 (ZA.1 rfl);have ha := ha.s2 (d := 73) (e := 72) rfl e1 rfl e0
        exact ZC ha rfl rfl (QCN rfl rfl (show k < x.length by omega)) rfl rfl
       | 22, _ =>
        exact absurd (by simp) hs_
       | k + 23, h => exact absurd h (by omega)
      ·simp only [List.mem_cons, List.not_mem_nil, or_false] at hi_
       subst hi_;intro val fl w1 a hb hfi ha hd hfl;obtain ⟨hT, hA0_⟩ := hb;have e21 : val 21 = _ := hd 21 (ZA.1 rfl);have e12 : val 12 = _ := hd 12 (ZA.1 rfl);have ha := ha.s2 (d := 84) (e := 93) rfl e12 rfl e21;refine QBk (l' := [.int .i64 (plusB V1 (oppB (movT kk))).lo, .int .i64 (plusB V1 (oppB (movT kk))).hi]) ha rfl rfl rfl (hA0_ hfi) QDd rfl rfl (by rw [QDP, Y0]; omega) rfl ?_
       intro w' ho2 hgr;rw [Nat.zero_add] at ho2;replace ho2 := QBM ho2 (QBI QCH _ _ (by rw [Y0]; omega) (plusB V1 (oppB (movT kk))))
       refine ⟨undef, rfl, hgr.size, ⟨hT.grown hgr (by simp), (fun h => by rw [ZQ] at h; cases h)⟩, ⟨ZQ, ho2⟩, fun j _ hj hn hA => ?_⟩
       exact ZF (C := fun j => j ≠ 22 ∧ 22 ∉ clsAt [[], [], [], [], [3], [], [], [5, 6], [5, 6, 7], [], [9], [9, 10], [5, 6, 7, 8, 9, 10, 11], [], [], [14], [13, 14, 15], [13, 14, 15, 16], [], [5, 6, 7, 8, 9, 10, 11, 12, 18], [5, 6, 7, 8, 9, 10, 11, 12, 13, 14, 15, 16, 17, 18, 19], [0, 1, 5, 6, 7, 8, 9, 10, 11, 12, 13, 14, 15, 16, 17, 18, 19, 20], [0, 1, 5, 6, 7, 8, 9, 10, 11, 12, 13, 14, 15, 16, 17, 18, 19, 20, 21], [0, 1, 2, 3, 4, 5, 6, 7, 8, 9, 10, 11, 12, 13, 14, 15, 16, 17, 18, 19, 20, 21, 22], [0, 1, 2, 3, 4, 5, 6, 7, 8, 9, 10, 11, 12, 13, 14, 15, 16, 17, 18, 19, 20, 21, 22, 23]] j) (fun hc => absurd rfl hc.1) (fun _ _ h => h) j ⟨hj, hn⟩
      ·intro val fl wR21 hfl hb halc hd
       obtain ⟨hT, _⟩ := hb;have hz_nw := (hd 22 (by omega)).2
       change wR21.ownsRow w.heap.size 67 2 (.slice (some ⟨gc, 0, none⟩) x.length cc9) x.length (bdsC ((lockL x y dd k).set k (plusB V1 (oppB (movT kk))))) at hz_nw;have e0 : val 0 = _ := hd 0 (by omega)
       have e1 : val 1 = _ := hd 1 (by omega)
       have e2 : val 2 = _ := hd 2 (by omega)
       have e3 : val 3 = _ := hd 3 (by omega)
       have e4 : val 4 = _ := hd 4 (by omega)
       have e5 : val 5 = _ := hd 5 (by omega)
       have e6 : val 6 = _ := hd 6 (by omega)
       have e7 : val 7 = _ := hd 7 (by omega)
       have e8 : val 8 = _ := hd 8 (by omega)
       have e9 : val 9 = _ := hd 9 (by omega)
       have e10 : val 10 = _ := hd 10 (by omega)
       have e11 : val 11 = _ := hd 11 (by omega)
       have e12 : val 12 = _ := hd 12 (by omega)
       have e13 : val 13 = _ := hd 13 (by omega)
       have e14 : val 14 = _ := hd 14 (by omega)
       have e15 : val 15 = _ := hd 15 (by omega)
       have e16 : val 16 = _ := hd 16 (by omega)
       have e17 : val 17 = _ := hd 17 (by omega)
       have e18 : val 18 = _ := hd 18 (by omega)
       have e19 : val 19 = _ := hd 19 (by omega)
       have e20 : val 20 = _ := hd 20 (by omega)
       have e21 : val 21 = _ := hd 21 (by omega)
       refine EL.ends (cs := [_, _, _, _, _, _, _, _, _, _, _, _, _, _, _, _, _, _, _, _, _, _, val 22]) ⟨e0, e1, e2, e3, e4, e5, e6, e7, e8, e9, e10, e11, e12, e13, e14, e15, e16, e17, e18, e19, e20, e21, rfl, trivial⟩ rfl ?_;replace q10 := q10.touch hT (by simp only [List.mem_cons, List.not_mem_nil, or_false, not_or]; exact nr10_nw)
       replace hout := hout.kept (QBl hT) hap;replace hbw := Touch.anchor hT hbw (fun g hg => by simp only [List.mem_cons, List.not_mem_nil, or_false] at hg; rcases hg with rfl <;> omega)
       clear hT hnc;have hnc := hz_nw;clear hz_nw;refine EL.val (QCN rfl rfl (show k + 1 < x.length by omega)) rfl ?_
       refine EL.storeRow (l' := [.int .i64 (plusB V2 (movT kk)).lo, .int .i64 (plusB V2 (movT kk)).hi]) rfl rfl hnc QDd rfl rfl (by rw [QDP, List.length_set, Y0]; omega) rfl ?_
       intro w12 ho2 hgr;rw [Nat.zero_add] at ho2;replace ho2 := QBM ho2 (QBI QCH _ _ (by rw [List.length_set, Y0]; omega) (plusB V2 (movT kk)))
       rw [hs1] at ho2;replace hout := hout.kept hgr hap;replace q10 := q10.grown hgr (fun h => QDz hnc q10 rfl (Option.some.inj h))
       replace hbw := hbw.trans (ZI hnc hgr hbw.size);clear hnc hgr;have hnc := ho2;clear ho2;refine EL.nil (EX.blk (EX.seq (EC.region ?_)));refine EL.val (ZP rfl rfl (c := ((k + 1 : Nat) : Int)) ((IntWalk.i64_in _ ⟨by first | omega | (simp only; omega), by first | omega | (simp only; omega)⟩).trans (by first | omega | (simp only; omega)))) rfl ?_
       refine EL.mv rfl rfl (EL.nil ?_);refine EX.roundD (k + 1) ⟨rfl, trivial⟩ (by repeat first | with_reducible exact .refl _ | refine sp_ rfl ?_ | exact .refl _ | refine sd_ rfl ?_ | refine sn_ ?_) ⟨hltk, hnc, hout, hbw⟩ (by omega)
     ·
      obtain rfl : k = y.length := by omega
      refine EC.seq (EC.region ?_);refine EL.val (ZS (r := false) rfl rfl (decide_eq_false (by omega))) rfl ?_
      refine EL.nil (EX.seq (EC.seq (EC.no rfl (EC.exit (EX.seq_exit (EX.seq_exit (EX.blk_here (EX.seq (EC.region ?_)))))))));refine EL.mv rfl rfl (EL.mv rfl rfl (EL.newS (QMN rfl) rfl ?_));intro g13 w13 q13 hb13 hg13 hl13;have bhbw_13 := Nat.le_trans hbw.size hg13;replace hnc := ZE hnc hb13 (Nat.le_refl _);replace hout := hout.below hb13;replace hbw := bo_ hbw hb13;clear hb13 hg13 hl13;have hrd := hout.rd;rw [Yo] at hrd;refine EL.push QMV rfl rfl hrd (QA9 (l := [.slice (some ⟨gc, 0, none⟩) x.length cc9]) q13 rfl) (by intro u hu; rw [List.mem_singleton.1 hu]; rfl) (by omega) rfl hbw.size rfl ?_
      intro vo w9 ho9 hgr hb_ hat;rw [lockL_all] at hnc;have hout2 := hout.push hrd hnc ho9 hgr;replace hnc := QAF hnc hrd rfl hgr;replace hbw := hbw.trans hb_;clear hout hgr hb_ hat ho9 hrd;refine EL.as rfl rfl (EL.nil (EX.blk (EX.seq (EC.region ?_))));refine EL.val (ZP rfl rfl (c := ((dd + 1 : Nat) : Int)) ((IntWalk.i64_in _ ⟨by first | omega | (simp only; omega), by first | omega | (simp only; omega)⟩).trans (by first | omega | (simp only; omega)))) rfl ?_
      refine EL.mv rfl rfl (EL.nil ?_);refine EX.roundD (dd + 1, _, _, _) ⟨rfl, rfl, rfl, trivial⟩ (by repeat first | with_reducible exact .refl _ | refine sp_ rfl ?_ | exact .refl _ | refine sd_ rfl ?_ | refine sn_ ?_) ⟨hltd, hnc, hout2, hbw⟩ (show N - (dd + 1) < N - dd by omega)
   ·
    obtain rfl : dd = N := by omega
    refine EC.seq (EC.region ?_);refine EL.val (ZS (r := false) rfl rfl (decide_eq_false (by omega))) rfl ?_
    refine EL.nil (EX.seq (EC.seq (EC.no rfl (EC.exit (EX.seq_exit (EX.seq_exit (EX.blk_here (EX.seq (EC.seq ?_)))))))));refine EC.region (EL.mv rfl rfl (EL.as rfl rfl (EL.as rfl rfl (EL.nil (EX.seq (EC.ret ?_))))))
    exact EX.done (res2 rfl rfl rfl) ⟨_, us, by rw [he], fun _ => hout, fun h => absurd he h, hbw⟩
 ·
  refine EL.val (Zp (r := true) rfl rfl (decide_eq_true (by omega))) rfl ?_
  refine EL.nil (EX.seq (EC.yes rfl (EC.seq (EC.region (EL.mv rfl rfl (EL.as rfl rfl (EL.as rfl rfl (EL.nil (EX.seq ?_)))))))));refine EC.ret (EX.seq_ret ?_)
  exact EX.done (res2 rfl rfl rfl) ⟨_, [], rfl, fun h => absurd h he, fun _ => rfl, hbw⟩
section
variable {n : Nat} {σ : Sg} {w : World} {dst : Option Tmp} {ty : TypeId} {pos : String} {af : Array Edge} {g : Option (Nat × Bool)} {x y z : Operand} {at' : Array TypeId}
theorem cF26 : cF 26 := fun _ _ => by simp [go_sem]
theorem QMm {A : Option Addr} {m c : Nat} (hx : evS σ x = some (.slice A m c)) : ZJ Try.prog n σ w ⟨dst, .call { callee := .builtin .len, args := #[x], argTypes := #[61] }, ty, pos, af, g⟩ (.int .i64 (m : Int)) := fun a ha => by
 simp only [execOp, resolve, List.map_toArray, List.map_cons, List.map_nil, ha.eval hx]
 simp [go_sem]
theorem QHC {b o m c k : Nat} (hx : evS σ x = some (.slice (some ⟨b, o, none⟩) m c)) (hy : evS σ y = some (.int .i64 (k : Int))) (hk : k < m) : ZJ Try.prog n σ w ⟨dst, .indexAddr 61 x y, ty, pos, af, g⟩ (.pointer (some ⟨b, o + k, none⟩)) := fun a ha => by
 have k0 : (0 : Int) ≤ (k : Int) := Int.natCast_nonneg _;have k1 : (k : Int) < (m : Int) := by omega
 simp only [execOp, ha.eval hx, ha.eval hy]
 simp [go_sem, k0, k1]
theorem QHB {b o : Nat} {v0 : Value} (hx : evS σ x = some (.pointer (some ⟨b, o, none⟩))) (c0 : w.cell? ⟨b, o, none⟩ = some v0) : ZJ Try.prog n σ w ⟨dst, .load 73 x, ty, pos, af, g⟩ (v0) := fun a ha => by
 simp only [execOp, ha.eval hx]
 simp [go_sem, c0]
theorem QKf {A : Option Addr} {m c : Nat} (hx : evS σ x = some (.slice A m c)) : ZJ Try.prog n σ w ⟨dst, .call { callee := .builtin .len, args := #[x], argTypes := #[73] }, ty, pos, af, g⟩ (.int .i64 (m : Int)) := fun a ha => by
 simp only [execOp, resolve, List.map_toArray, List.map_cons, List.map_nil, ha.eval hx]
 simp [go_sem]
end
end Go.Proofs.Ytlbfnimilcnihaa
