/- X29, ExX30, X30, ExX31, X31, X32: what LockThriftsProof needs of them (merged by trimpack.py). -/
import Derived.Test.YtlbfnimilcnihaaThriftsT6
set_option linter.unusedVariables false
set_option linter.unusedSimpArgs false
namespace Go.Proofs.Ytlbfnimilcnihaa
open Go Go.RowKit
theorem QCG {th v : Bool} {s s' : ST} {Au Ad Ar : Option Addr} {nu cu nd cd nr cr : Nat} {Bu Bd Br : Option Addr} {mu du md dd mr dr : Nat} {w : World} (h : betR th s s' = v) : Calls Try.prog 66 #[.agg #[.slice Au nu cu, .slice Ad nd cd, .int .i64 s.fr, .bool s.lk.high, .slice Ar nr cr, .int .i64 s.cost, .int .i64 s.mv, .int .i64 s.up, .int .i64 s.lo, .int .i64 s.ch, .int .i64 s.ba], .agg #[.slice Bu mu du, .slice Bd md dd, .int .i64 s'.fr, .bool s'.lk.high, .slice Br mr dr, .int .i64 s'.cost, .int .i64 s'.mv, .int .i64 s'.up, .int .i64 s'.lo, .int .i64 s'.ch, .int .i64 s'.ba], .bool th] w fun e w' => e = .returned (.bool v) ∧ Below w.heap.size w w' := h ▸ QH9 th s s' _ _ _ _ _ _ _ _ _ _ _ _ _ _ _ _ _ _ w
/-- what is found behind a way -/
def accX (th : Bool) (most : Int) (q : QS) (k : Nat) (b : Option Dr) (d : Dr) : Nat → Option Dr
 | 0 => b
 | 1 => accI th most q k b d true
 | _ => tryR th most q (k + 1) b d
def uN (u : Bool) : Nat := if u = true then 1 else 0
theorem QJm {th : Bool} {most : Int} {q : QS} {k x n : Nat} {b : Option Dr} {d : Dr} {u : Bool} (hc : YJ q d.s = false) (hx : x = uN u) (h : (waitL q d.s u).length ≤ n) : accX th most q k b d (x + 1) = accN th most q k b d u n := by
 subst hx
 cases u
 ·exact (QJl h).symm
 ·exact (QLP h hc).symm
theorem QH6 {l : LK} {q : QS} {d : Dr} {u : Bool} {n : Nat} (hq : QOk l q) (hn : n < (waitL q d.s u).length) (h : fitN q d.s u (n + 1) = true) : n < (cntU q d.s u).length := (QME hq hn).1 h
theorem QH5 {q : QS} {d : Dr} {u : Bool} {n : Nat} (h : fitN q d.s u (n + 1) = false) : ¬n < (cntU q d.s u).length := fun h1 => by rw [QGN h1] at h; cases h
theorem QNc {l : LK} {q : QS} {d : Dr} {K : Nat} (hd : DrOk l q d) (hc : YJ q d.s = false) (hK : remD q d.s ≤ K) : ∃ k, K = k + 1 := by
 have h1 := QDH hd;have h2 : ¬remD q d.s = 0 := fun e => by rw [h1.2 e] at hc; cases hc
 exact ⟨K - 1, by omega⟩
theorem QKT (q : QS) (d : Dr) (u : Bool) (n : Nat) : spsC (oneD q d u n).plan = spsC d.plan ++ [.bool u, .int .i64 (n : Nat)] := by
 show spsC (d.plan ++ [_]) = _
 unfold spsC
 rw [List.flatMap_append]
 rfl
theorem QF6 (q : QS) (d : Dr) (u : Bool) (n : Nat) : (oneD q d u n).plan.length = d.plan.length + 1 := by
 show (d.plan ++ [_]).length = _
 rw [List.length_append]
 rfl
theorem QHD {a b c : World} {g : Nat} (h : a.grownBy b (some g)) (k : b.grownBy c (some g)) : a.grownBy c (some g) := Z3 h k
theorem RdX.below {w w' : World} {g size n : Nat} {v : Value} {xs : List Value} (h : RdX w g size v n xs) (hb : Below w.heap.size w w') : RdX w' g size v n xs := h.grown (Zw (QD5 w g) hb)
theorem FndM.below {w w' : World} {g : Nat} {b : Option Dr} (h : FndM w g b) (hb : Below w.heap.size w w') : FndM w' g b := by
 obtain ⟨Ap, cp, Au, nu, cu, Ad, nd, cd, Ar, nr, cr, h1, h2⟩ := h
 exact ⟨Ap, cp, Au, nu, cu, Ad, nd, cd, Ar, nr, cr, h1.below hb h1.lt, h2.below hb⟩
/-- a step that fits, and one that does not -/
theorem QJJ {l : LK} {q : QS} {d : Dr} {u : Bool} {n nu nd cu cd nr cr gb : Nat} {rs : List RN} {Au Ad Ar : Option Addr} {w : World} (hq : QOk l q) (hd : DrOk l q d) (hn : n < (waitL q d.s u).length) (hf : fitN q d.s u (n + 1) = true)
  (hu : RdX w gb 5 (.slice Au nu cu) nu (twsC (waitL q d.s true))) (hnu : nu = (waitL q d.s true).length) (hdn : RdX w gb 5 (.slice Ad nd cd) nd (twsC (waitL q d.s false))) (hnd : nd = (waitL q d.s false).length) (hr : RdX w gb 2 (.slice Ar nr cr) nr (rnsC rs)) (hrl : nr = rs.length ∧ rs.length ≤ 1000) (hg : gb < w.heap.size) :
  Calls Try.prog 44 #[.agg #[.int .i64 l.length, .int .i64 l.cycle, .int .i64 l.turn, .int .i64 l.fill, .int .i64 l.save, .bool l.high], .agg #[.slice Au nu cu, .slice Ad nd cd, .int .i64 d.s.fr, .bool d.s.lk.high, .slice Ar nr cr, .int .i64 d.s.cost, .int .i64 d.s.mv, .int .i64 d.s.up, .int .i64 d.s.lo, .int .i64 d.s.ch, .int .i64 d.s.ba], .agg #[.bool u, .int .i64 ((n + 1 : Nat) : Int)]] w fun e w' => (∃ Au2 nu2 cu2 Ad2 nd2 cd2 Ar2 cr2, ∃ rs2 : List RN, nu2 = (waitL q (oneD q d u (n + 1)).s true).length ∧ nd2 = (waitL q (oneD q d u (n + 1)).s false).length ∧ rs2.length = nr + 1 ∧ e = .returned (.tuple #[.agg #[.slice Au2 nu2 cu2, .slice Ad2 nd2 cd2, .int .i64 (oneD q d u (n + 1)).s.fr, .bool (oneD q d u (n + 1)).s.lk.high, .slice Ar2 (nr + 1) cr2, .int .i64 (oneD q d u (n + 1)).s.cost, .int .i64 (oneD q d u (n + 1)).s.mv, .int .i64 (oneD q d u (n + 1)).s.up, .int .i64 (oneD q d u (n + 1)).s.lo, .int .i64 (oneD q d u (n + 1)).s.ch, .int .i64 (oneD q d u (n + 1)).s.ba], .bool true]) ∧ RdX w' gb 5 (.slice Au2 nu2 cu2) nu2 (twsC (waitL q (oneD q d u (n + 1)).s true)) ∧ RdX w' gb 5 (.slice Ad2 nd2 cd2) nd2 (twsC (waitL q (oneD q d u (n + 1)).s false)) ∧ RdX w' gb 2 (.slice Ar2 (nr + 1) cr2) (nr + 1) (rnsC rs2)) ∧ Below w.heap.size w w' := by
 obtain ⟨rfl, hr1⟩ := hrl;subst hnu hnd;obtain ⟨ts, ets⟩ : ∃ ts, ts = (waitL q d.s u).take (n + 1) := ⟨_, rfl⟩;have htl : ts.length = n + 1 := by rw [ets]; exact Zd hn
 have ho : (oneD q d u (n + 1)).s = tkS d.s ts u := by rw [ets]; rfl
 have hwk := fun v => QLX q d.s ts u v
 have hfb : fitB l.length ts = true := by have := hf; unfold fitN at this; rw [hd.lkl, ← ets] at this; exact this
 have h8 := QAv hq hd (u := u) (n := n + 1) hn;rw [ho, ← htl]
 cases u
 ·refine (QB_ (u := false) (ls := waitL q d.s false) hd.st (fun t ht => YS (d := d) (u := false) (n := n + 1) hq t (ets ▸ ht)) (by omega) (by omega) (by omega) (by rw [htl]; exact ets.symm) hr1 (fun h => by cases h) (fun _ => rfl) hdn.rd hr.rd (Nat.le_refl _)).mono fun e w' ⟨⟨hy, _⟩, hb⟩ => ⟨?_, hb⟩
  obtain ⟨A2, c2, rfl, hr2⟩ := hy hfb;refine ⟨Au, _, cu, _, _, _, A2, c2, rs ++ [runT d.s ts false], ?_, ?_, ?_, rfl, ?_, ?_, ?_⟩
  ·rw [hwk, if_neg (by decide)]
  ·rw [hwk, if_pos rfl, List.length_drop]
  ·rw [List.length_append]; rfl
  ·rw [hwk, if_neg (by decide)]; exact hu.below hb
  ·rw [hwk, if_pos rfl]; exact (hdn.rest (by omega)).below hb
  ·rw [QCm]; exact RdX.of_own hr2 hg
 ·refine (QB_ (u := true) (ls := waitL q d.s true) hd.st (fun t ht => YS (d := d) (u := true) (n := n + 1) hq t (ets ▸ ht)) (by omega) (by omega) (by omega) (by rw [htl]; exact ets.symm) hr1 (fun _ => rfl) (fun h => by cases h) hu.rd hr.rd (Nat.le_refl _)).mono fun e w' ⟨⟨hy, _⟩, hb⟩ => ⟨?_, hb⟩
  obtain ⟨A2, c2, rfl, hr2⟩ := hy hfb;refine ⟨_, _, _, Ad, _, cd, A2, c2, rs ++ [runT d.s ts true], ?_, ?_, ?_, rfl, ?_, ?_, ?_⟩
  ·rw [hwk, if_pos rfl, List.length_drop]
  ·rw [hwk, if_neg (by decide)]
  ·rw [List.length_append]; rfl
  ·rw [hwk, if_pos rfl]; exact (hu.rest (by omega)).below hb
  ·rw [hwk, if_neg (by decide)]; exact hdn.below hb
  ·rw [QCm]; exact RdX.of_own hr2 hg
theorem QKK {l : LK} {q : QS} {d : Dr} {u : Bool} {n nu nd cu cd nr cr gb : Nat} {rs : List RN} {Au Ad Ar : Option Addr} {w : World} (hq : QOk l q) (hd : DrOk l q d) (hn : n < (waitL q d.s u).length) (hf : fitN q d.s u (n + 1) = false)
  (hu : RdX w gb 5 (.slice Au nu cu) nu (twsC (waitL q d.s true))) (hnu : nu = (waitL q d.s true).length) (hdn : RdX w gb 5 (.slice Ad nd cd) nd (twsC (waitL q d.s false))) (hnd : nd = (waitL q d.s false).length) (hr : RdX w gb 2 (.slice Ar nr cr) nr (rnsC rs)) (hrl : nr = rs.length ∧ rs.length ≤ 1000) (hg : gb < w.heap.size) :
  Calls Try.prog 44 #[.agg #[.int .i64 l.length, .int .i64 l.cycle, .int .i64 l.turn, .int .i64 l.fill, .int .i64 l.save, .bool l.high], .agg #[.slice Au nu cu, .slice Ad nd cd, .int .i64 d.s.fr, .bool d.s.lk.high, .slice Ar nr cr, .int .i64 d.s.cost, .int .i64 d.s.mv, .int .i64 d.s.up, .int .i64 d.s.lo, .int .i64 d.s.ch, .int .i64 d.s.ba], .agg #[.bool u, .int .i64 ((n + 1 : Nat) : Int)]] w fun e w' => e = .returned (.tuple #[.agg #[.slice Au nu cu, .slice Ad nd cd, .int .i64 d.s.fr, .bool d.s.lk.high, .slice Ar nr cr, .int .i64 d.s.cost, .int .i64 d.s.mv, .int .i64 d.s.up, .int .i64 d.s.lo, .int .i64 d.s.ch, .int .i64 d.s.ba], .bool false]) ∧ Below w.heap.size w w' := by
 obtain ⟨rfl, hr1⟩ := hrl;subst hnu hnd;obtain ⟨ts, ets⟩ : ∃ ts, ts = (waitL q d.s u).take (n + 1) := ⟨_, rfl⟩;have htl : ts.length = n + 1 := by rw [ets]; exact Zd hn
 have hfb : fitB l.length ts = false := by have := hf; unfold fitN at this; rw [hd.lkl, ← ets] at this; exact this
 have h8 := QAv hq hd (u := u) (n := n + 1) hn;rw [← htl]
 cases u
 ·exact (QB_ (u := false) (ls := waitL q d.s false) hd.st (fun t ht => YS (d := d) (u := false) (n := n + 1) hq t (ets ▸ ht)) (by omega) (by omega) (by omega) (by rw [htl]; exact ets.symm) hr1 (fun h => by cases h) (fun _ => rfl) hdn.rd hr.rd (Nat.le_refl _)).mono fun e w' ⟨⟨_, hy⟩, hb⟩ => ⟨hy hfb, hb⟩
 ·exact (QB_ (u := true) (ls := waitL q d.s true) hd.st (fun t ht => YS (d := d) (u := true) (n := n + 1) hq t (ets ▸ ht)) (by omega) (by omega) (by omega) (by rw [htl]; exact ets.symm) hr1 (fun _ => rfl) (fun h => by cases h) hu.rd hr.rd (Nat.le_refl _)).mono fun e w' ⟨⟨_, hy⟩, hb⟩ => ⟨hy hfb, hb⟩
/-- what the search does with a draft -/
def QGY (l : LK) (q : QS) (th : Bool) (most : Int) (K : Nat) : Prop := ∀ (d : Dr) (rs : List RN) (b : Option Dr) {Au Ad Ar Ap : Option Addr} {nu cu nd cd nr cr cp gb : Nat} {w : World} (hd : DrOk l q d) (hK : remD q d.s ≤ K) (hnu : nu = (waitL q d.s true).length) (hnd : nd = (waitL q d.s false).length) (hrl : rs.length = d.plan.length) (hnr : nr = rs.length) (hru : RdX w gb 5 (.slice Au nu cu) nu (twsC (waitL q d.s true))) (hrd : RdX w gb 5 (.slice Ad nd cd) nd (twsC (waitL q d.s false))) (hrr : RdX w gb 2 (.slice Ar nr cr) nr (rnsC rs)) (hrp : RdX w gb 2 (.slice Ap d.plan.length cp) d.plan.length (spsC d.plan)) (hb : FndM w gb b),
 Calls Try.prog 47 #[.agg #[.int .i64 l.length, .int .i64 l.cycle, .int .i64 l.turn, .int .i64 l.fill, .int .i64 l.save, .bool l.high], .agg #[.slice Au nu cu, .slice Ad nd cd, .int .i64 d.s.fr, .bool d.s.lk.high, .slice Ar nr cr, .int .i64 d.s.cost, .int .i64 d.s.mv, .int .i64 d.s.up, .int .i64 d.s.lo, .int .i64 d.s.ch, .int .i64 d.s.ba], .slice Ap d.plan.length cp, .bool th, .int .i64 most, .pointer (some ⟨gb, 0, none⟩)] w fun e w' => e = .returned (.tuple #[]) ∧ FndM w' gb (tryR th most q K b d) ∧ w.grownBy w' (some gb)
set_option maxHeartbeats 4000000 in
set_option maxRecDepth 100000 in
theorem QGc {l : LK} {q : QS} {th : Bool} {most : Int} {K : Nat} (hq : QOk l q) (IH0 : ∀ k, K = k + 1 → QGY l q th most k) : QGY l q th most K := by
 intro d rs b Au Ad Ar Ap nu cu nd cd nr cr cp gb w hd hK hnu hnd hrl hnr hru hrd hrr hrp hb;obtain ⟨Ab, cb, Bu, mu, du, Bd, md, dd, Br, mr, dr, qb, hbp⟩ := hb
 unfold fndC at qb
 have h8 : nu + nd ≤ 8 := by have := rem8 hq d.s; rw [YL] at hnu hnd; unfold remD at this; have : tkn d.s true = d.s.t1 := rfl; have : tkn d.s false = d.s.t0 := rfl; omega
 have hp8 : d.plan.length ≤ 8 := by have := hd.len; have := QAv (u := true) (n := 0) hq hd (Nat.zero_le _); omega
 have hgw : w.grownBy w (some gb) := QD5 w gb;refine EC.enter 96 Try.func47 rfl rfl rfl (EC.seq (EC.region (EL.newP (QAD rfl) rfl ?_)));intro g1 w1 q1 hb1 hg1 hl1;have n0_1 := qb.na hg1;have bw1 : w.heap.size ≤ g1 := Nat.le_trans hgw.size hg1;replace qb := qb.bl hb1;replace hgw := Zw hgw hb1;clear hb1 hg1 hl1;refine EL.newP (QDO rfl) rfl ?_;intro g2 w2 q2 hb2 hg2 hl2;have n0_2 := qb.na hg2;have n1_2 := q1.na hg2;have bw2 : w.heap.size ≤ g2 := Nat.le_trans hgw.size hg2;replace qb := qb.bl hb2;replace q1 := q1.bl hb2;replace hgw := Zw hgw hb2;clear hb2 hg2 hl2;refine EL.nil (EX.seq (EC.seq (EC.seq (EC.region (EL.val (QDB rfl) rfl (EL.val (Yf rfl (q2.at (j := 0) rfl)) rfl (EL.val (Zs rfl) rfl (EL.val (QDA rfl) rfl (EL.val (Yf rfl (q2.at (j := 1) rfl)) rfl ?_)))))))));refine EL.val (Zs rfl) rfl ?_;refine EL.val (ZP rfl rfl (c := ((nu + nd : Nat) : Int)) ((IntWalk.i64_in _ ⟨by omega, by omega⟩).trans (by omega))) rfl ?_
 by_cases h0 : nu + nd = 0
 ·
  have hct : YJ q d.s = true := (QFi hd).2 (by omega)
  refine EL.val (YH (r := true) rfl rfl (decide_eq_true (by omega))) rfl ?_
  refine EL.nil (EX.seq (EC.yes rfl (EC.seq ?_)));refine EC.cutD [26, 27, 28, 29, 30, 31, 32, 33, 34, 35, 36, 37, 38, 39, 40, 41, 42, 43, 44, 45, 46, 47, 48, 49] (fun x : Bool => [(49, .bool x)]) (fun x W => (updR th most b d = if x = true then some d else b) ∧ Blk W gb 54 #[.bool b.isSome, .slice Ab (fO b).plan.length cb, .slice Bu mu du, .slice Bd md dd, .int .i64 (fO b).s.fr, .bool (fO b).s.lk.high, .slice Br mr dr, .int .i64 (fO b).s.cost, .int .i64 (fO b).s.mv, .int .i64 (fO b).s.up, .int .i64 (fO b).s.lo, .int .i64 (fO b).s.ch, .int .i64 (fO b).s.ba] ∧ Blk W g2 45 #[.slice Au nu cu, .slice Ad nd cd, .int .i64 d.s.fr, .bool d.s.lk.high, .slice Ar nr cr, .int .i64 d.s.cost, .int .i64 d.s.mv, .int .i64 d.s.up, .int .i64 d.s.lo, .int .i64 d.s.ch, .int .i64 d.s.ba] ∧ w.grownBy W (some gb)) ?_ ?_
  ·
   cases th
   ·
    cases b
    ·
     have qx : Blk w2 gb 54 #[.bool false, .slice Ab (fO none).plan.length cb, .slice Bu mu du, .slice Bd md dd, .int .i64 (fO none).s.fr, .bool (fO none).s.lk.high, .slice Br mr dr, .int .i64 (fO none).s.cost, .int .i64 (fO none).s.mv, .int .i64 (fO none).s.up, .int .i64 (fO none).s.lo, .int .i64 (fO none).s.ch, .int .i64 (fO none).s.ba] := qb;refine EC.regionQ (by kernel_rfl) (by kernel_rfl) ?_
     refine EQ.mv rfl rfl ?_;refine EQ.val (fun _ hw => (ZT rfl)) rfl ?_
     refine EQ.mv rfl rfl (EQ.skip rfl rfl rfl rfl (EQ.skip rfl rfl rfl rfl (EQ.skip rfl rfl rfl rfl (EQ.skip rfl rfl rfl rfl ?_))));refine EQ.val (fun _ hw => (Zq rfl rfl)) rfl ?_
     refine EQ.mv rfl rfl (EQ.mg rfl rfl rfl rfl ?_);refine EQ.valg rfl rfl (fun _ hw => (ZG rfl)) rfl ?_
     refine EQ.valg rfl rfl (fun _ hw => (QA1 rfl)) rfl ?_
     refine EQ.valg rfl rfl (fun _ hw => (ld_4 rfl (ZB hw (qx.at (j := 0) rfl)))) rfl ?_
     refine EQ.valg rfl rfl (fun _ hw => (ZT rfl)) rfl ?_
     refine EQ.mg rfl rfl rfl rfl (EQ.skip rfl rfl rfl rfl (EQ.skip rfl rfl rfl rfl (EQ.skip rfl rfl rfl rfl (EQ.skip rfl rfl rfl rfl (EQ.skip rfl rfl rfl rfl (EQ.skip rfl rfl rfl rfl (EQ.skip rfl rfl rfl rfl ?_)))))));refine EQ.valg rfl rfl (fun _ hw => (Zq rfl rfl)) rfl ?_
     refine EQ.val (fun _ hw => (Zq rfl rfl)) rfl ?_
     refine EQ.fin (fun w3 hw_ => ?_)
     replace qx := qx.bl hw_;replace q1 := q1.bl hw_;replace q2 := q2.bl hw_;replace hgw := Zw hgw hw_;clear hw_
     exact EX.cutE true ⟨rfl, trivial⟩ (by repeat first | with_reducible exact (Sub.refl _).del _ | refine sp_ rfl ?_ | exact (Sub.refl _).del _ | refine sd_ rfl ?_ | refine sn_ ?_) ⟨by rw [QIK (.inl rfl) rfl, if_pos rfl], qx, q2, hgw⟩
    ·
     rename_i e
     cases hbt : betR false d.s e.s
     ·
      have qx : Blk w2 gb 54 #[.bool true, .slice Ab (fO (some e)).plan.length cb, .slice Bu mu du, .slice Bd md dd, .int .i64 (fO (some e)).s.fr, .bool (fO (some e)).s.lk.high, .slice Br mr dr, .int .i64 (fO (some e)).s.cost, .int .i64 (fO (some e)).s.mv, .int .i64 (fO (some e)).s.up, .int .i64 (fO (some e)).s.lo, .int .i64 (fO (some e)).s.ch, .int .i64 (fO (some e)).s.ba] := qb;refine EC.regionQ (by kernel_rfl) (by kernel_rfl) ?_
      refine EQ.mv rfl rfl ?_;refine EQ.val (fun _ hw => (ZT rfl)) rfl ?_
      refine EQ.mv rfl rfl (EQ.skip rfl rfl rfl rfl (EQ.skip rfl rfl rfl rfl (EQ.skip rfl rfl rfl rfl (EQ.skip rfl rfl rfl rfl ?_))));refine EQ.val (fun _ hw => (Zq rfl rfl)) rfl ?_
      refine EQ.mv rfl rfl (EQ.mg rfl rfl rfl rfl ?_);refine EQ.valg rfl rfl (fun _ hw => (ZG rfl)) rfl ?_
      refine EQ.valg rfl rfl (fun _ hw => (QA1 rfl)) rfl ?_
      refine EQ.valg rfl rfl (fun _ hw => (ld_4 rfl (ZB hw (qx.at (j := 0) rfl)))) rfl ?_
      refine EQ.valg rfl rfl (fun _ hw => (ZT rfl)) rfl ?_
      refine EQ.mg rfl rfl rfl rfl ?_;refine EQ.valg rfl rfl (fun _ hw => (Yp rfl (ZB hw (q2.at (j := 0) rfl)) (ZB hw (q2.at (j := 1) rfl)) (ZB hw (q2.at (j := 2) rfl)) (ZB hw (q2.at (j := 3) rfl)) (ZB hw (q2.at (j := 4) rfl)) (ZB hw (q2.at (j := 5) rfl)) (ZB hw (q2.at (j := 6) rfl)) (ZB hw (q2.at (j := 7) rfl)) (ZB hw (q2.at (j := 8) rfl)) (ZB hw (q2.at (j := 9) rfl)) (ZB hw (q2.at (j := 10) rfl)))) rfl ?_
      refine EQ.mg rfl rfl rfl rfl ?_;refine EQ.valg rfl rfl (fun _ hw => (ZG rfl)) rfl ?_
      refine EQ.valg rfl rfl (fun _ hw => (QC9 rfl)) rfl ?_
      refine EQ.valg rfl rfl (fun _ hw => (Yp rfl (ZB hw (qx.at (j := 2) rfl)) (ZB hw (qx.at (j := 3) rfl)) (ZB hw (qx.at (j := 4) rfl)) (ZB hw (qx.at (j := 5) rfl)) (ZB hw (qx.at (j := 6) rfl)) (ZB hw (qx.at (j := 7) rfl)) (ZB hw (qx.at (j := 8) rfl)) (ZB hw (qx.at (j := 9) rfl)) (ZB hw (qx.at (j := 10) rfl)) (ZB hw (qx.at (j := 11) rfl)) (ZB hw (qx.at (j := 12) rfl)))) rfl ?_
      refine EQ.mg rfl rfl rfl rfl ?_;refine EQ.callg rfl rfl (fun _ _ _ ha => cA3 cF66 rfl rfl rfl _ ha) rfl (fun W hw => (QCG hbt).mono fun e w' h => ⟨h.1, hw.trans (h.2.mono hw.size)⟩) ?_
      refine EQ.valg rfl rfl (fun _ hw => (Z7 rfl rfl)) rfl ?_
      refine EQ.val (fun _ hw => (Zq rfl rfl)) rfl ?_
      refine EQ.fin (fun w4 hw_ => ?_)
      replace qx := qx.bl hw_;replace q1 := q1.bl hw_;replace q2 := q2.bl hw_;replace hgw := Zw hgw hw_;clear hw_
      exact EX.cutE false ⟨rfl, trivial⟩ (by repeat first | with_reducible exact (Sub.refl _).del _ | refine sp_ rfl ?_ | exact (Sub.refl _).del _ | refine sd_ rfl ?_ | refine sn_ ?_) ⟨by rw [QDu (.inl rfl), hbt], qx, q2, hgw⟩
     ·
      have qx : Blk w2 gb 54 #[.bool true, .slice Ab (fO (some e)).plan.length cb, .slice Bu mu du, .slice Bd md dd, .int .i64 (fO (some e)).s.fr, .bool (fO (some e)).s.lk.high, .slice Br mr dr, .int .i64 (fO (some e)).s.cost, .int .i64 (fO (some e)).s.mv, .int .i64 (fO (some e)).s.up, .int .i64 (fO (some e)).s.lo, .int .i64 (fO (some e)).s.ch, .int .i64 (fO (some e)).s.ba] := qb;refine EC.regionQ (by kernel_rfl) (by kernel_rfl) ?_
      refine EQ.mv rfl rfl ?_;refine EQ.val (fun _ hw => (ZT rfl)) rfl ?_
      refine EQ.mv rfl rfl (EQ.skip rfl rfl rfl rfl (EQ.skip rfl rfl rfl rfl (EQ.skip rfl rfl rfl rfl (EQ.skip rfl rfl rfl rfl ?_))));refine EQ.val (fun _ hw => (Zq rfl rfl)) rfl ?_
      refine EQ.mv rfl rfl (EQ.mg rfl rfl rfl rfl ?_);refine EQ.valg rfl rfl (fun _ hw => (ZG rfl)) rfl ?_
      refine EQ.valg rfl rfl (fun _ hw => (QA1 rfl)) rfl ?_
      refine EQ.valg rfl rfl (fun _ hw => (ld_4 rfl (ZB hw (qx.at (j := 0) rfl)))) rfl ?_
      refine EQ.valg rfl rfl (fun _ hw => (ZT rfl)) rfl ?_
      refine EQ.mg rfl rfl rfl rfl ?_;refine EQ.valg rfl rfl (fun _ hw => (Yp rfl (ZB hw (q2.at (j := 0) rfl)) (ZB hw (q2.at (j := 1) rfl)) (ZB hw (q2.at (j := 2) rfl)) (ZB hw (q2.at (j := 3) rfl)) (ZB hw (q2.at (j := 4) rfl)) (ZB hw (q2.at (j := 5) rfl)) (ZB hw (q2.at (j := 6) rfl)) (ZB hw (q2.at (j := 7) rfl)) (ZB hw (q2.at (j := 8) rfl)) (ZB hw (q2.at (j := 9) rfl)) (ZB hw (q2.at (j := 10) rfl)))) rfl ?_
      refine EQ.mg rfl rfl rfl rfl ?_;refine EQ.valg rfl rfl (fun _ hw => (ZG rfl)) rfl ?_
      refine EQ.valg rfl rfl (fun _ hw => (QC9 rfl)) rfl ?_
      refine EQ.valg rfl rfl (fun _ hw => (Yp rfl (ZB hw (qx.at (j := 2) rfl)) (ZB hw (qx.at (j := 3) rfl)) (ZB hw (qx.at (j := 4) rfl)) (ZB hw (qx.at (j := 5) rfl)) (ZB hw (qx.at (j := 6) rfl)) (ZB hw (qx.at (j := 7) rfl)) (ZB hw (qx.at (j := 8) rfl)) (ZB hw (qx.at (j := 9) rfl)) (ZB hw (qx.at (j := 10) rfl)) (ZB hw (qx.at (j := 11) rfl)) (ZB hw (qx.at (j := 12) rfl)))) rfl ?_
      refine EQ.mg rfl rfl rfl rfl ?_;refine EQ.callg rfl rfl (fun _ _ _ ha => cA3 cF66 rfl rfl rfl _ ha) rfl (fun W hw => (QCG hbt).mono fun e w' h => ⟨h.1, hw.trans (h.2.mono hw.size)⟩) ?_
      refine EQ.valg rfl rfl (fun _ hw => (Z7 rfl rfl)) rfl ?_
      refine EQ.val (fun _ hw => (Zq rfl rfl)) rfl ?_
      refine EQ.fin (fun w5 hw_ => ?_)
      replace qx := qx.bl hw_;replace q1 := q1.bl hw_;replace q2 := q2.bl hw_;replace hgw := Zw hgw hw_;clear hw_
      exact EX.cutE true ⟨rfl, trivial⟩ (by repeat first | with_reducible exact (Sub.refl _).del _ | refine sp_ rfl ?_ | exact (Sub.refl _).del _ | refine sd_ rfl ?_ | refine sn_ ?_) ⟨by rw [QDu (.inl rfl), hbt], qx, q2, hgw⟩
   ·
    by_cases hco : d.s.cost ≤ most
    ·
     cases b
     ·
      have qx : Blk w2 gb 54 #[.bool false, .slice Ab (fO none).plan.length cb, .slice Bu mu du, .slice Bd md dd, .int .i64 (fO none).s.fr, .bool (fO none).s.lk.high, .slice Br mr dr, .int .i64 (fO none).s.cost, .int .i64 (fO none).s.mv, .int .i64 (fO none).s.up, .int .i64 (fO none).s.lo, .int .i64 (fO none).s.ch, .int .i64 (fO none).s.ba] := qb;refine EC.regionQ (by kernel_rfl) (by kernel_rfl) ?_
      refine EQ.mv rfl rfl ?_;refine EQ.val (fun _ hw => (ZT rfl)) rfl ?_
      refine EQ.mv rfl rfl ?_;refine EQ.valg rfl rfl (fun _ hw => (YV rfl)) rfl ?_
      refine EQ.valg rfl rfl (fun _ hw => (ld_3 rfl (ZB hw (q2.at (j := 5) rfl)))) rfl ?_
      refine EQ.mg rfl rfl rfl rfl ?_;refine EQ.valg rfl rfl (fun _ hw => (QBD (r := true) rfl rfl (decide_eq_true hco))) rfl ?_
      refine EQ.val (fun _ hw => (Z7 rfl rfl)) rfl ?_
      refine EQ.mv rfl rfl (EQ.mg rfl rfl rfl rfl ?_);refine EQ.valg rfl rfl (fun _ hw => (ZG rfl)) rfl ?_
      refine EQ.valg rfl rfl (fun _ hw => (QA1 rfl)) rfl ?_
      refine EQ.valg rfl rfl (fun _ hw => (ld_4 rfl (ZB hw (qx.at (j := 0) rfl)))) rfl ?_
      refine EQ.valg rfl rfl (fun _ hw => (ZT rfl)) rfl ?_
      refine EQ.mg rfl rfl rfl rfl (EQ.skip rfl rfl rfl rfl (EQ.skip rfl rfl rfl rfl (EQ.skip rfl rfl rfl rfl (EQ.skip rfl rfl rfl rfl (EQ.skip rfl rfl rfl rfl (EQ.skip rfl rfl rfl rfl (EQ.skip rfl rfl rfl rfl ?_)))))));refine EQ.valg rfl rfl (fun _ hw => (Zq rfl rfl)) rfl ?_
      refine EQ.val (fun _ hw => (Zq rfl rfl)) rfl ?_
      refine EQ.fin (fun w6 hw_ => ?_)
      replace qx := qx.bl hw_;replace q1 := q1.bl hw_;replace q2 := q2.bl hw_;replace hgw := Zw hgw hw_;clear hw_
      exact EX.cutE true ⟨rfl, trivial⟩ (by repeat first | with_reducible exact (Sub.refl _).del _ | refine sp_ rfl ?_ | exact (Sub.refl _).del _ | refine sd_ rfl ?_ | refine sn_ ?_) ⟨by rw [QIK (.inr hco) rfl, if_pos rfl], qx, q2, hgw⟩
     ·
      rename_i e
      cases hbt : betR true d.s e.s
      ·
       have qx : Blk w2 gb 54 #[.bool true, .slice Ab (fO (some e)).plan.length cb, .slice Bu mu du, .slice Bd md dd, .int .i64 (fO (some e)).s.fr, .bool (fO (some e)).s.lk.high, .slice Br mr dr, .int .i64 (fO (some e)).s.cost, .int .i64 (fO (some e)).s.mv, .int .i64 (fO (some e)).s.up, .int .i64 (fO (some e)).s.lo, .int .i64 (fO (some e)).s.ch, .int .i64 (fO (some e)).s.ba] := qb;refine EC.regionQ (by kernel_rfl) (by kernel_rfl) ?_
       refine EQ.mv rfl rfl ?_;refine EQ.val (fun _ hw => (ZT rfl)) rfl ?_
       refine EQ.mv rfl rfl ?_;refine EQ.valg rfl rfl (fun _ hw => (YV rfl)) rfl ?_
       refine EQ.valg rfl rfl (fun _ hw => (ld_3 rfl (ZB hw (q2.at (j := 5) rfl)))) rfl ?_
       refine EQ.mg rfl rfl rfl rfl ?_;refine EQ.valg rfl rfl (fun _ hw => (QBD (r := true) rfl rfl (decide_eq_true hco))) rfl ?_
       refine EQ.val (fun _ hw => (Z7 rfl rfl)) rfl ?_
       refine EQ.mv rfl rfl (EQ.mg rfl rfl rfl rfl ?_);refine EQ.valg rfl rfl (fun _ hw => (ZG rfl)) rfl ?_
       refine EQ.valg rfl rfl (fun _ hw => (QA1 rfl)) rfl ?_
       refine EQ.valg rfl rfl (fun _ hw => (ld_4 rfl (ZB hw (qx.at (j := 0) rfl)))) rfl ?_
       refine EQ.valg rfl rfl (fun _ hw => (ZT rfl)) rfl ?_
       refine EQ.mg rfl rfl rfl rfl ?_;refine EQ.valg rfl rfl (fun _ hw => (Yp rfl (ZB hw (q2.at (j := 0) rfl)) (ZB hw (q2.at (j := 1) rfl)) (ZB hw (q2.at (j := 2) rfl)) (ZB hw (q2.at (j := 3) rfl)) (ZB hw (q2.at (j := 4) rfl)) (ZB hw (q2.at (j := 5) rfl)) (ZB hw (q2.at (j := 6) rfl)) (ZB hw (q2.at (j := 7) rfl)) (ZB hw (q2.at (j := 8) rfl)) (ZB hw (q2.at (j := 9) rfl)) (ZB hw (q2.at (j := 10) rfl)))) rfl ?_
       refine EQ.mg rfl rfl rfl rfl ?_;refine EQ.valg rfl rfl (fun _ hw => (ZG rfl)) rfl ?_
       refine EQ.valg rfl rfl (fun _ hw => (QC9 rfl)) rfl ?_
       refine EQ.valg rfl rfl (fun _ hw => (Yp rfl (ZB hw (qx.at (j := 2) rfl)) (ZB hw (qx.at (j := 3) rfl)) (ZB hw (qx.at (j := 4) rfl)) (ZB hw (qx.at (j := 5) rfl)) (ZB hw (qx.at (j := 6) rfl)) (ZB hw (qx.at (j := 7) rfl)) (ZB hw (qx.at (j := 8) rfl)) (ZB hw (qx.at (j := 9) rfl)) (ZB hw (qx.at (j := 10) rfl)) (ZB hw (qx.at (j := 11) rfl)) (ZB hw (qx.at (j := 12) rfl)))) rfl ?_
       refine EQ.mg rfl rfl rfl rfl ?_;refine EQ.callg rfl rfl (fun _ _ _ ha => cA3 cF66 rfl rfl rfl _ ha) rfl (fun W hw => (QCG hbt).mono fun e w' h => ⟨h.1, hw.trans (h.2.mono hw.size)⟩) ?_
       refine EQ.valg rfl rfl (fun _ hw => (Z7 rfl rfl)) rfl ?_
       refine EQ.val (fun _ hw => (Zq rfl rfl)) rfl ?_
       refine EQ.fin (fun w7 hw_ => ?_)
       replace qx := qx.bl hw_;replace q1 := q1.bl hw_;replace q2 := q2.bl hw_;replace hgw := Zw hgw hw_;clear hw_
       exact EX.cutE false ⟨rfl, trivial⟩ (by repeat first | with_reducible exact (Sub.refl _).del _ | refine sp_ rfl ?_ | exact (Sub.refl _).del _ | refine sd_ rfl ?_ | refine sn_ ?_) ⟨by rw [QDu (.inr hco), hbt], qx, q2, hgw⟩
      ·
       have qx : Blk w2 gb 54 #[.bool true, .slice Ab (fO (some e)).plan.length cb, .slice Bu mu du, .slice Bd md dd, .int .i64 (fO (some e)).s.fr, .bool (fO (some e)).s.lk.high, .slice Br mr dr, .int .i64 (fO (some e)).s.cost, .int .i64 (fO (some e)).s.mv, .int .i64 (fO (some e)).s.up, .int .i64 (fO (some e)).s.lo, .int .i64 (fO (some e)).s.ch, .int .i64 (fO (some e)).s.ba] := qb;refine EC.regionQ (by kernel_rfl) (by kernel_rfl) ?_
       refine EQ.mv rfl rfl ?_;refine EQ.val (fun _ hw => (ZT rfl)) rfl ?_
       refine EQ.mv rfl rfl ?_;refine EQ.valg rfl rfl (fun _ hw => (YV rfl)) rfl ?_
       refine EQ.valg rfl rfl (fun _ hw => (ld_3 rfl (ZB hw (q2.at (j := 5) rfl)))) rfl ?_
       refine EQ.mg rfl rfl rfl rfl ?_;refine EQ.valg rfl rfl (fun _ hw => (QBD (r := true) rfl rfl (decide_eq_true hco))) rfl ?_
       refine EQ.val (fun _ hw => (Z7 rfl rfl)) rfl ?_
       refine EQ.mv rfl rfl (EQ.mg rfl rfl rfl rfl ?_);refine EQ.valg rfl rfl (fun _ hw => (ZG rfl)) rfl ?_
       refine EQ.valg rfl rfl (fun _ hw => (QA1 rfl)) rfl ?_
       refine EQ.valg rfl rfl (fun _ hw => (ld_4 rfl (ZB hw (qx.at (j := 0) rfl)))) rfl ?_
       refine EQ.valg rfl rfl (fun _ hw => (ZT rfl)) rfl ?_
       refine EQ.mg rfl rfl rfl rfl ?_;refine EQ.valg rfl rfl (fun _ hw => (Yp rfl (ZB hw (q2.at (j := 0) rfl)) (ZB hw (q2.at (j := 1) rfl)) (ZB hw (q2.at (j := 2) rfl)) (ZB hw (q2.at (j := 3) rfl)) (ZB hw (q2.at (j := 4) rfl)) (ZB hw (q2.at (j := 5) rfl)) (ZB hw (q2.at (j := 6) rfl)) (ZB hw (q2.at (j := 7) rfl)) (ZB hw (q2.at (j := 8) rfl)) (ZB hw (q2.at (j := 9) rfl)) (ZB hw (q2.at (j := 10) rfl)))) rfl ?_
       refine EQ.mg rfl rfl rfl rfl ?_;refine EQ.valg rfl rfl (fun _ hw => (ZG rfl)) rfl ?_
       refine EQ.valg rfl rfl (fun _ hw => (QC9 rfl)) rfl ?_
       refine EQ.valg rfl rfl (fun _ hw => (Yp rfl (ZB hw (qx.at (j := 2) rfl)) (ZB hw (qx.at (j := 3) rfl)) (ZB hw (qx.at (j := 4) rfl)) (ZB hw (qx.at (j := 5) rfl)) (ZB hw (qx.at (j := 6) rfl)) (ZB hw (qx.at (j := 7) rfl)) (ZB hw (qx.at (j := 8) rfl)) (ZB hw (qx.at (j := 9) rfl)) (ZB hw (qx.at (j := 10) rfl)) (ZB hw (qx.at (j := 11) rfl)) (ZB hw (qx.at (j := 12) rfl)))) rfl ?_
       refine EQ.mg rfl rfl rfl rfl ?_;refine EQ.callg rfl rfl (fun _ _ _ ha => cA3 cF66 rfl rfl rfl _ ha) rfl (fun W hw => (QCG hbt).mono fun e w' h => ⟨h.1, hw.trans (h.2.mono hw.size)⟩) ?_
       refine EQ.valg rfl rfl (fun _ hw => (Z7 rfl rfl)) rfl ?_
       refine EQ.val (fun _ hw => (Zq rfl rfl)) rfl ?_
       refine EQ.fin (fun w8 hw_ => ?_)
       replace qx := qx.bl hw_;replace q1 := q1.bl hw_;replace q2 := q2.bl hw_;replace hgw := Zw hgw hw_;clear hw_
       exact EX.cutE true ⟨rfl, trivial⟩ (by repeat first | with_reducible exact (Sub.refl _).del _ | refine sp_ rfl ?_ | exact (Sub.refl _).del _ | refine sd_ rfl ?_ | refine sn_ ?_) ⟨by rw [QDu (.inr hco), hbt], qx, q2, hgw⟩
    ·
     refine EC.regionQ (by kernel_rfl) (by kernel_rfl) ?_
     refine EQ.mv rfl rfl ?_;refine EQ.val (fun _ hw => (ZT rfl)) rfl ?_
     refine EQ.mv rfl rfl ?_;refine EQ.valg rfl rfl (fun _ hw => (YV rfl)) rfl ?_
     refine EQ.valg rfl rfl (fun _ hw => (ld_3 rfl (ZB hw (q2.at (j := 5) rfl)))) rfl ?_
     refine EQ.mg rfl rfl rfl rfl ?_;refine EQ.valg rfl rfl (fun _ hw => (QBD (r := false) rfl rfl (decide_eq_false hco))) rfl ?_
     refine EQ.val (fun _ hw => (Z7 rfl rfl)) rfl ?_
     refine EQ.mv rfl rfl (EQ.skip rfl rfl rfl rfl (EQ.skip rfl rfl rfl rfl (EQ.skip rfl rfl rfl rfl (EQ.skip rfl rfl rfl rfl (EQ.skip rfl rfl rfl rfl (EQ.skip rfl rfl rfl rfl (EQ.skip rfl rfl rfl rfl (EQ.skip rfl rfl rfl rfl (EQ.skip rfl rfl rfl rfl ?_)))))))));refine EQ.skip rfl rfl rfl rfl (EQ.skip rfl rfl rfl rfl (EQ.skip rfl rfl rfl rfl (EQ.skip rfl rfl rfl rfl (EQ.skip rfl rfl rfl rfl ?_))));refine EQ.val (fun _ hw => (Z7 rfl rfl)) rfl ?_
     refine EQ.fin (fun w9 hw_ => ?_)
     replace qb := qb.bl hw_;replace q1 := q1.bl hw_;replace q2 := q2.bl hw_;replace hgw := Zw hgw hw_;clear hw_
     exact EX.cutE false ⟨rfl, trivial⟩ (by repeat first | with_reducible exact (Sub.refl _).del _ | refine sp_ rfl ?_ | exact (Sub.refl _).del _ | refine sd_ rfl ?_ | refine sn_ ?_) ⟨by rw [QJv rfl hco]; rfl, qb, q2, hgw⟩
  ·
   clear qb q2 q1 hgw
   rintro x W1 ⟨hx, qb, q2, hgw⟩
   cases x
   ·
    refine EC.no rfl (EC.skip (EX.seq (EC.ret (EX.seq_ret ?_))))
    exact EX.done (v := .tuple #[]) (res0 rfl) ⟨rfl, by rw [QFM hct, hx, if_neg (by decide)]; exact ⟨_, _, _, _, _, _, _, _, _, _, _, qb, hbp.grown hgw⟩, hgw⟩
   ·
    refine EC.yes rfl (EC.region (EL.mv rfl rfl (EL.mv rfl rfl (EL.val (Yp rfl (q2.at (j := 0) rfl) (q2.at (j := 1) rfl) (q2.at (j := 2) rfl) (q2.at (j := 3) rfl) (q2.at (j := 4) rfl) (q2.at (j := 5) rfl) (q2.at (j := 6) rfl) (q2.at (j := 7) rfl) (q2.at (j := 8) rfl) (q2.at (j := 9) rfl) (q2.at (j := 10) rfl)) rfl (EL.val (QHU rfl rfl rfl) rfl (EL.val (ZG rfl) rfl (EL.store rfl rfl qb QGg rfl rfl rfl rfl ?_)))))));intro w10 hq10 hg10;replace q2 := q2.gr hg10 n0_2.symm;replace hgw := Z3 hgw hg10;replace qb := hq10;clear hg10 hq10;refine EL.nil (EX.seq (EC.ret (EX.seq_ret ?_)))
    exact EX.done (v := .tuple #[]) (res0 rfl) ⟨rfl, by rw [QFM hct, hx, if_pos rfl]; exact ⟨_, _, _, _, _, _, _, _, _, _, _, qb, hrp.grown hgw⟩, hgw⟩
 ·
  have hcf : YJ q d.s = false := by cases hcb : YJ q d.s; rfl; have := (QFi hd).1 hcb; omega
  obtain ⟨k, rfl⟩ := QNc hd hcf hK;have IH := IH0 k rfl;clear IH0;refine EL.val (YH (r := false) rfl rfl (decide_eq_false (by omega))) rfl ?_
  refine EL.nil (EX.seq (EC.no rfl (EC.skip (EX.seq (EC.seq (EC.region (EL.as rfl rfl (EL.nil (EX.seq ?_)))))))));refine EC.block ?_;have hbm : FndM w2 gb (accX th most q k b d 0) := ⟨_, _, _, _, _, _, _, _, _, _, _, qb, hbp.grown hgw⟩;refine EC.loopD [12, 13, 14, 15, 16, 17, 55, 56, 57, 58, 59, 60, 61, 62, 63, 64, 65, 66, 67, 68, 69, 70, 71, 72, 73, 74, 75, 76, 77, 78, 79, 80, 81, 82, 83, 84, 85, 86, 87, 88, 89, 90, 91, 92, 93, 94, 95] (fun x : Nat => [(12, .int .i64 (x : Nat))]) (fun x W => x ≤ 2 ∧ FndM W gb (accX th most q k b d x) ∧ Blk W g1 23 #[.int .i64 l.length, .int .i64 l.cycle, .int .i64 l.turn, .int .i64 l.fill, .int .i64 l.save, .bool l.high] ∧ Blk W g2 45 #[.slice Au nu cu, .slice Ad nd cd, .int .i64 d.s.fr, .bool d.s.lk.high, .slice Ar nr cr, .int .i64 d.s.cost, .int .i64 d.s.mv, .int .i64 d.s.up, .int .i64 d.s.lo, .int .i64 d.s.ch, .int .i64 d.s.ba] ∧ w.grownBy W (some gb)) (fun x => 2 - x) 0 ⟨by omega, hbm, q1, q2, hgw⟩ ⟨rfl, trivial⟩ ?_
  clear hbm qb hbp q1 q2 hgw
  rintro x wx ⟨hx, hbm, q1, q2, hgw⟩
  by_cases hltx : x < 2
  ·
   refine EC.seq (EC.seq (EC.region (EL.mv rfl rfl ?_)));refine EL.val (ZS (r := true) rfl rfl (decide_eq_true (by omega))) rfl ?_
   refine EL.nil (EX.seq (EC.yes rfl (EC.skip (EX.seq (EC.seq (EC.block (EC.seq (EC.region (EL.val (QDA rfl) rfl ?_)))))))));refine EL.val (Yf rfl (q2.at (j := 1) rfl)) rfl (EL.val (Zs rfl) rfl (EL.as rfl rfl (EL.nil (EX.seq ?_))));refine EC.cutD [13, 62, 63, 64, 65, 66] (fun u : Bool => [(13, .int .i64 ((waitL q d.s u).length : Nat))]) (fun u W => x = uN u ∧ FndM W gb (accN th most q k b d u 0) ∧ Blk W g1 23 #[.int .i64 l.length, .int .i64 l.cycle, .int .i64 l.turn, .int .i64 l.fill, .int .i64 l.save, .bool l.high] ∧ Blk W g2 45 #[.slice Au nu cu, .slice Ad nd cd, .int .i64 d.s.fr, .bool d.s.lk.high, .slice Ar nr cr, .int .i64 d.s.cost, .int .i64 d.s.mv, .int .i64 d.s.up, .int .i64 d.s.lo, .int .i64 d.s.ch, .int .i64 d.s.ba] ∧ w.grownBy W (some gb)) ?_ ?_
   ·
    by_cases hx0 : x = 0
    ·
     refine EC.seq (EC.region (EL.mv rfl rfl ?_));refine EL.val (YH (r := false) rfl rfl (decide_eq_false (by omega))) rfl ?_
     refine EL.nil (EX.seq (EC.no rfl (EC.skip ?_)))
     exact EX.cutE false ⟨by rw [← hnd]; rfl, trivial⟩ (by repeat first | with_reducible exact (Sub.refl _).del _ | refine sp_ rfl ?_ | exact (Sub.refl _).del _ | refine sd_ rfl ?_ | refine sn_ ?_) ⟨by unfold uN; simp; omega, by rw [show x = 0 by omega] at hbm; exact hbm, q1, q2, hgw⟩
    ·
     refine EC.seq (EC.region (EL.mv rfl rfl ?_));refine EL.val (YH (r := true) rfl rfl (decide_eq_true (by omega))) rfl ?_
     refine EL.nil (EX.seq (EC.yes rfl (EC.region (EL.val (QDB rfl) rfl (EL.val (Yf rfl (q2.at (j := 0) rfl)) rfl (EL.val (Zs rfl) rfl (EL.as rfl rfl (EL.nil ?_))))))))
     exact EX.cutE true ⟨by rw [← hnu]; rfl, trivial⟩ (by repeat first | with_reducible exact (Sub.refl _).del _ | refine sp_ rfl ?_ | exact (Sub.refl _).del _ | refine sd_ rfl ?_ | refine sn_ ?_) ⟨by unfold uN; simp; omega, by rw [show x = 1 by omega] at hbm; exact hbm, q1, q2, hgw⟩
   ·
    clear hbm q1 q2 hgw
    rintro u W2 ⟨hxu, hbm, q1, q2, hgw⟩
    obtain ⟨nw, hnw⟩ : ∃ n, n = (waitL q d.s u).length := ⟨_, rfl⟩;rw [← hnw];have hn8 : nw ≤ 8 := by rw [hnw]; cases u <;> omega
    refine EC.seq (EC.region (EL.as rfl rfl (EL.nil (EX.seq (EC.block ?_)))));refine EC.loopD [14, 15, 16, 17, 67, 68, 69, 70, 71, 72, 73, 74, 75, 76, 77, 78, 79, 80, 81, 82, 83, 84, 85, 86, 87, 88, 89, 90, 91, 92, 93, 94, 95] (fun n : Nat => [(14, .int .i64 ((n + 1) : Nat))]) (fun n W => n ≤ nw ∧ FndM W gb (accN th most q k b d u n) ∧ Blk W g1 23 #[.int .i64 l.length, .int .i64 l.cycle, .int .i64 l.turn, .int .i64 l.fill, .int .i64 l.save, .bool l.high] ∧ Blk W g2 45 #[.slice Au nu cu, .slice Ad nd cd, .int .i64 d.s.fr, .bool d.s.lk.high, .slice Ar nr cr, .int .i64 d.s.cost, .int .i64 d.s.mv, .int .i64 d.s.up, .int .i64 d.s.lo, .int .i64 d.s.ch, .int .i64 d.s.ba] ∧ w.grownBy W (some gb)) (fun n => nw - n) 0 ⟨Nat.zero_le _, hbm, q1, q2, hgw⟩ ⟨rfl, trivial⟩ ?_
    clear hbm q1 q2 hgw
    rintro n wn ⟨hn, hbm, q1, q2, hgw⟩
    by_cases hltn : n < nw
    ·
     obtain ⟨Ab, cb, Bu, mu, du, Bd, md, dd, Br, mr, dr, qb, hbp⟩ := hbm
     unfold fndC at qb
     obtain ⟨av, eav⟩ : ∃ z, z = (accN th most q k b d u n) := ⟨_, rfl⟩;rw [← eav] at qb hbp;have hszn := hgw.size;have hgx : wn.grownBy wn (some gb) := QD5 wn gb;have hgn := hgw;have hun := hru.grown hgw;have hdn := hrd.grown hgw;have hrn := hrr.grown hgw;have hpn := hrp.grown hgw;refine EC.seq (EC.seq (EC.region (EL.mv rfl rfl (EL.mv rfl rfl ?_))));refine EL.val (QBD (r := true) rfl rfl (decide_eq_true (by omega))) rfl ?_
     refine EL.nil (EX.seq (EC.yes rfl (EC.skip (EX.seq (EC.seq (EC.block (EC.seq (EC.region (EL.mv rfl rfl ?_)))))))));refine EL.val (YH (r := u) rfl rfl (by rw [hxu]; cases u <;> rfl)) rfl ?_
     refine EL.mv rfl rfl (EL.val (QAe rfl rfl) rfl (EL.newP QHa rfl ?_));intro g11 w11 q11 hb11 hg11 hl11;have n1_11 := q1.na hg11;have n2_11 := q2.na hg11;have n0_11 := qb.na hg11;have bx11 : wn.heap.size ≤ g11 := Nat.le_trans hgx.size hg11;replace q1 := q1.bl hb11;replace q2 := q2.bl hb11;replace qb := qb.bl hb11;replace hgx := Zw hgx hb11;clear hb11 hg11 hl11;refine EL.store rfl rfl q11 QGf rfl rfl rfl rfl ?_;intro w12 hq12 hg12;replace q1 := q1.gr hg12 n1_11;replace q2 := q2.gr hg12 n2_11;replace qb := qb.gr hg12 n0_11;replace hgx := QC6 hgx hg12 bx11;replace q11 := hq12;clear hg12 hq12;refine EL.nil (EX.seq (EC.seq (EC.region (EL.val (YY rfl (q1.at (j := 0) rfl) (q1.at (j := 1) rfl) (q1.at (j := 2) rfl) (q1.at (j := 3) rfl) (q1.at (j := 4) rfl) (q1.at (j := 5) rfl)) rfl (EL.val (Yp rfl (q2.at (j := 0) rfl) (q2.at (j := 1) rfl) (q2.at (j := 2) rfl) (q2.at (j := 3) rfl) (q2.at (j := 4) rfl) (q2.at (j := 5) rfl) (q2.at (j := 6) rfl) (q2.at (j := 7) rfl) (q2.at (j := 8) rfl) (q2.at (j := 9) rfl) (q2.at (j := 10) rfl)) rfl (EL.val (QBg rfl (q11.at (j := 0) rfl) (q11.at (j := 1) rfl)) rfl ?_))))))
     cases hfit : fitN q d.s u (n + 1)
     ·
      refine EL.call (cA3 cF44 rfl rfl rfl) rfl (QKK hq hd (hnw ▸ hltn) hfit (hun.grown hgx) hnu (hdn.grown hgx) hnd (hrn.grown hgx) (by omega) qb.lt) ?_
      rintro e ws ⟨rfl, hcs⟩
      refine ⟨_, rfl, ?_⟩;replace q1 := q1.bl hcs;replace q2 := q2.bl hcs;replace qb := qb.bl hcs;replace q11 := q11.bl hcs;replace hgx := Zw hgx hcs;clear hcs;refine EL.mv rfl rfl (EL.val (ZR (v := .agg #[.slice Au nu cu, .slice Ad nd cd, .int .i64 d.s.fr, .bool d.s.lk.high, .slice Ar nr cr, .int .i64 d.s.cost, .int .i64 d.s.mv, .int .i64 d.s.up, .int .i64 d.s.lo, .int .i64 d.s.ch, .int .i64 d.s.ba]) rfl rfl) rfl (EL.val (ZR (v := .bool false) rfl rfl) rfl (EL.newP QE_ rfl ?_)));intro g13 w13 q13 hb13 hg13 hl13;have n1_13 := q1.na hg13;have n2_13 := q2.na hg13;have n0_13 := qb.na hg13;have n11_13 := q11.na hg13;have bx13 : wn.heap.size ≤ g13 := Nat.le_trans hgx.size hg13;replace q1 := q1.bl hb13;replace q2 := q2.bl hb13;replace qb := qb.bl hb13;replace q11 := q11.bl hb13;replace hgx := Zw hgx hb13;clear hb13 hg13 hl13;refine EL.store rfl rfl q13 QAx rfl rfl rfl rfl ?_;intro w14 hq14 hg14;replace q1 := q1.gr hg14 n1_13;replace q2 := q2.gr hg14 n2_13;replace qb := qb.gr hg14 n0_13;replace q11 := q11.gr hg14 n11_13;replace hgx := QC6 hgx hg14 bx13;replace q13 := hq14;clear hg14 hq14;refine EL.as rfl rfl (EL.nil (EX.seq (EC.seq (EC.region (EL.mv rfl rfl (EL.nil (EX.seq (EC.no rfl (EC.skip ?_)))))))));refine EX.blk (EX.seq (EC.region (EL.mv rfl rfl ?_)));refine EL.val (ZP rfl rfl (c := (((n + 1) + 1 : Nat) : Int)) ((IntWalk.i64_in _ ⟨by first | omega | (simp only; omega), by first | omega | (simp only; omega)⟩).trans (by first | omega | (simp only; omega)))) rfl ?_
      refine EL.as rfl rfl (EL.nil ?_);refine EX.roundD (n + 1) ⟨rfl, trivial⟩ (by repeat first | with_reducible exact .refl _ | refine sp_ rfl ?_ | exact .refl _ | refine sd_ rfl ?_ | refine sn_ ?_) ⟨hltn, by rw [QMe (QH5 hfit), ← eav]; exact ⟨_, _, _, _, _, _, _, _, _, _, _, qb, hbp.grown hgx⟩, q1, q2, QHD hgn hgx⟩ (by omega)
     ·
      refine EL.call (cA3 cF44 rfl rfl rfl) rfl (QJJ hq hd (hnw ▸ hltn) hfit (hun.grown hgx) hnu (hdn.grown hgx) hnd (hrn.grown hgx) (by omega) qb.lt) ?_
      rintro e ws ⟨⟨Au2, nu2, cu2, Ad2, nd2, cd2, Ar2, cr2, rs2, hnu2, hnd2, hrl2, rfl, hu2, hd2, hr2⟩, hcs⟩
      refine ⟨_, rfl, ?_⟩;replace q1 := q1.bl hcs;replace q2 := q2.bl hcs;replace qb := qb.bl hcs;replace q11 := q11.bl hcs;replace hgx := Zw hgx hcs;clear hcs;have hgs : ws.grownBy ws (some gb) := QD5 ws gb;refine EL.mv rfl rfl (EL.val (ZR (v := .agg #[.slice Au2 nu2 cu2, .slice Ad2 nd2 cd2, .int .i64 (oneD q d u (n + 1)).s.fr, .bool (oneD q d u (n + 1)).s.lk.high, .slice Ar2 (nr + 1) cr2, .int .i64 (oneD q d u (n + 1)).s.cost, .int .i64 (oneD q d u (n + 1)).s.mv, .int .i64 (oneD q d u (n + 1)).s.up, .int .i64 (oneD q d u (n + 1)).s.lo, .int .i64 (oneD q d u (n + 1)).s.ch, .int .i64 (oneD q d u (n + 1)).s.ba]) rfl rfl) rfl (EL.val (ZR (v := .bool true) rfl rfl) rfl (EL.newP QE_ rfl ?_)));intro g15 w15 q15 hb15 hg15 hl15;have n1_15 := q1.na hg15;have n2_15 := q2.na hg15;have n0_15 := qb.na hg15;have n11_15 := q11.na hg15;have bx15 : wn.heap.size ≤ g15 := Nat.le_trans hgx.size hg15;have bs15 : ws.heap.size ≤ g15 := Nat.le_trans hgs.size hg15;replace q1 := q1.bl hb15;replace q2 := q2.bl hb15;replace qb := qb.bl hb15;replace q11 := q11.bl hb15;replace hgx := Zw hgx hb15;replace hgs := Zw hgs hb15;clear hb15 hg15 hl15;refine EL.store rfl rfl q15 QAx rfl rfl rfl rfl ?_;intro w16 hq16 hg16;replace q1 := q1.gr hg16 n1_15;replace q2 := q2.gr hg16 n2_15;replace qb := qb.gr hg16 n0_15;replace q11 := q11.gr hg16 n11_15;replace hgx := QC6 hgx hg16 bx15;replace hgs := QC6 hgs hg16 bs15;replace q15 := hq16;clear hg16 hq16;refine EL.as rfl rfl (EL.nil (EX.seq (EC.seq (EC.region (EL.mv rfl rfl (EL.nil (EX.seq (EC.yes rfl ?_))))))));have hgz := hgx.size;have hdk := hd;have hg16 := qb.lt;have lt_1 := q1.lt;have lt_2 := q2.lt;have lt_0 := qb.lt;have lt_11 := q11.lt;have lt_15 := q15.lt;refine EC.regionS [[], [], [], [], [2, 3], [], [5], [2, 3, 4, 5, 6], [], [], [], [0, 1, 2, 3, 4, 5, 6, 7, 8, 9, 10]] 11 [] [7] (fun _ w_ => Below w16.heap.size w16 w_) (phiS (fun i_ r => match i_ with | 0 => r 0 = .agg #[.int .i64 l.length, .int .i64 l.cycle, .int .i64 l.turn, .int .i64 l.fill, .int .i64 l.save, .bool l.high] | 1 => r 1 = .agg #[.slice Au2 nu2 cu2, .slice Ad2 nd2 cd2, .int .i64 (oneD q d u (n + 1)).s.fr, .bool (oneD q d u (n + 1)).s.lk.high, .slice Ar2 (nr + 1) cr2, .int .i64 (oneD q d u (n + 1)).s.cost, .int .i64 (oneD q d u (n + 1)).s.mv, .int .i64 (oneD q d u (n + 1)).s.up, .int .i64 (oneD q d u (n + 1)).s.lo, .int .i64 (oneD q d u (n + 1)).s.ch, .int .i64 (oneD q d u (n + 1)).s.ba] | 3 => r 3 = .slice Ap d.plan.length cp | 5 => r 5 = .agg #[.bool u, .int .i64 ((n + 1 : Nat) : Int)] | 8 => r 8 = .bool th | 9 => r 9 = .int .i64 most | 10 => r 10 = .pointer (some ⟨gb, 0, none⟩) | _ => True) [(2, fun fl r w_ => fl 7 = false → (∃ g_, r 2 = .slice (some ⟨g_, 0, none⟩) 0 0 ∧ Blk w_ g_ 87 #[] ∧ w16.heap.size ≤ g_)), (4, fun fl r w_ => fl 7 = false → (∃ A_ c_, r 4 = .slice A_ d.plan.length c_ ∧ w_.ownsRow w16.heap.size 87 2 (.slice A_ d.plan.length c_) d.plan.length (spsC d.plan))), (6, fun fl r w_ => fl 7 = false → (∃ g_, r 6 = .slice (some ⟨g_, 0, none⟩) 1 1 ∧ Blk w_ g_ 87 #[.bool u, .int .i64 ((n + 1 : Nat) : Int)] ∧ w16.heap.size ≤ g_)), (7, fun _ r w_ => ∃ A_ c_, r 7 = .slice A_ (d.plan.length + 1) c_ ∧ w_.ownsRow w16.heap.size 87 2 (.slice A_ (d.plan.length + 1) c_) (d.plan.length + 1) (spsC d.plan ++ [.bool u, .int .i64 ((n + 1 : Nat) : Int)]))]) (by kernel_rfl) rfl rfl (by intro i hi; simp at hi; subst hi; exact ⟨by simp, by omega⟩) (YG w16) (ZK (Z0 Yj) (ZK (Z0 YU) (ZK (Z0 Yj) (ZK QG3 (Zb))))) (fun i_ hi_ hs_ => ?_) (fun i_ hi_ => ?_) ?_
      ·match i_, hi_ with
       | 0, _ =>
        intro val fl w1 a hb ha hd hfl;have ha := ha.s0 (d := 6) rfl
        exact ZC ha rfl rfl (YY rfl ((q1.below hb q1.lt).at (j := 0) rfl) ((q1.below hb q1.lt).at (j := 1) rfl) ((q1.below hb q1.lt).at (j := 2) rfl) ((q1.below hb q1.lt).at (j := 3) rfl) ((q1.below hb q1.lt).at (j := 4) rfl) ((q1.below hb q1.lt).at (j := 5) rfl)) rfl rfl
       | 1, _ =>
        intro val fl w1 a hb ha hd hfl;have ha := ha.s0 (d := 16) rfl
        exact ZC ha rfl rfl (Yp rfl ((q15.below hb q15.lt).at (j := 0) rfl) ((q15.below hb q15.lt).at (j := 1) rfl) ((q15.below hb q15.lt).at (j := 2) rfl) ((q15.below hb q15.lt).at (j := 3) rfl) ((q15.below hb q15.lt).at (j := 4) rfl) ((q15.below hb q15.lt).at (j := 5) rfl) ((q15.below hb q15.lt).at (j := 6) rfl) ((q15.below hb q15.lt).at (j := 7) rfl) ((q15.below hb q15.lt).at (j := 8) rfl) ((q15.below hb q15.lt).at (j := 9) rfl) ((q15.below hb q15.lt).at (j := 10) rfl)) rfl rfl
       | 2, _ =>
        intro val fl w1 a hb ha hd hfl;have ha := ha.sub (Sub.nil _)
        exact Y4 ha rfl rfl (QMS) rfl (fun g w' hq _ hge => fun _ => ⟨g, rfl, hq, Nat.le_trans hb.size hge⟩)
       | 3, _ =>
        intro val fl w1 a hb ha hd hfl;have ha := ha.s0 (d := 2) rfl
        exact ZC ha rfl rfl (x_move rfl) rfl rfl
       | 4, _ =>
        intro val fl w1 a hb ha hd hfl;obtain ⟨g2_, e2, q2_, h2_⟩ := hd 2 (ZA.1 rfl) (hfl 7 (by simp) (ZA.1 rfl))
        change val 2 = _ at e2;have e3 : val 3 = _ := hd 3 (ZA.1 rfl);have ha := ha.s2 (d := 87) (e := 86) rfl e3 rfl e2;refine QIS QDy ha rfl rfl rfl q2_ h2_ (((hpn.grown hgx).rd).below hb) (spsC_one _) (by omega) rfl hb.size rfl (fun v' w' ho => fun _ => ?_)
        obtain ⟨A, c9, rfl, _⟩ := (Rd.of_own ho).shape
        exact ⟨A, c9, rfl, ho⟩
       | 5, _ =>
        intro val fl w1 a hb ha hd hfl;have ha := ha.s0 (d := 15) rfl
        exact ZC ha rfl rfl (QBg rfl ((q11.below hb q11.lt).at (j := 0) rfl) ((q11.below hb q11.lt).at (j := 1) rfl)) rfl rfl
       | 6, _ =>
        intro val fl w1 a hb ha hd hfl;have e5 : val 5 = _ := hd 5 (ZA.1 rfl);have ha := ha.s1 (d := 89) rfl e5
        exact Y4 ha rfl rfl (QGU rfl) rfl (fun g w' hq _ hge => fun _ => ⟨g, rfl, hq, Nat.le_trans hb.size hge⟩)
       | 7, _ =>
        exact absurd (by simp) hs_
       | 8, _ =>
        intro val fl w1 a hb ha hd hfl;have ha := ha.s0 (d := 3) rfl
        exact ZC ha rfl rfl (x_move rfl) rfl rfl
       | 9, _ =>
        intro val fl w1 a hb ha hd hfl;have ha := ha.s0 (d := 4) rfl
        exact ZC ha rfl rfl (x_move rfl) rfl rfl
       | 10, _ =>
        intro val fl w1 a hb ha hd hfl;have ha := ha.s0 (d := 5) rfl
        exact ZC ha rfl rfl (x_move rfl) rfl rfl
       | k + 11, h => exact absurd h (by omega)
      ·simp only [List.mem_singleton] at hi_; subst hi_
       intro val fl w1 a hb hfi ha hd hfl;obtain ⟨A4_, c4_, e4, o4_⟩ := hd 4 (ZA.1 rfl) hfi;change val 4 = _ at e4;obtain ⟨g6_, e6, q6_, h6_⟩ := hd 6 (ZA.1 rfl) hfi;change val 6 = _ at e6;have ha := ha.s2 (d := 90) (e := 88) rfl e6 rfl e4;refine QAW QDy ha rfl rfl rfl o4_ (QA9 (l := [.bool u, .int .i64 ((n + 1 : Nat) : Int)]) q6_ rfl) (by intro u hu; simp only [List.mem_cons, List.not_mem_nil, or_false] at hu; rcases hu with rfl | rfl <;> rfl) (by omega) rfl hb.size ?_
       intro v' w' ho' hgr hat;obtain ⟨A9, c9, rfl, _⟩ := (Rd.of_own ho').shape;refine ⟨_, rfl, hgr.size, hb.trans (ZI (YW o4_ (Nat.le_refl _)) hgr hb.size), ⟨A9, c9, rfl, ho'⟩, fun j _ hj hn hA => ?_⟩
       exact ZF (C := fun j => j ≠ 7 ∧ 7 ∉ clsAt [[], [], [], [], [2, 3], [], [5], [2, 3, 4, 5, 6], [], [], [], [0, 1, 2, 3, 4, 5, 6, 7, 8, 9, 10]] j) (fun _ _ h => by rw [ZQ] at h; cases h) (ZF (fun _ _ h => by rw [ZQ] at h; cases h) (ZF (fun _ _ h => by rw [ZQ] at h; cases h) (ZF (fun hc => absurd rfl hc.1) (fun _ _ h => h)))) j ⟨hj, hn⟩
      ·intro val fl wR16 hfl hb halc hd
       have e0 : val 0 = _ := hd 0 (by omega)
       have e1 : val 1 = _ := hd 1 (by omega)
       have e3 : val 3 = _ := hd 3 (by omega)
       have e5 : val 5 = _ := hd 5 (by omega)
       obtain ⟨A7_, c7_, e7, o7_⟩ := hd 7 (by omega)
       change val 7 = _ at e7;have e8 : val 8 = _ := hd 8 (by omega)
       have e9 : val 9 = _ := hd 9 (by omega)
       have e10 : val 10 = _ := hd 10 (by omega)
       refine EL.ends (cs := [_, _, val 2, _, val 4, _, val 6, _, _, _, _]) ⟨e0, e1, rfl, e3, rfl, e5, rfl, e7, e8, e9, e10, trivial⟩ rfl ?_;replace q1 := q1.bl hb;replace q2 := q2.bl hb;replace qb := qb.bl hb;replace q11 := q11.bl hb;replace q15 := q15.bl hb;replace hgx := Zw hgx hb;replace hgs := Zw hgs hb;clear hb;have hbn : FndM wR16 gb av := ⟨_, _, _, _, _, _, _, _, _, _, _, qb, hbp.grown hgx⟩;have hca := IH (oneD q d u (n + 1)) rs2 av (DrOk.one hq hdk (by omega) (by omega) hfit) (by have := QFy (n := n + 1) (u := u) hdk (by omega); omega) hnu2 hnd2 (hrl2.trans (by rw [QF6]; omega)) hrl2.symm (hu2.grown hgs) (hd2.grown hgs) (hr2.grown hgs) (by rw [QF6]; exact RdX.of_own (base := w16.heap.size) (by rw [QKT]; exact o7_) hg16) hbn
       rw [QF6] at hca;refine EL.call (cA6 cF47 rfl rfl rfl rfl rfl rfl) rfl hca ?_
       rintro e w17 ⟨rfl, hbm, hgr⟩
       refine ⟨_, rfl, ?_⟩;replace q1 := q1.gr hgr n0_1.symm;replace q2 := q2.gr hgr n0_2.symm;replace hgx := Z3 hgx hgr;clear hca;refine EL.nil (EX.blk (EX.seq (EC.region (EL.mv rfl rfl ?_))));refine EL.val (ZP rfl rfl (c := (((n + 1) + 1 : Nat) : Int)) ((IntWalk.i64_in _ ⟨by first | omega | (simp only; omega), by first | omega | (simp only; omega)⟩).trans (by first | omega | (simp only; omega)))) rfl ?_
       refine EL.as rfl rfl (EL.nil ?_);refine EX.roundD (n + 1) ⟨rfl, trivial⟩ (by repeat first | with_reducible exact .refl _ | refine sp_ rfl ?_ | exact .refl _ | refine sd_ rfl ?_ | refine sn_ ?_) ⟨hltn, by rw [QLQ (QH6 hq (hnw ▸ hltn) hfit), ← eav]; exact hbm, q1, q2, QHD hgn hgx⟩ (by omega)
    ·
     have hxn : n = nw := by omega
     have hbm2 : FndM wn gb (accX th most q k b d (x + 1)) := by rw [QJm hcf hxu (n := n) (by omega)]; exact hbm
     clear hbm;have hbm := hbm2;clear hbm2;refine EC.seq (EC.seq (EC.region (EL.mv rfl rfl (EL.mv rfl rfl ?_))));refine EL.val (QBD (r := false) rfl rfl (decide_eq_false (by omega))) rfl ?_
     refine EL.nil (EX.seq (EC.no rfl (EC.exit (EX.seq_exit (EX.seq_exit (EX.blk_here (EX.blk (EX.seq (EC.region ?_)))))))));refine EL.mv rfl rfl ?_;refine EL.val (ZP rfl rfl (c := ((x + 1 : Nat) : Int)) ((IntWalk.i64_in _ ⟨by first | omega | (simp only; omega), by first | omega | (simp only; omega)⟩).trans (by first | omega | (simp only; omega)))) rfl ?_
     refine EL.as rfl rfl (EL.nil ?_);refine EX.roundD (x + 1) ⟨rfl, trivial⟩ (by repeat first | with_reducible exact .refl _ | refine sp_ rfl ?_ | exact .refl _ | refine sd_ rfl ?_ | refine sn_ ?_) ⟨hltx, hbm, q1, q2, hgw⟩ (by omega)
  ·
   obtain rfl : x = 2 := by omega
   refine EC.seq (EC.seq (EC.region (EL.mv rfl rfl ?_)));refine EL.val (ZS (r := false) rfl rfl (decide_eq_false (by decide))) rfl ?_
   refine EL.nil (EX.seq (EC.no rfl (EC.exit (EX.seq_exit (EX.seq_exit (EX.blk_here ?_))))))
   exact EX.done' (v := .tuple #[]) (res0 rfl) ⟨rfl, hbm, hgw⟩
theorem QIL {l : LK} {q : QS} {th : Bool} {most : Int} (hq : QOk l q) : ∀ K, QGY l q th most K
 | 0 => QGc hq fun k h => by cases h
 | K + 1 => QGc hq fun k h => by cases h; exact QIL hq K
section
variable {n : Nat} {σ : Sg} {w : World} {dst : Option Tmp} {ty : TypeId} {pos : String} {af : Array Edge} {g : Option (Nat × Bool)} {x y z : Operand} {at' : Array TypeId}
theorem QI9 (a : Act) (_ : Env n σ a) : (execOp a.eval ⟨dst, .alloc 54, ty, pos, af, g⟩).run Try.prog w = .ok (.value (.pointer (some ⟨w.heap.size, 0, none⟩))) (w.alloc (.cells #[.bool false, .slice none 0 0, .slice none 0 0, .slice none 0 0, .int .i64 0, .bool false, .slice none 0 0, .int .i64 0, .int .i64 0, .int .i64 0, .int .i64 0, .int .i64 0, .int .i64 0] 54)) := by
 simp only [execOp]
 simp [go_sem]
theorem QNT    : ZJ Try.prog n σ w ⟨dst, .build 54 #[], ty, pos, af, g⟩ (.agg #[.bool false, .slice none 0 0, .slice none 0 0, .slice none 0 0, .int .i64 0, .bool false, .slice none 0 0, .int .i64 0, .int .i64 0, .int .i64 0, .int .i64 0, .int .i64 0, .int .i64 0]) := fun a _ => by
 simp only [execOp, List.map_toArray, List.map_nil]
 go_simp
theorem QNl {b o : Nat} {v0 v1 v2 v3 v4 v5 v6 v7 v8 v9 v10 v11 v12 : Value} (hx : evS σ x = some (.pointer (some ⟨b, o, none⟩))) (c0 : w.cell? ⟨b, o, none⟩ = some v0) (c1 : w.cell? ⟨b, o + 1, none⟩ = some v1) (c2 : w.cell? ⟨b, o + 2, none⟩ = some v2) (c3 : w.cell? ⟨b, o + 3, none⟩ = some v3) (c4 : w.cell? ⟨b, o + 4, none⟩ = some v4) (c5 : w.cell? ⟨b, o + 5, none⟩ = some v5) (c6 : w.cell? ⟨b, o + 6, none⟩ = some v6) (c7 : w.cell? ⟨b, o + 7, none⟩ = some v7) (c8 : w.cell? ⟨b, o + 8, none⟩ = some v8) (c9 : w.cell? ⟨b, o + 9, none⟩ = some v9) (c10 : w.cell? ⟨b, o + 10, none⟩ = some v10) (c11 : w.cell? ⟨b, o + 11, none⟩ = some v11) (c12 : w.cell? ⟨b, o + 12, none⟩ = some v12) : ZJ Try.prog n σ w ⟨dst, .load 54 x, ty, pos, af, g⟩ (.agg #[v0, v1, v2, v3, v4, v5, v6, v7, v8, v9, v10, v11, v12]) := fun a ha => by
 simp only [execOp, ha.eval hx]
 simp [go_sem, c0, c1, c2, c3, c4, c5, c6, c7, c8, c9, c10, c11, c12]
theorem QNh {b o : Nat} {v0 v1 v2 v3 v4 v5 v6 v7 v8 v9 v10 v11 v12 : Value} (c0 : w.cell? ⟨b, o, none⟩ = some v0) (c1 : w.cell? ⟨b, o + 1, none⟩ = some v1) (c2 : w.cell? ⟨b, o + 2, none⟩ = some v2) (c3 : w.cell? ⟨b, o + 3, none⟩ = some v3) (c4 : w.cell? ⟨b, o + 4, none⟩ = some v4) (c5 : w.cell? ⟨b, o + 5, none⟩ = some v5) (c6 : w.cell? ⟨b, o + 6, none⟩ = some v6) (c7 : w.cell? ⟨b, o + 7, none⟩ = some v7) (c8 : w.cell? ⟨b, o + 8, none⟩ = some v8) (c9 : w.cell? ⟨b, o + 9, none⟩ = some v9) (c10 : w.cell? ⟨b, o + 10, none⟩ = some v10) (c11 : w.cell? ⟨b, o + 11, none⟩ = some v11) (c12 : w.cell? ⟨b, o + 12, none⟩ = some v12) : (loadVar 54 ⟨b, o, none⟩).run Try.prog w = .ok (.agg #[v0, v1, v2, v3, v4, v5, v6, v7, v8, v9, v10, v11, v12]) w := by
 simp [go_sem, loadVar, c0, c1, c2, c3, c4, c5, c6, c7, c8, c9, c10, c11, c12]
end
theorem QL4 {k base e n m : Nat} {xs ys : List Value} {f : Option Addr → Nat → Option Addr → Nat → Value} : Mono fun r w => ∃ A c A2 c2, r k = f A c A2 c2 ∧ w.ownsRow base e 5 (.slice A n c) n xs ∧ w.ownsRow base e 5 (.slice A2 m c2) m ys := fun _ _ _ hb ⟨A, c, A2, c2, h1, h2, h3⟩ => ⟨A, c, A2, c2, h1, ZE h2 hb (Nat.le_refl _), ZE h3 hb (Nat.le_refl _)⟩
theorem QJC {l : LK} {ts : List TW} {th : Bool} {most : Int} {Au Ad : Option Addr} {cu cd gb : Nat} {w : World} (he : towE l ts = 0) (h1 : RdX w gb 5 (.slice Au (qL ts true).length cu) (qL ts true).length (twsC (qL ts true))) (h2 : RdX w gb 5 (.slice Ad (qL ts false).length cd) (qL ts false).length (twsC (qL ts false))) (hb : FndM w gb none) :
  Calls Try.prog 47 #[.agg #[.int .i64 l.length, .int .i64 l.cycle, .int .i64 l.turn, .int .i64 l.fill, .int .i64 l.save, .bool l.high], .agg #[.slice Au (qL ts true).length cu, .slice Ad (qL ts false).length cd, .int .i64 (stL l).fr, .bool (stL l).lk.high, .slice none 0 0, .int .i64 (stL l).cost, .int .i64 (stL l).mv, .int .i64 (stL l).up, .int .i64 (stL l).lo, .int .i64 (stL l).ch, .int .i64 (stL l).ba], .slice none 0 0, .bool th, .int .i64 most, .pointer (some ⟨gb, 0, none⟩)] w fun e w' => e = .returned (.tuple #[]) ∧ FndM w' gb (refB l ts th most) ∧ w.grownBy w' (some gb) :=
 QIL (QBu he) 8 ⟨stL l, []⟩ [] none (QAr (QBu he).lk) (rem8 (QBu he) _) rfl rfl rfl rfl h1 h2 (RdX.nil_ _ _ _ 0 none) (RdX.nil_ _ _ _ 0 none) hb
set_option maxRecDepth 100000 in
theorem QFR {l : LK} {ts : List TW} {th : Bool} {most : Int} {v : Value} {w : World} {B : Nat} (hr : Rd w B 5 v ts.length (twsC ts)) (hB : B ≤ w.heap.size) (he : towE l ts = 0) :
  Calls Try.prog 24 #[.agg #[.int .i64 l.length, .int .i64 l.cycle, .int .i64 l.turn, .int .i64 l.fill, .int .i64 l.save, .bool l.high], v, .bool th, .int .i64 most] w fun e w' => (∃ Ab cb Bu mu du Bd md dd Br mr dr, e = .returned (.agg #[.bool (refB l ts th most).isSome, .slice Ab (fO (refB l ts th most)).plan.length cb, .slice Bu mu du, .slice Bd md dd, .int .i64 (fO (refB l ts th most)).s.fr, .bool (fO (refB l ts th most)).s.lk.high, .slice Br mr dr, .int .i64 (fO (refB l ts th most)).s.cost, .int .i64 (fO (refB l ts th most)).s.mv, .int .i64 (fO (refB l ts th most)).s.up, .int .i64 (fO (refB l ts th most)).s.lo, .int .i64 (fO (refB l ts th most)).s.ch, .int .i64 (fO (refB l ts th most)).s.ba]) ∧ Rd w' w'.heap.size 2 (.slice Ab (fO (refB l ts th most)).plan.length cb) (fO (refB l ts th most)).plan.length (spsC (fO (refB l ts th most)).plan)) ∧ Below w.heap.size w w' := by
 obtain ⟨At, ct, rfl, _⟩ := hr.shape;have hts8 := (QBG he).2.1;have hbw := Below.refl w.heap.size w;refine EC.enter 19 Try.func24 rfl rfl rfl (EC.seq (EC.region (EL.newP (QAD rfl) rfl ?_)));intro g1 w1 q1 hb1 hg1 hl1;have bhbw_1 := Nat.le_trans hbw.size hg1;replace hbw := bo_ hbw hb1;clear hb1 hg1 hl1;refine EL.newP QI9 rfl ?_;intro g2 w2 q2 hb2 hg2 hl2;have n1_2 := q1.na hg2;have bhbw_2 := Nat.le_trans hbw.size hg2;have l1_2 : g1 < g2 := Nat.lt_of_lt_of_le q1.lt hg2;replace q1 := q1.bl hb2;replace hbw := bo_ hbw hb2;clear hb2 hg2 hl2;refine EL.nil (EX.seq (EC.seq (EC.region (EL.val (QNT) rfl (EL.newP QI9 rfl ?_)))));intro g3 w3 q3 hb3 hg3 hl3;have n1_3 := q1.na hg3;have n2_3 := q2.na hg3;have bhbw_3 := Nat.le_trans hbw.size hg3;have l1_3 : g1 < g3 := Nat.lt_of_lt_of_le q1.lt hg3;have l2_3 : g2 < g3 := Nat.lt_of_lt_of_le q2.lt hg3;replace q1 := q1.bl hb3;replace q2 := q2.bl hb3;replace hbw := bo_ hbw hb3;clear hb3 hg3 hl3;refine EL.store rfl rfl q3 QGg rfl rfl rfl rfl ?_;intro w4 hq4 hg4;replace q1 := q1.gr hg4 n1_3;replace q2 := q2.gr hg4 n2_3;replace hbw := ZD hbw hg4 bhbw_3;replace q3 := hq4;clear hg4 hq4;refine EL.nil (EX.seq (EC.seq ?_));have hsz := hbw.size;have lt_1 := q1.lt;have lt_2 := q2.lt;have lt_3 := q3.lt;refine EC.regionP [[], [], [], [1, 2], [], [], [0, 1, 2, 3, 4, 5]] 6 [] (phi (fun i_ r => match i_ with | 0 => r 0 = .agg #[.int .i64 l.length, .int .i64 l.cycle, .int .i64 l.turn, .int .i64 l.fill, .int .i64 l.save, .bool l.high] | 1 => r 1 = .agg #[.int .i64 l.length, .int .i64 l.cycle, .int .i64 l.turn, .int .i64 l.fill, .int .i64 l.save, .bool l.high] | 2 => r 2 = .slice At ts.length ct | 4 => r 4 = .bool th | 5 => r 5 = .int .i64 most | _ => True) [(3, fun r w_ => ∃ A1 c1 A2 c2, r 3 = .agg #[.slice A1 (qL ts true).length c1, .slice A2 (qL ts false).length c2, .int .i64 (stL l).fr, .bool (stL l).lk.high, .slice none 0 0, .int .i64 (stL l).cost, .int .i64 (stL l).mv, .int .i64 (stL l).up, .int .i64 (stL l).lo, .int .i64 (stL l).ch, .int .i64 (stL l).ba] ∧ w_.ownsRow w4.heap.size 39 5 (.slice A1 (qL ts true).length c1) (qL ts true).length (twsC (qL ts true)) ∧ w_.ownsRow w4.heap.size 39 5 (.slice A2 (qL ts false).length c2) (qL ts false).length (twsC (qL ts false)))]) (by kernel_rfl) rfl rfl (Zt QL4 (YT)) (fun i_ hi_ => ?_) ?_
 ·match i_, hi_ with
  | 0, _ =>
   intro val w1 a hb ha hd;have ha := ha.s0 (d := 4) rfl
   exact ZH ha rfl rfl (YY rfl ((q1.below hb q1.lt).at (j := 0) rfl) ((q1.below hb q1.lt).at (j := 1) rfl) ((q1.below hb q1.lt).at (j := 2) rfl) ((q1.below hb q1.lt).at (j := 3) rfl) ((q1.below hb q1.lt).at (j := 4) rfl) ((q1.below hb q1.lt).at (j := 5) rfl)) rfl rfl
  | 1, _ =>
   intro val w1 a hb ha hd;have ha := ha.s0 (d := 4) rfl
   exact ZH ha rfl rfl (YY rfl ((q1.below hb q1.lt).at (j := 0) rfl) ((q1.below hb q1.lt).at (j := 1) rfl) ((q1.below hb q1.lt).at (j := 2) rfl) ((q1.below hb q1.lt).at (j := 3) rfl) ((q1.below hb q1.lt).at (j := 4) rfl) ((q1.below hb q1.lt).at (j := 5) rfl)) rfl rfl
  | 2, _ =>
   intro val w1 a hb ha hd;have ha := ha.s0 (d := 1) rfl
   exact ZH ha rfl rfl (x_move rfl) rfl rfl
  | 3, _ =>
   intro val w1 a hb ha hd;have e1 : val 1 = _ := hd 1 (ZA.1 rfl);have e2 : val 2 = _ := hd 2 (ZA.1 rfl);have ha := ha.s2 (d := 13) (e := 12) rfl e2 rfl e1;refine Yl ha rfl rfl (cA2 cF43 rfl rfl) (QHt (l := l) (hr.below ((hbw.mono hB).trans (hb.mono (Nat.le_trans hB hsz)))) (Nat.le_trans (Nat.le_trans hB hsz) hb.size) (by omega)) rfl ?_
   rintro e w' ⟨⟨B1, d1, B2, d2, rfl, p1, p2⟩, hb'⟩
   exact ⟨_, rfl, hb', ⟨B1, d1, B2, d2, rfl, YW p1 hb.size, YW p2 hb.size⟩⟩
  | 4, _ =>
   intro val w1 a hb ha hd;have ha := ha.s0 (d := 2) rfl
   exact ZH ha rfl rfl (x_move rfl) rfl rfl
  | 5, _ =>
   intro val w1 a hb ha hd;have ha := ha.s0 (d := 3) rfl
   exact ZH ha rfl rfl (x_move rfl) rfl rfl
  | k + 6, h => exact absurd h (by omega)
 ·intro val wR2 hb halc hd
  have e0 : val 0 = _ := hd 0 (by omega)
  have e1 : val 1 = _ := hd 1 (by omega)
  have e2 : val 2 = _ := hd 2 (by omega)
  obtain ⟨X1, y1, X2, y2, e3, ho1, ho2⟩ := hd 3 (by omega)
  have e4 : val 4 = _ := hd 4 (by omega)
  have e5 : val 5 = _ := hd 5 (by omega)
  refine EL.ends (cs := [_, _, _, _, _, _]) ⟨e0, e1, e2, e3, e4, e5, trivial⟩ rfl ?_;replace q1 := q1.bl hb;replace q2 := q2.bl hb;replace q3 := q3.bl hb;replace hbw := bo_ hbw hb;clear hb;have hbm : FndM wR2 g3 none := ⟨none, 0, none, 0, 0, none, 0, 0, none, 0, 0, q3, RdX.nil_ _ _ _ 0 none⟩;have hca := QJC (th := th) (most := most) he (RdX.of_own ho1 lt_3) (RdX.of_own ho2 lt_3) hbm;refine EL.call (cA6 cF47 rfl rfl rfl rfl rfl rfl) rfl hca ?_
  rintro e w5 ⟨rfl, ⟨Ab, cb, Bu, mu, du, Bd, md, dd, Br, mr, dr, qf, hbp⟩, hgr⟩
  refine ⟨_, rfl, ?_⟩
  unfold fndC at qf
  replace q1 := q1.gr hgr n1_3.symm.symm;replace q2 := q2.gr hgr n2_3.symm.symm;have hbw2 := ZD hbw hgr bhbw_3;clear hbw;have hbw := hbw2;clear hbw2 hca q3;have q3 := qf;clear qf;refine EL.nil (EX.seq (EC.seq (EC.region (EL.val (QNl rfl (q3.at (j := 0) rfl) (q3.at (j := 1) rfl) (q3.at (j := 2) rfl) (q3.at (j := 3) rfl) (q3.at (j := 4) rfl) (q3.at (j := 5) rfl) (q3.at (j := 6) rfl) (q3.at (j := 7) rfl) (q3.at (j := 8) rfl) (q3.at (j := 9) rfl) (q3.at (j := 10) rfl) (q3.at (j := 11) rfl) (q3.at (j := 12) rfl)) rfl (EL.store rfl rfl q2 QGg rfl rfl rfl rfl ?_)))));intro w6 hq6 hg6;replace q1 := q1.gr hg6 n1_2;replace q3 := q3.gr hg6 n2_3.symm;replace hbp := hbp.grown2 hg6 (Nat.le_of_lt l2_3);replace hbw := ZD hbw hg6 bhbw_2;replace q2 := hq6;clear hg6 hq6;refine EL.nil (EX.seq (EC.ret ?_))
  exact EX.done (QBt rfl rfl (QNh (q2.at (j := 0) rfl) (q2.at (j := 1) rfl) (q2.at (j := 2) rfl) (q2.at (j := 3) rfl) (q2.at (j := 4) rfl) (q2.at (j := 5) rfl) (q2.at (j := 6) rfl) (q2.at (j := 7) rfl) (q2.at (j := 8) rfl) (q2.at (j := 9) rfl) (q2.at (j := 10) rfl) (q2.at (j := 11) rfl) (q2.at (j := 12) rfl))) ⟨⟨Ab, cb, _, _, _, _, _, _, _, _, _, rfl, hbp.rd⟩, hbw⟩
section
variable {n : Nat} {σ : Sg} {w : World} {dst : Option Tmp} {ty : TypeId} {pos : String} {af : Array Edge} {g : Option (Nat × Bool)} {x y z : Operand} {at' : Array TypeId}
theorem cF24 : cF 24 := fun _ _ => by simp [go_sem]
theorem QMF {b o : Nat} (hx : evS σ x = some (.pointer (some ⟨b, o, none⟩))) : ZJ Try.prog n σ w ⟨dst, .fieldAddr 54 x 1, ty, pos, af, g⟩ (.pointer (some ⟨b, o + 1, none⟩)) := fun a ha => by
 simp only [execOp, ha.eval hx]
 simp [go_sem]
end
theorem QHr {l : LK} {ts : List TW} {th : Bool} {most : Int} {d : Dr} {v : Value} {w : World} {B : Nat} (hr : Rd w B 5 v ts.length (twsC ts)) (hB : B ≤ w.heap.size) (he : towE l ts = 0) (hd : refB l ts th most = some d) :
  Calls Try.prog 24 #[.agg #[.int .i64 l.length, .int .i64 l.cycle, .int .i64 l.turn, .int .i64 l.fill, .int .i64 l.save, .bool l.high], v, .bool th, .int .i64 most] w fun e w' => (∃ Af cf Bu mu du Bd md dd Br mr dr, e = .returned (.agg #[.bool true, .slice Af d.plan.length cf, .slice Bu mu du, .slice Bd md dd, .int .i64 d.s.fr, .bool d.s.lk.high, .slice Br mr dr, .int .i64 d.s.cost, .int .i64 d.s.mv, .int .i64 d.s.up, .int .i64 d.s.lo, .int .i64 d.s.ch, .int .i64 d.s.ba]) ∧ Rd w' w'.heap.size 2 (.slice Af d.plan.length cf) d.plan.length (spsC d.plan)) ∧ Below w.heap.size w w' := by
 have h := QFR (th := th) (most := most) hr hB he;rw [hd] at h
 exact h
theorem QHs {l : LK} {ts : List TW} {th : Bool} {most : Int} {v : Value} {w : World} {B : Nat} (hr : Rd w B 5 v ts.length (twsC ts)) (hB : B ≤ w.heap.size) (he : towE l ts = 0) (hd : refB l ts th most = none) :
  Calls Try.prog 24 #[.agg #[.int .i64 l.length, .int .i64 l.cycle, .int .i64 l.turn, .int .i64 l.fill, .int .i64 l.save, .bool l.high], v, .bool th, .int .i64 most] w fun e w' => (∃ Af cf Bu mu du Bd md dd Br mr dr, e = .returned (.agg #[.bool false, .slice Af 0 cf, .slice Bu mu du, .slice Bd md dd, .int .i64 0, .bool false, .slice Br mr dr, .int .i64 0, .int .i64 0, .int .i64 0, .int .i64 0, .int .i64 0, .int .i64 0])) ∧ Below w.heap.size w w' := by
 have h := QFR (th := th) (most := most) hr hB he;rw [hd] at h
 exact h.mono fun e w' ⟨⟨A, c, a1, a2, a3, a4, a5, a6, a7, a8, a9, he, _⟩, hb⟩ => ⟨⟨A, c, a1, a2, a3, a4, a5, a6, a7, a8, a9, he⟩, hb⟩
theorem QNq {l : LK} {ts : List TW} {th : Bool} {most : Int} {d : Dr} (hq : QOk l (qL ts)) (h : refB l ts th most = some d) : d.plan.length ≤ 8 := by
 have h0 := QAr (q := qL ts) hq.lk
 unfold refB at h
 rw [QDV hq h0, QBj] at h;obtain ⟨_, hm⟩ := QHG _ _ _ h
 rcases hm with hm | hm
 ·cases hm
 ·have hk := (QDJ hq h0 (List.mem_filter.1 hm).1).1
  have := hk.len;have := QAv (u := true) (n := 0) hq hk (Nat.zero_le _)
  omega
theorem QJo {l : LK} {ts : List TW} {most : Int} {P : List SP} {C X : Int} {v : Value} {w : World} {B : Nat} (h : Yb l ts most = (P, C, X)) (hr : Rd w B 5 v ts.length (twsC ts)) (hB : B ≤ w.heap.size) :
  Calls Try.prog 25 #[.agg #[.int .i64 l.length, .int .i64 l.cycle, .int .i64 l.turn, .int .i64 l.fill, .int .i64 l.save, .bool l.high], v, .int .i64 most] w fun e w' => ∃ sl, e = .returned (.tuple #[sl, .int .i64 C, .int .i64 X]) ∧ w'.ownsRow w.heap.size 87 2 sl P.length (spsC P) ∧ Below w.heap.size w w' := by
 have k := QFB (l := l) (most := most) hr hB;rw [h] at k
 exact k
theorem QHF (l : LK) (ts : List TW) (most : Int) : ¬towE l ts = 0 ∨ (towE l ts = 0 ∧ refB l ts true most = none) ∨ ∃ d, towE l ts = 0 ∧ refB l ts true most = some d := by
 by_cases h : towE l ts = 0
 ·cases h2 : refB l ts true most with
  | none => exact .inr (.inl ⟨h, rfl⟩)
  | some d => exact .inr (.inr ⟨d, h, rfl⟩)
 ·exact .inl h
set_option maxHeartbeats 1000000 in
set_option maxRecDepth 100000 in
theorem thrifts_law {l : LK} {ts : List TW} {most : Int} {v : Value} {w : World} {B : Nat} (hr : Rd w B 5 v ts.length (twsC ts)) (hB : B ≤ w.heap.size) :
  Calls Try.prog 5 #[.agg #[.int .i64 l.length, .int .i64 l.cycle, .int .i64 l.turn, .int .i64 l.fill, .int .i64 l.save, .bool l.high], v, .int .i64 most] w fun e w' => e = .returned (.bool true) ∧ Below w.heap.size w w' := by
 obtain ⟨At, ct, rfl, _⟩ := hr.shape;have hbw := Below.refl w.heap.size w;obtain ⟨P, C, X, hbp⟩ : ∃ P C X, Yb l ts most = (P, C, X) := ⟨_, _, _, rfl⟩;refine EC.enter 94 Try.func5 rfl rfl rfl (EC.seq (EC.region (EL.newP (QAD rfl) rfl ?_)));intro g1 w1 q1 hb1 hg1 hl1;have bhbw_1 := Nat.le_trans hbw.size hg1;replace hbw := bo_ hbw hb1;clear hb1 hg1 hl1;refine EL.as rfl rfl (EL.nil (EX.seq ?_));refine EC.cutD [6, 12, 13, 14, 15, 16, 17, 18, 19, 20, 21, 22, 23, 24, 25] (fun _ : Unit => []) (fun _ W => ts.length ≤ 12 ∧ Blk W g1 23 #[.int .i64 l.length, .int .i64 l.cycle, .int .i64 l.turn, .int .i64 l.fill, .int .i64 l.save, .bool l.high] ∧ Below w.heap.size w W) ?_ ?_
 ·
  refine EC.seq (EC.region (EL.mv rfl rfl (EL.val (Zs rfl) rfl ?_)))
  by_cases h6 : 6 < ts.length
  ·
   refine EL.val (Zm (r := true) rfl rfl (decide_eq_true (by omega))) rfl ?_
   refine EL.mv rfl rfl (EL.mg rfl rfl rfl rfl (EL.valg rfl rfl (Zs rfl) rfl ?_))
   by_cases h8 : ts.length ≤ 8
   ·
    refine EL.valg rfl rfl (QBD (r := true) rfl rfl (decide_eq_true (by omega))) rfl ?_
    refine EL.pt rfl rfl rfl (EL.mv rfl rfl (EL.skip rfl rfl rfl rfl (EL.skip rfl rfl rfl rfl (EL.skip rfl rfl rfl rfl (EL.pt rfl rfl rfl (EL.nil (EX.seq (EC.yes rfl (EC.seq ?_)))))))));refine EC.region (EL.call (cA0 cF12) rfl (QAc _) ?_)
    rintro e w2 ⟨rfl, hc2⟩
    refine ⟨_, rfl, ?_⟩;replace q1 := q1.bl hc2;replace hbw := bo_ hbw hc2;clear hc2;refine EL.as rfl rfl (EL.nil (EX.seq (EC.ret (EX.seq_ret ?_))))
    exact EX.done (res1 rfl rfl) ⟨rfl, hbw⟩
   ·
    refine EL.valg rfl rfl (QBD (r := false) rfl rfl (decide_eq_false (by omega))) rfl ?_
    refine EL.pt rfl rfl rfl (EL.mv rfl rfl (EL.mg rfl rfl rfl rfl (EL.valg rfl rfl (Zs rfl) rfl ?_)))
    by_cases h12 : 12 < ts.length
    ·
     refine EL.valg rfl rfl (Zm (r := true) rfl rfl (decide_eq_true (by omega))) rfl ?_
     refine EL.pf rfl rfl rfl (EL.nil (EX.seq (EC.yes rfl (EC.seq (EC.region (EL.call (cA0 cF12) rfl (QAc _) ?_))))))
     rintro e w3 ⟨rfl, hc3⟩
     refine ⟨_, rfl, ?_⟩;replace q1 := q1.bl hc3;replace hbw := bo_ hbw hc3;clear hc3;refine EL.as rfl rfl (EL.nil (EX.seq (EC.ret (EX.seq_ret ?_))))
     exact EX.done (res1 rfl rfl) ⟨rfl, hbw⟩
    ·
     refine EL.valg rfl rfl (Zm (r := false) rfl rfl (decide_eq_false (by omega))) rfl ?_
     refine EL.pf rfl rfl rfl (EL.nil (EX.seq (EC.no rfl (EC.skip ?_))));refine EX.cutE () trivial (by repeat first | with_reducible exact (Sub.refl _).del _ | refine sp_ rfl ?_ | exact (Sub.refl _).del _ | refine sd_ rfl ?_ | refine sn_ ?_) ⟨by omega, q1, hbw⟩
  ·
   refine EL.val (Zm (r := false) rfl rfl (decide_eq_false (by omega))) rfl ?_
   refine EL.mv rfl rfl (EL.skip rfl rfl rfl rfl (EL.skip rfl rfl rfl rfl (EL.skip rfl rfl rfl rfl (EL.pf rfl rfl rfl (EL.mv rfl rfl (EL.mg rfl rfl rfl rfl (EL.valg rfl rfl (Zs rfl) rfl ?_)))))))
   by_cases h12 : 12 < ts.length
   ·
    refine EL.valg rfl rfl (Zm (r := true) rfl rfl (decide_eq_true (by omega))) rfl ?_
    refine EL.pf rfl rfl rfl (EL.nil (EX.seq (EC.yes rfl (EC.seq (EC.region (EL.call (cA0 cF12) rfl (QAc _) ?_))))))
    rintro e w4 ⟨rfl, hc4⟩
    refine ⟨_, rfl, ?_⟩;replace q1 := q1.bl hc4;replace hbw := bo_ hbw hc4;clear hc4;refine EL.as rfl rfl (EL.nil (EX.seq (EC.ret (EX.seq_ret ?_))))
    exact EX.done (res1 rfl rfl) ⟨rfl, hbw⟩
   ·
    refine EL.valg rfl rfl (Zm (r := false) rfl rfl (decide_eq_false (by omega))) rfl ?_
    refine EL.pf rfl rfl rfl (EL.nil (EX.seq (EC.no rfl (EC.skip ?_))));refine EX.cutE () trivial (by repeat first | with_reducible exact (Sub.refl _).del _ | refine sp_ rfl ?_ | exact (Sub.refl _).del _ | refine sd_ rfl ?_ | refine sn_ ?_) ⟨by omega, q1, hbw⟩
 ·
  clear q1 hbw
  rintro ⟨⟩ W3 ⟨h12, q1, hbw⟩
  refine EC.seq ?_;have hsz := hbw.size;have lt_1 := q1.lt;refine EC.regionP [[], [], [1], [], [0, 1, 2, 3], [0, 1, 2, 3, 4], [0, 1, 2, 3, 4, 5], [0, 1, 2, 3, 4, 5], [0, 1, 2, 3, 4, 5], [0, 1, 2, 3, 4, 5, 6], [0, 1, 2, 3, 4, 5, 6, 7, 9], [0, 1, 2, 3, 4, 5, 6, 7, 8, 9, 10]] 12 [] (phi (fun i_ r => match i_ with | 0 => r 0 = .agg #[.int .i64 l.length, .int .i64 l.cycle, .int .i64 l.turn, .int .i64 l.fill, .int .i64 l.save, .bool l.high] | 1 => r 1 = .slice At ts.length ct | 3 => r 3 = .int .i64 most | 7 => r 7 = .int .i64 C | 8 => r 8 = .int .i64 X | 10 => r 10 = .int .i64 C | 11 => r 11 = .int .i64 X | _ => True) [(2, fun r w_ => ∃ A_ c_, r 2 = .slice A_ ts.length c_ ∧ w_.ownsRow W3.heap.size 39 5 (.slice A_ ts.length c_) ts.length (twsC ts)), (4, fun r w_ => ∃ A_ c_, r 4 = .tuple #[.slice A_ P.length c_, .int .i64 C, .int .i64 X] ∧ w_.ownsRow W3.heap.size 87 2 (.slice A_ P.length c_) P.length (spsC P)), (5, fun r w_ => ∃ A_ c_, r 5 = .tuple #[.slice A_ P.length c_, .int .i64 C, .int .i64 X] ∧ w_.ownsRow W3.heap.size 87 2 (.slice A_ P.length c_) P.length (spsC P)), (6, fun r w_ => ∃ A_ c_, r 6 = .slice A_ P.length c_ ∧ w_.ownsRow W3.heap.size 87 2 (.slice A_ P.length c_) P.length (spsC P)), (9, fun r w_ => ∃ A_ c_, r 9 = .slice A_ P.length c_ ∧ w_.ownsRow W3.heap.size 87 2 (.slice A_ P.length c_) P.length (spsC P))]) (by kernel_rfl) rfl rfl (Zt YU (Zt YU (Zt YU (Zt YU (Zt YU (YT)))))) (fun i_ hi_ => ?_) ?_
  ·match i_, hi_ with
   | 0, _ =>
    intro val w1 a hb ha hd;have ha := ha.s0 (d := 3) rfl
    exact ZH ha rfl rfl (YY rfl ((q1.below hb q1.lt).at (j := 0) rfl) ((q1.below hb q1.lt).at (j := 1) rfl) ((q1.below hb q1.lt).at (j := 2) rfl) ((q1.below hb q1.lt).at (j := 3) rfl) ((q1.below hb q1.lt).at (j := 4) rfl) ((q1.below hb q1.lt).at (j := 5) rfl)) rfl rfl
   | 1, _ =>
    intro val w1 a hb ha hd;have ha := ha.s0 (d := 1) rfl
    exact ZH ha rfl rfl (x_move rfl) rfl rfl
   | 2, _ =>
    intro val w1 a hb ha hd;have e1 : val 1 = _ := hd 1 (ZA.1 rfl);have ha := ha.s1 (d := 28) rfl e1;refine Yl ha rfl rfl (cA1 cF13 rfl) (QJX (hr.below ((hbw.mono hB).trans (hb.mono (Nat.le_trans hB hsz)))) (Nat.le_trans (Nat.le_trans hB hsz) hb.size) (by omega)) rfl ?_
    rintro e w' ⟨⟨v, rfl, p1⟩, hb'⟩
    obtain ⟨A1, c1, rfl, _⟩ := (Rd.of_own p1).shape
    exact ⟨_, rfl, hb', A1, c1, rfl, YW p1 hb.size⟩
   | 3, _ =>
    intro val w1 a hb ha hd;have ha := ha.s0 (d := 2) rfl
    exact ZH ha rfl rfl (x_move rfl) rfl rfl
   | 4, _ =>
    intro val w1 a hb ha hd;have e0 : val 0 = _ := hd 0 (ZA.1 rfl);obtain ⟨A2_, c2_, e2, o2_⟩ := hd 2 (ZA.1 rfl);have e3 : val 3 = _ := hd 3 (ZA.1 rfl);have ha := ha.sub (Sub.ins (d := 30) (Sub.ins (d := 29) (Sub.ins (d := 27) (Sub.nil _) (ZO rfl e0)) (ZO rfl e2)) (ZO rfl e3));refine Yl ha rfl rfl (cA3 cF25 rfl rfl rfl) (QJo hbp (Rd.of_own o2_) (Nat.le_refl _)) rfl ?_
    rintro e w' ⟨sl, rfl, p1, hb'⟩
    obtain ⟨A1, c1, rfl, _⟩ := (Rd.of_own p1).shape
    exact ⟨_, rfl, hb', A1, c1, rfl, YW p1 hb.size⟩
   | 5, _ =>
    intro val w1 a hb ha hd;obtain ⟨A4_, c4_, e4, o4_⟩ := hd 4 (ZA.1 rfl);have ha := ha.s1 (d := 31) rfl e4
    exact ZH ha rfl rfl (x_move rfl) ⟨A4_, c4_, rfl, o4_⟩ rfl
   | 6, _ =>
    intro val w1 a hb ha hd;obtain ⟨A5_, c5_, e5, o5_⟩ := hd 5 (ZA.1 rfl);have ha := ha.s1 (d := 26) rfl e5
    exact ZH ha rfl rfl (ZR (v := .slice A5_ P.length c5_) rfl rfl) ⟨A5_, c5_, rfl, o5_⟩ rfl
   | 7, _ =>
    intro val w1 a hb ha hd;obtain ⟨A5_, c5_, e5, o5_⟩ := hd 5 (ZA.1 rfl);have ha := ha.s1 (d := 26) rfl e5
    exact ZH ha rfl rfl (ZR (v := .int .i64 C) rfl rfl) rfl rfl
   | 8, _ =>
    intro val w1 a hb ha hd;obtain ⟨A5_, c5_, e5, o5_⟩ := hd 5 (ZA.1 rfl);have ha := ha.s1 (d := 26) rfl e5
    exact ZH ha rfl rfl (ZR (v := .int .i64 X) rfl rfl) rfl rfl
   | 9, _ =>
    intro val w1 a hb ha hd;obtain ⟨A6_, c6_, e6, o6_⟩ := hd 6 (ZA.1 rfl);have ha := ha.s1 (d := 32) rfl e6
    exact ZH ha rfl rfl (ZZ rfl) ⟨A6_, c6_, rfl, o6_⟩ rfl
   | 10, _ =>
    intro val w1 a hb ha hd;have e7 : val 7 = _ := hd 7 (ZA.1 rfl);have ha := ha.s1 (d := 33) rfl e7
    exact ZH ha rfl rfl (ZZ rfl) rfl rfl
   | 11, _ =>
    intro val w1 a hb ha hd;have e8 : val 8 = _ := hd 8 (ZA.1 rfl);have ha := ha.s1 (d := 34) rfl e8
    exact ZH ha rfl rfl (ZZ rfl) rfl rfl
   | k + 12, h => exact absurd h (by omega)
  ·intro val wR3 hb halc hd
   have e0 : val 0 = _ := hd 0 (by omega)
   have e1 : val 1 = _ := hd 1 (by omega)
   obtain ⟨A2_, c2_, e2, o2_⟩ := hd 2 (by omega)
   have e3 : val 3 = _ := hd 3 (by omega)
   obtain ⟨A4_, c4_, e4, o4_⟩ := hd 4 (by omega)
   obtain ⟨A5_, c5_, e5, o5_⟩ := hd 5 (by omega)
   obtain ⟨A6_, c6_, e6, o6_⟩ := hd 6 (by omega)
   have e7 : val 7 = _ := hd 7 (by omega)
   have e8 : val 8 = _ := hd 8 (by omega)
   obtain ⟨A9_, c9_, e9, o9_⟩ := hd 9 (by omega)
   have e10 : val 10 = _ := hd 10 (by omega)
   have e11 : val 11 = _ := hd 11 (by omega)
   refine EL.ends (cs := [_, _, _, _, _, _, _, _, _, _, _, _]) ⟨e0, e1, e2, e3, e4, e5, e6, e7, e8, e9, e10, e11, trivial⟩ rfl ?_;replace q1 := q1.bl hb;replace hbw := bo_ hbw hb;clear hb;have hpl := YW o9_ hsz;refine EL.nil (EX.seq (EC.seq (EC.seq (EC.region (EL.val (YY rfl (q1.at (j := 0) rfl) (q1.at (j := 1) rfl) (q1.at (j := 2) rfl) (q1.at (j := 3) rfl) (q1.at (j := 4) rfl) (q1.at (j := 5) rfl)) rfl (EL.mv rfl rfl ?_))))));refine EL.call (cA2 cF20 rfl rfl) rfl (QJI (l := l) (hr.below (hbw.mono hB)) (Nat.le_trans hB hbw.size) (by omega)) ?_
   rintro e w5 ⟨rfl, hc5⟩
   refine ⟨_, rfl, ?_⟩;replace q1 := q1.bl hc5;replace hpl := ZE hpl hc5 (Nat.le_refl _);replace hbw := bo_ hbw hc5;clear hc5;refine EL.as rfl rfl (EL.nil (EX.seq (EC.seq (EC.region (EL.mv rfl rfl ?_)))))
   rcases QHF l ts most with he0 | ⟨he0, hdr⟩ | ⟨d, he0, hdr⟩
   ·
    obtain ⟨rfl, rfl, rfl⟩ : P = [] ∧ C = 0 ∧ X = towE l ts := by rw [QFt he0] at hbp; simpa [eq_comm] using hbp
    refine EL.val (Zp (r := true) rfl rfl (decide_eq_true he0)) rfl (EL.nil (EX.seq (EC.yes rfl (EC.seq (EC.region (EL.mv rfl rfl (EL.mv rfl rfl (EL.val (YH (r := true) rfl rfl (decide_eq_true rfl)) rfl (EL.mv rfl rfl ?_)))))))));refine EL.mg rfl rfl rfl rfl (EL.valg rfl rfl (QAT rfl) rfl ?_);refine EL.valg rfl rfl (YH (r := true) rfl rfl (decide_eq_true (by simp))) rfl ?_
    refine EL.pt rfl rfl rfl (EL.mv rfl rfl (EL.mg rfl rfl rfl rfl (EL.valg rfl rfl (YH (r := true) rfl rfl (decide_eq_true rfl)) rfl (EL.pt rfl rfl rfl (EL.mv rfl rfl (EL.callg rfl rfl (cA0 cF12) rfl (QAc _) ?_))))))
    rintro e w6 ⟨rfl, hc6⟩
    refine ⟨_, rfl, ?_⟩;replace q1 := q1.bl hc6;replace hpl := ZE hpl hc6 (Nat.le_refl _);replace hbw := bo_ hbw hc6;clear hc6;refine EL.pt rfl rfl rfl (EL.as rfl rfl (EL.nil (EX.seq (EC.ret (EX.seq_ret ?_)))))
    exact EX.done (res1 rfl rfl) ⟨rfl, hbw⟩
   ·
    obtain ⟨rfl, rfl, rfl⟩ : P = [] ∧ C = 0 ∧ X = 7 := by rw [QEI he0, hdr] at hbp; simpa [eq_comm] using hbp
    refine EL.val (Zp (r := false) rfl rfl (decide_eq_false (by rw [he0]; decide))) rfl ?_
    refine EL.nil (EX.seq (EC.no rfl (EC.skip (EX.seq (EC.seq (EC.region (EL.val (YY rfl (q1.at (j := 0) rfl) (q1.at (j := 1) rfl) (q1.at (j := 2) rfl) (q1.at (j := 3) rfl) (q1.at (j := 4) rfl) (q1.at (j := 5) rfl)) rfl (EL.mv rfl rfl (EL.mv rfl rfl ?_)))))))));refine EL.call (cA4 cF24 rfl rfl rfl rfl) rfl (QHs (hr.below (hbw.mono hB)) (Nat.le_trans hB hbw.size) he0 hdr) ?_
    rintro e wf ⟨⟨Af, cf, Bu, mu, du, Bd, md, dd, Br, mr, dr, rfl⟩, hcf⟩
    refine ⟨_, rfl, ?_⟩;replace q1 := q1.bl hcf;replace hpl := ZE hpl hcf (Nat.le_refl _);replace hbw := bo_ hbw hcf;clear hcf;refine EL.newP QI9 rfl ?_;intro g7 w7 q7 hb7 hg7 hl7;have n1_7 := q1.na hg7;have bhbw_7 := Nat.le_trans hbw.size hg7;replace q1 := q1.bl hb7;replace hpl := ZE hpl hb7 (Nat.le_refl _);replace hbw := bo_ hbw hb7;clear hb7 hg7 hl7;refine EL.store rfl rfl q7 QGg rfl rfl rfl rfl ?_;intro w8 hq8 hg8;replace q1 := q1.gr hg8 n1_7;replace hpl := ZL hpl q7 rfl hg8;replace hbw := ZD hbw hg8 bhbw_7;replace q7 := hq8;clear hg8 hq8;refine EL.nil (EX.seq (EC.seq (EC.seq (EC.region (EL.val (QA1 rfl) rfl (EL.val (ld_4 rfl (q7.at (j := 0) rfl)) rfl (EL.val (ZT rfl) rfl (EL.nil (EX.seq ?_)))))))));refine EC.yes rfl (EC.seq (EC.region (EL.mv rfl rfl (EL.val (YH (r := true) rfl rfl (decide_eq_true rfl)) rfl (EL.mv rfl rfl (EL.mg rfl rfl rfl rfl (EL.valg rfl rfl (QAT rfl) rfl ?_)))))));refine EL.valg rfl rfl (YH (r := true) rfl rfl (decide_eq_true (by simp))) rfl ?_
    refine EL.pt rfl rfl rfl (EL.mv rfl rfl (EL.mg rfl rfl rfl rfl (EL.valg rfl rfl (YH (r := true) rfl rfl (decide_eq_true rfl)) rfl (EL.pt rfl rfl rfl (EL.mv rfl rfl (EL.callg rfl rfl (cA0 cF12) rfl (QAc _) ?_))))))
    rintro e w9 ⟨rfl, hc9⟩
    refine ⟨_, rfl, ?_⟩;replace q1 := q1.bl hc9;replace q7 := q7.bl hc9;replace hpl := ZE hpl hc9 (Nat.le_refl _);replace hbw := bo_ hbw hc9;clear hc9;refine EL.pt rfl rfl rfl (EL.as rfl rfl (EL.nil (EX.seq (EC.ret (EX.seq_ret ?_)))))
    exact EX.done (res1 rfl rfl) ⟨rfl, hbw⟩
   ·
    obtain ⟨rfl, rfl, rfl⟩ : P = d.plan ∧ C = d.s.cost ∧ X = 0 := by rw [QEI he0, hdr] at hbp; simpa [eq_comm] using hbp
    refine EL.val (Zp (r := false) rfl rfl (decide_eq_false (by rw [he0]; decide))) rfl ?_
    refine EL.nil (EX.seq (EC.no rfl (EC.skip (EX.seq (EC.seq (EC.region (EL.val (YY rfl (q1.at (j := 0) rfl) (q1.at (j := 1) rfl) (q1.at (j := 2) rfl) (q1.at (j := 3) rfl) (q1.at (j := 4) rfl) (q1.at (j := 5) rfl)) rfl (EL.mv rfl rfl (EL.mv rfl rfl ?_)))))))));refine EL.call (cA4 cF24 rfl rfl rfl rfl) rfl (QHr (hr.below (hbw.mono hB)) (Nat.le_trans hB hbw.size) he0 hdr) ?_
    rintro e wf ⟨⟨Af, cf, Bu, mu, du, Bd, md, dd, Br, mr, dr, rfl, hfp⟩, hcf⟩
    refine ⟨_, rfl, ?_⟩;replace q1 := q1.bl hcf;replace hpl := ZE hpl hcf (Nat.le_refl _);replace hbw := bo_ hbw hcf;clear hcf;have hff := Below.refl wf.heap.size wf;refine EL.newP QI9 rfl ?_;intro g10 w10 q10 hb10 hg10 hl10;have n1_10 := q1.na hg10;have bhbw_10 := Nat.le_trans hbw.size hg10;have bhff_10 := Nat.le_trans hff.size hg10;replace q1 := q1.bl hb10;replace hpl := ZE hpl hb10 (Nat.le_refl _);replace hbw := bo_ hbw hb10;replace hff := Below.on hff hb10 hff.size;clear hb10 hg10 hl10;refine EL.store rfl rfl q10 QGg rfl rfl rfl rfl ?_;intro w11 hq11 hg11;replace q1 := q1.gr hg11 n1_10;replace hpl := ZL hpl q10 rfl hg11;replace hbw := ZD hbw hg11 bhbw_10;replace hff := ZD hff hg11 bhff_10;replace q10 := hq11;clear hg11 hq11;refine EL.nil (EX.seq (EC.seq (EC.seq (EC.region (EL.val (QA1 rfl) rfl (EL.val (ld_4 rfl (q10.at (j := 0) rfl)) rfl (EL.val (ZT rfl) rfl (EL.nil (EX.seq ?_)))))))));refine EC.no rfl (EC.skip (EX.seq (EC.seq (EC.region (EL.mv rfl rfl (EL.val (YH (r := true) rfl rfl (decide_eq_true rfl)) rfl (EL.mv rfl rfl (EL.mg rfl rfl rfl rfl (EL.valg rfl rfl (QMF rfl) rfl ?_)))))))));refine EL.valg rfl rfl (QDf rfl (q10.at (j := 1) rfl)) rfl ?_;refine EL.callg rfl rfl (cA2 cF18 rfl rfl) rfl (QLh (Rd.of_own hpl) ((hfp.below hff).more hff.size) (by have := QNq (QBu he0) hdr; omega)) ?_
    rintro e w12 ⟨rfl, hc12⟩
    refine ⟨_, rfl, ?_⟩;replace q1 := q1.bl hc12;replace q10 := q10.bl hc12;replace hpl := ZE hpl hc12 (Nat.le_refl _);replace hbw := bo_ hbw hc12;replace hff := Below.on hff hc12 hff.size;clear hc12;refine EL.pt rfl rfl rfl (EL.mv rfl rfl (EL.mg rfl rfl rfl rfl (EL.valg rfl rfl (QC9 rfl) rfl (EL.valg rfl rfl (YV rfl) rfl (EL.valg rfl rfl (ld_3 rfl (q10.at (j := 7) rfl)) rfl (EL.valg rfl rfl (YH (r := true) rfl rfl (decide_eq_true rfl)) rfl (EL.pt rfl rfl rfl (EL.mv rfl rfl (EL.callg rfl rfl (cA0 cF12) rfl (QAc _) ?_)))))))))
    rintro e w13 ⟨rfl, hc13⟩
    refine ⟨_, rfl, ?_⟩;replace q1 := q1.bl hc13;replace q10 := q10.bl hc13;replace hpl := ZE hpl hc13 (Nat.le_refl _);replace hbw := bo_ hbw hc13;replace hff := Below.on hff hc13 hff.size;clear hc13;refine EL.pt rfl rfl rfl (EL.as rfl rfl (EL.nil (EX.seq (EC.ret ?_))))
    exact EX.done (res1 rfl rfl) ⟨rfl, hbw⟩
end Go.Proofs.Ytlbfnimilcnihaa
