/- X32: what WashPlansProof needs of them (merged by trimpack.py). -/
import Derived.Test.YtdkedhcbdbpccaaPlansT6
set_option linter.unusedVariables false
set_option linter.unusedSimpArgs false
namespace Go.Proofs.Ytdkedhcbdbpccaa
open Go Go.RowKit
section
variable {P : Program} {n : Nat} {L : List Oper} {Q : Exit → Act → World → Prop} {cls : List (List Nat)} {alc : List Nat} {w1 : World} {Φ : Nat → (Nat → Value) → World → Prop} {i j t : Nat} {b : Bool} {val : Nat → Value} {a : Act} {σ : Sg}
theorem hs_valg {o : Oper} {v : Value} (ha : Env n σ a) (ho : nthO L i = some o) (hg : o.guard = some (j, b)) (hj : dstOf L j = some t) (ht : σ t = some (.bool b)) (hr : Gives P n σ w1 o v) (hΦ : Φ i (res (upd val i v) i (clsAt cls i)) w1) (halc : memB alc i = false) : wpOp P L.toArray Q i (HK L cls alc Φ i val a w1) a w1 := by
 obtain ⟨h1, h2⟩ := opL ho
 unfold wpOp
 simp only [h1]
 rw [if_pos (by simp [Region.wanted, hg, yield_of ha hj ht])]
 left
 unfold Oper.wp
 rw [hr a ha]
 exact ⟨v, by rw [h2], ⟨rfl, rfl, rfl, Nat.le_refl _, fun _ _ => rfl⟩, hΦ, fun h => by rw [memB_mem.2 h] at halc; cases halc⟩
theorem hs_callg {o : Oper} {f : FuncId} {args : Array Value} {R : Ending → World → Prop} (ha : Env n σ a) (ho : nthO L i = some o) (hg : o.guard = some (j, b)) (hj : dstOf L j = some t) (ht : σ t = some (.bool b)) (hr : ∀ a, Env n σ a → (execOp a.eval o).run P w1 = .ok (.enter f args) w1) (hc : Calls P f args w1 R)
  (halc : memB alc i = false) (hΦ : ∀ e w', R e w' → ∃ v, e = .returned v ∧ Below w1.heap.size w1 w' ∧ Φ i (res (upd val i v) i (clsAt cls i)) w') : wpOp P L.toArray Q i (HK L cls alc Φ i val a w1) a w1 := by
 obtain ⟨h1, h2⟩ := opL ho
 unfold wpOp
 simp only [h1]
 rw [if_pos (by simp [Region.wanted, hg, yield_of ha hj ht])]
 left
 unfold Oper.wp
 rw [hr a ha, Oper.upon_enter];refine hc.mono fun e w' he => ?_
 obtain ⟨v, rfl, hb, hp⟩ := hΦ e w' he
 exact ⟨v, by rw [h2], hb, hp, fun h => by rw [memB_mem.2 h] at halc; cases halc⟩
end
theorem errS_ref {ru : Rules} {l : List Ev} {jobs : List Int} (hz : refE ru l ≠ 0) : errS ru l jobs = refE ru l := if_neg hz
theorem errS_job {ru : Rules} {l : List Ev} {jobs : List Int} (hz : refE ru l = 0) : errS ru l jobs = jobsE ru jobs 10 := if_pos hz
theorem codeS_err {ru : Rules} {l : List Ev} {jobs : List Int} (h : errS ru l jobs ≠ 0) : codeS ru l jobs = errS ru l jobs ∧ atS ru l jobs = 0 := ⟨if_neg h, if_neg h⟩
theorem codeS_none {ru : Rules} {l : List Ev} {jobs : List Int} (hz : refE ru l = 0) (hj : jobsE ru jobs 10 = 0) (hd : depS ru l jobs < jobs.length) : codeS ru l jobs = 7 ∧ atS ru l jobs = depS ru l jobs := by
 have he : errS ru l jobs = 0 := by rw [errS_job hz, hj]
 exact ⟨by rw [codeS, if_pos he, if_pos hd], by rw [atS, if_pos he, if_pos hd]⟩
theorem codeS_some {ru : Rules} {l : List Ev} {jobs : List Int} (hz : refE ru l = 0) (hj : jobsE ru jobs 10 = 0) (hd : ¬depS ru l jobs < jobs.length) : codeS ru l jobs = 0 ∧ atS ru l jobs = 0 := by
 have he : errS ru l jobs = 0 := by rw [errS_job hz, hj]
 exact ⟨by rw [codeS, if_pos he, if_neg hd], by rw [atS, if_pos he, if_neg hd]⟩
theorem simf_one {ru : Rules} {l : List Ev} (hz : refE ru l = 0) : SimF ru 1 [tkE ru l, tank0, tank0] [afterR ru l] := by
 obtain ⟨hro, hv, _⟩ := ref_ok hz;refine ⟨show 1 ≤ 3 by decide, rfl, fun i hi => ?_⟩
 obtain rfl : i = 0 := by omega
 show Sim _ (tkE ru l) (afterR ru l)
 rw [show tkE ru l = afterT ru l from if_pos hz]
 exact sim_after hro hv
theorem best_len {ru : Rules} (hro : RulesOk ru) {many : Nat} {js : List Nat} {s : List (List Tr)} {p : Pl} (h : IsBest (compl (extY (yardOf ru many)) js (s, pl0)) p) : p.steps.length = js.length := by
 obtain ⟨⟨t, ht⟩, _⟩ := h;obtain ⟨⟨x, hx, hl⟩, _⟩ := compl_mem (extY_ok (yardOf ru many) fun k => (kcost_bd hro k).1) ht
 dsimp only at hx
 rw [hx, List.length_append, hl]
 exact Nat.zero_add _
theorem take_getD {l : List Nat} {k m : Nat} (h : k < (l.take m).length) : (l.take m).getD k 0 = l.getD k 0 := by
 rw [List.length_take] at h;rw [List.getD_eq_getElem?_getD, List.getElem?_take, if_pos (by omega), ← List.getD_eq_getElem?_getD]
theorem jsI_take {js : List Nat} {m : Nat} : jsI (js.take m) = (jsI js).take m := List.map_take
theorem rd_preI {w : World} {B n c m : Nat} {A : Option Addr} {l : List Int} (h : Rd w B 1 (.slice A n c) n (ints l)) (hm : m ≤ n) : Rd w B 1 (.slice A m c) m (ints (l.take m)) := by
 have hl : l.length = n := by have := h.len; rw [ints_len] at this; omega
 obtain ⟨hl0, A', c', h8, hc, hrd⟩ := h
 injection h8 with h8 _ h9
 subst h8 h9;refine ⟨by rw [ints_len, List.length_take]; omega, _, _, rfl, by omega, fun h0 => ?_⟩
 obtain ⟨b, off, e, hb, hcs⟩ := hrd (by omega)
 refine ⟨b, off, e, hb, fun j u hu => hcs j u ?_⟩
 unfold ints at hu ⊢
 rw [List.getElem?_map] at hu ⊢;rw [List.getElem?_take] at hu
 split at hu
 ·exact hu
 ·simp at hu
set_option maxHeartbeats 4000000 in
theorem plans_law {ru : Rules} {ua up : List Value} {vl va vp vk : Value} {w : World} {B : Nat} (hr : RdRules w B vl va vp vk ru ua up) (hB : B ≤ w.heap.size) {l : List Ev} {v : Value} (hl : Rd w B 2 v l.length (evsC l)) {jobs : List Int} {vj : Value} (hv : Rd w B 1 vj jobs.length (ints jobs)) :
  Calls Try.prog 4 #[rulesV vl va vp vk ru, v, vj] w fun e w' => e = .returned (.bool true) ∧ Below w.heap.size w w' := by
 obtain ⟨Al, cl, rfl, _⟩ := hr.levels.shape;obtain ⟨Aa, ca, rfl, _⟩ := hr.allow.rd.shape;obtain ⟨Ap, cp, rfl, _⟩ := hr.apart.rd.shape;obtain ⟨Ak, ck, rfl, _⟩ := hr.kinds.shape;obtain ⟨Ae, ce, rfl, _⟩ := hl.shape;obtain ⟨Aj, cj, rfl, hcj⟩ := hv.shape;have hbw := Below.refl w.heap.size w
 unfold rulesV
 refine EC.enter 221 Try.func4 rfl rfl rfl (EC.seq (EC.region (EL.newP (bx_28 rfl) rfl ?_)));intro g1 w1 q1 hb1 hg1 hl1;have bhbw_1 := Nat.le_trans hbw.size hg1;replace hbw := bo_ hbw hb1;clear hb1 hg1 hl1;refine EL.as rfl rfl (EL.nil (EX.seq (EC.seq ?_)));refine EC.cutD [19, 20, 21, 22, 23, 24, 25, 26, 27, 28, 29, 30, 31, 32, 33, 34, 35, 36, 37, 38, 39, 40] (fun x : Bool => [(40, .bool x)]) (fun x W => (x = false → Wee ru l ∧ jobs.length ≤ 12) ∧ Blk W g1 28 #[.slice Al ru.levels.length cl, .int .i64 ru.fade.lo, .int .i64 ru.fade.hi, .slice Aa ru.allow.length ca, .slice Ap ru.apart.length cp, .slice Ak ru.kinds.length ck] ∧ Below w.heap.size w W) ?_ ?_
 ·
  refine EC.region (EL.val (ld_28 rfl (q1.at (j := 0) rfl) (q1.at (j := 1) rfl) (q1.at (j := 2) rfl) (q1.at (j := 3) rfl) (q1.at (j := 4) rfl) (q1.at (j := 5) rfl)) rfl (EL.mv rfl rfl (EL.call (cl_11 rfl rfl) rfl (great_any (hr.below (hbw.mono hB)) (Nat.le_trans hB hbw.size) (hl.below (hbw.mono hB))) ?_)))
  rintro e wB ⟨⟨bB, rfl, hgr⟩, hcB⟩
  cases bB
  ·
   have hwe := hgr rfl;refine ⟨_, rfl, ?_⟩;replace q1 := q1.bl hcB;replace hbw := bo_ hbw hcB;clear hcB;refine EL.mv rfl rfl (EL.valg rfl rfl (x_move rfl) rfl (EL.valg rfl rfl (ln_22 rfl) rfl ?_))
   by_cases hj12 : 12 < jobs.length
   ·
    refine EL.valg rfl rfl (x_gtr (r := true) rfl rfl (decide_eq_true (by omega))) rfl ?_
    refine EL.val (x_pick_f rfl rfl) rfl (EL.mv rfl rfl (EL.skip rfl rfl rfl rfl (EL.skip rfl rfl rfl rfl (EL.skip rfl rfl rfl rfl (EL.skip rfl rfl rfl rfl (EL.skip rfl rfl rfl rfl (EL.skip rfl rfl rfl rfl (EL.skip rfl rfl rfl rfl (EL.skip rfl rfl rfl rfl ?_)))))))));refine EL.skip rfl rfl rfl rfl (EL.skip rfl rfl rfl rfl (EL.skip rfl rfl rfl rfl (EL.skip rfl rfl rfl rfl (EL.val (x_pick_t rfl rfl) rfl (EL.nil ?_)))))
    exact EX.cutE true ⟨rfl, trivial⟩ (by repeat first | with_reducible exact (Sub.refl _).del _ | refine sub_past rfl ?_ | exact (Sub.refl _).del _ | refine sub_del rfl ?_ | refine sub_insL_nil ?_) ⟨(fun h => by cases h), q1, hbw⟩
   ·
    refine EL.valg rfl rfl (x_gtr (r := false) rfl rfl (decide_eq_false (by omega))) rfl ?_
    refine EL.val (x_pick_f rfl rfl) rfl (EL.mv rfl rfl (EL.valg rfl rfl (x_move rfl) rfl (EL.valg rfl rfl (ln_22 rfl) rfl ?_)))
    by_cases hj10 : jobs.length ≤ 10
    ·
     refine EL.valg rfl rfl (x_leq (r := true) rfl rfl (decide_eq_true (by omega))) rfl ?_
     refine EL.valg rfl rfl (x_move rfl) rfl (EL.valg rfl rfl (fa_28_4 rfl) rfl (EL.valg rfl rfl (ld_26 rfl (q1.at (j := 5) rfl)) rfl (EL.valg rfl rfl (ln_26 rfl) rfl (EL.valg rfl rfl (x_move rfl) rfl (EL.valg rfl rfl (ln_22 rfl) rfl ?_)))));refine EL.callg rfl rfl (cl_22 rfl rfl rfl) rfl (many_any 1 (kn := ((ru.kinds.length : Nat) : Int)) (by omega) (by have := hwe.k; omega) (by omega) _) ?_
     rintro e w2 ⟨⟨vm, rfl⟩, hc2⟩
     refine ⟨_, rfl, ?_⟩;replace q1 := q1.bl hc2;replace hbw := bo_ hbw hc2;clear hc2
     by_cases hvm : 60000 < vm
     ·
      refine EL.valg rfl rfl (x_gtr (r := true) rfl rfl (decide_eq_true (by omega))) rfl ?_
      refine EL.valg rfl rfl (x_pick_t rfl rfl) rfl (EL.val (x_pick_f rfl rfl) rfl (EL.nil ?_))
      exact EX.cutE true ⟨rfl, trivial⟩ (by repeat first | with_reducible exact (Sub.refl _).del _ | refine sub_past rfl ?_ | exact (Sub.refl _).del _ | refine sub_del rfl ?_ | refine sub_insL_nil ?_) ⟨(fun h => by cases h), q1, hbw⟩
     ·
      refine EL.valg rfl rfl (x_gtr (r := false) rfl rfl (decide_eq_false (by omega))) rfl ?_
      refine EL.valg rfl rfl (x_pick_t rfl rfl) rfl (EL.val (x_pick_f rfl rfl) rfl (EL.nil ?_))
      exact EX.cutE false ⟨rfl, trivial⟩ (by repeat first | with_reducible exact (Sub.refl _).del _ | refine sub_past rfl ?_ | exact (Sub.refl _).del _ | refine sub_del rfl ?_ | refine sub_insL_nil ?_) ⟨fun _ => ⟨hwe, by omega⟩, q1, hbw⟩
    ·
     refine EL.valg rfl rfl (x_leq (r := false) rfl rfl (decide_eq_false (by omega))) rfl ?_
     refine EL.valg rfl rfl (x_move rfl) rfl (EL.skip rfl rfl rfl rfl (EL.skip rfl rfl rfl rfl (EL.skip rfl rfl rfl rfl (EL.skip rfl rfl rfl rfl (EL.skip rfl rfl rfl rfl (EL.skip rfl rfl rfl rfl (EL.skip rfl rfl rfl rfl (EL.valg rfl rfl (x_pick_f rfl rfl) rfl (EL.val (x_pick_f rfl rfl) rfl ?_)))))))));refine EL.nil ?_
     exact EX.cutE false ⟨rfl, trivial⟩ (by repeat first | with_reducible exact (Sub.refl _).del _ | refine sub_past rfl ?_ | exact (Sub.refl _).del _ | refine sub_del rfl ?_ | refine sub_insL_nil ?_) ⟨fun _ => ⟨hwe, by omega⟩, q1, hbw⟩
  ·
   refine ⟨_, rfl, ?_⟩;replace q1 := q1.bl hcB;replace hbw := bo_ hbw hcB;clear hcB;refine EL.mv rfl rfl (EL.skip rfl rfl rfl rfl (EL.skip rfl rfl rfl rfl (EL.skip rfl rfl rfl rfl (EL.val (x_pick_t rfl rfl) rfl (EL.mv rfl rfl (EL.skip rfl rfl rfl rfl (EL.skip rfl rfl rfl rfl (EL.skip rfl rfl rfl rfl (EL.skip rfl rfl rfl rfl ?_)))))))));refine EL.skip rfl rfl rfl rfl (EL.skip rfl rfl rfl rfl (EL.skip rfl rfl rfl rfl (EL.skip rfl rfl rfl rfl (EL.skip rfl rfl rfl rfl (EL.skip rfl rfl rfl rfl (EL.skip rfl rfl rfl rfl (EL.skip rfl rfl rfl rfl (EL.val (x_pick_t rfl rfl) rfl (EL.nil ?_)))))))))
   exact EX.cutE true ⟨rfl, trivial⟩ (by repeat first | with_reducible exact (Sub.refl _).del _ | refine sub_past rfl ?_ | exact (Sub.refl _).del _ | refine sub_del rfl ?_ | refine sub_insL_nil ?_) ⟨(fun h => by cases h), q1, hbw⟩
 ·
  clear q1 hbw
  rintro x W1 ⟨hx, q1, hbw⟩
  cases x
  ·
   obtain ⟨hwe, hj12⟩ := hx rfl;have hs := hwe.short;have hn := hwe.l;refine EC.no rfl (EC.skip (EX.seq (EC.seq (EC.region (EL.mv rfl rfl ?_)))));refine EL.call (cl_23 rfl) rfl (numbers_any (hv.below (hbw.mono hB)) (Nat.le_trans hB hbw.size) (by omega)) ?_
   rintro e w3 ⟨⟨v7, rfl, hin⟩, hc3⟩
   refine ⟨_, rfl, ?_⟩;replace hin := own_less hin hbw.size;replace q1 := q1.bl hc3;replace hbw := bo_ hbw hc3;clear hc3;obtain ⟨A7, c7, rfl, _⟩ := (Rd.of_own hin).shape;refine EL.as rfl rfl (EL.nil (EX.seq (EC.seq (EC.region (EL.val (ld_28 rfl (q1.at (j := 0) rfl) (q1.at (j := 1) rfl) (q1.at (j := 2) rfl) (q1.at (j := 3) rfl) (q1.at (j := 4) rfl) (q1.at (j := 5) rfl)) rfl (EL.call (cl_14 rfl) rfl (own_any (hr.below (hbw.mono hB)) (Nat.le_trans hB hbw.size) hwe) ?_))))))
   rintro e w4 ⟨⟨vl2, va2, vp2, vk2, ua2, up2, rfl, hR2⟩, hc4⟩
   refine ⟨_, rfl, ?_⟩;replace q1 := q1.bl hc4;replace hin := own_below hin hc4 (Nat.le_refl _);replace hbw := bo_ hbw hc4;clear hc4;refine EL.mv rfl rfl ?_;refine EL.call (cl_15 rfl) rfl (events_any (hl.below (hbw.mono hB)) (Nat.le_trans hB hbw.size) (by omega)) ?_
   rintro e w5 ⟨⟨vx, rfl, hx⟩, hc5⟩
   refine ⟨_, rfl, ?_⟩;replace q1 := q1.bl hc5;replace hin := own_below hin hc5 (Nat.le_refl _);replace hR2 := (hR2.below hc5).more hc5.size;replace hbw := bo_ hbw hc5;clear hc5;refine EL.mv rfl rfl ?_;refine EL.call (cl_24 rfl rfl rfl) rfl (Plan_any hR2 (Nat.le_refl _) hs (Rd.of_own hx) (by omega) (Rd.of_own hin) (by omega)) ?_
   rintro e w6 ⟨⟨v8, ws, cc, rfl, hP, hp1, hp2⟩, hc6⟩
   refine ⟨_, rfl, ?_⟩;replace hP := own_less hP hbw.size;clear hR2 hx;replace q1 := q1.bl hc6;replace hin := own_below hin hc6 (Nat.le_refl _);replace hbw := bo_ hbw hc6;clear hc6;obtain ⟨A8, c8, rfl, _⟩ := (Rd.of_own hP).shape;refine EL.mv rfl rfl (EL.val (x_extract rfl rfl) rfl (EL.val (x_extract rfl rfl) rfl (EL.val (x_extract rfl rfl) rfl (EL.val (x_extract rfl rfl) rfl (EL.as rfl rfl (EL.as rfl rfl (EL.as rfl rfl (EL.as rfl rfl (EL.nil ?_)))))))));refine EX.seq (EC.seq (EC.region (EL.val (ld_28 rfl (q1.at (j := 0) rfl) (q1.at (j := 1) rfl) (q1.at (j := 2) rfl) (q1.at (j := 3) rfl) (q1.at (j := 4) rfl) (q1.at (j := 5) rfl)) rfl (EL.call (cl_14 rfl) rfl (own_any (hr.below (hbw.mono hB)) (Nat.le_trans hB hbw.size) hwe) ?_))))
   rintro e w7 ⟨⟨vl2, va2, vp2, vk2, ua2, up2, rfl, hR2⟩, hc7⟩
   refine ⟨_, rfl, ?_⟩;replace q1 := q1.bl hc7;replace hin := own_below hin hc7 (Nat.le_refl _);replace hP := own_below hP hc7 (Nat.le_refl _);replace hbw := bo_ hbw hc7;clear hc7;refine EL.mv rfl rfl ?_;refine EL.call (cl_15 rfl) rfl (events_any (hl.below (hbw.mono hB)) (Nat.le_trans hB hbw.size) (by omega)) ?_
   rintro e w8 ⟨⟨vx, rfl, hx⟩, hc8⟩
   refine ⟨_, rfl, ?_⟩;replace q1 := q1.bl hc8;replace hin := own_below hin hc8 (Nat.le_refl _);replace hP := own_below hP hc8 (Nat.le_refl _);replace hR2 := (hR2.below hc8).more hc8.size;replace hbw := bo_ hbw hc8;clear hc8;refine EL.mv rfl rfl ?_;refine EL.call (cl_25 rfl rfl rfl) rfl (Fewest_any hR2 (Nat.le_refl _) hs (Rd.of_own hx) (by omega) (Rd.of_own hin) (by omega)) ?_
   rintro e w9 ⟨⟨v12, ws2, rfl, hF, hf1, hf2⟩, hc9⟩
   refine ⟨_, rfl, ?_⟩;replace hF := own_less hF hbw.size;clear hR2 hx;replace q1 := q1.bl hc9;replace hin := own_below hin hc9 (Nat.le_refl _);replace hP := own_below hP hc9 (Nat.le_refl _);replace hbw := bo_ hbw hc9;clear hc9;obtain ⟨A12, c12, rfl, _⟩ := (Rd.of_own hF).shape;refine EL.mv rfl rfl (EL.val (x_extract rfl rfl) rfl (EL.val (x_extract rfl rfl) rfl (EL.val (x_extract rfl rfl) rfl (EL.as rfl rfl (EL.as rfl rfl (EL.as rfl rfl (EL.nil (EX.seq (EC.seq ?_)))))))));refine EC.seq (EC.region (EL.mv rfl rfl (EL.mv rfl rfl ?_)));refine EL.call (cl_21 rfl rfl) rfl (equal_same (Rd.of_own hin) ((hv.below (hbw.mono hB)).more (Nat.le_trans hB hbw.size)) (Nat.le_refl _) (by omega)) ?_
   rintro e w10 ⟨rfl, hc10⟩
   refine ⟨_, rfl, ?_⟩;replace q1 := q1.bl hc10;replace hin := own_below hin hc10 (Nat.le_refl _);replace hP := own_below hP hc10 (Nat.le_refl _);replace hF := own_below hF hc10 (Nat.le_refl _);replace hbw := bo_ hbw hc10;clear hc10;refine EL.val (x_not rfl) rfl (EL.nil (EX.seq (EC.no rfl (EC.skip (EX.seq (EC.seq (EC.region (EL.val (ld_28 rfl (q1.at (j := 0) rfl) (q1.at (j := 1) rfl) (q1.at (j := 2) rfl) (q1.at (j := 3) rfl) (q1.at (j := 4) rfl) (q1.at (j := 5) rfl)) rfl (EL.mv rfl rfl ?_)))))))));refine EL.call (cl_18 rfl rfl) rfl (refused_any (hr.below (hbw.mono hB)) (Nat.le_trans hB hbw.size) hs (hl.below (hbw.mono hB)) (by omega)) ?_
   rintro e w11 ⟨rfl, hc11⟩
   refine ⟨_, rfl, ?_⟩;replace q1 := q1.bl hc11;replace hin := own_below hin hc11 (Nat.le_refl _);replace hP := own_below hP hc11 (Nat.le_refl _);replace hF := own_below hF hc11 (Nat.le_refl _);replace hbw := bo_ hbw hc11;clear hc11;refine EL.as rfl rfl (EL.nil (EX.seq (EC.seq (EC.seq (EC.region (EL.mv rfl rfl ?_))))))
   by_cases hz : refE ru l = 0
   ·
    obtain ⟨hro, hev, hn100⟩ := ref_ok hz;refine EL.val (x_eql (r := true) rfl rfl (decide_eq_true hz)) rfl (EL.nil (EX.seq (EC.yes rfl (EC.region (EL.val (ld_28 rfl (q1.at (j := 0) rfl) (q1.at (j := 1) rfl) (q1.at (j := 2) rfl) (q1.at (j := 3) rfl) (q1.at (j := 4) rfl) (q1.at (j := 5) rfl)) rfl (EL.mv rfl rfl ?_))))));refine EL.call (cl_26 rfl rfl rfl) rfl (rJobs_any (hr.below (hbw.mono hB)) (Nat.le_trans hB hbw.size) hro (hv.below (hbw.mono hB)) (Nat.le_trans hB hbw.size) (by omega) (most := 10) (by decide)) ?_
    rintro e w12 ⟨rfl, hc12⟩
    refine ⟨_, rfl, ?_⟩;replace q1 := q1.bl hc12;replace hin := own_below hin hc12 (Nat.le_refl _);replace hP := own_below hP hc12 (Nat.le_refl _);replace hF := own_below hF hc12 (Nat.le_refl _);replace hbw := bo_ hbw hc12;clear hc12;refine EL.as rfl rfl (EL.nil (EX.seq (EC.seq (EC.seq (EC.region (EL.mv rfl rfl ?_))))))
    by_cases hj : jobsE ru jobs 10 = 0
    ·
     obtain ⟨hj1, hj2, hj3⟩ := jobs_ok hj;obtain ⟨js, ejs⟩ : ∃ z, z = jobs.map Int.toNat := ⟨_, rfl⟩;have hjl : js.length = jobs.length := by rw [ejs, List.length_map]
     rw [← ejs] at hj1 hj2 hj3 hp1 hf1;have hjm : ∀ c ∈ js, c < ru.levels.length := fun c hc => by obtain ⟨i, hi, rfl⟩ := List.getElem_of_mem hc; rw [← getD_in (d := 0) hi]; exact hj2 i hi
     have hvj : Rd w B 1 (.slice Aj jobs.length cj) js.length (ints (jsI js)) := by rw [hj1, hjl]; exact hv
     have hdd : depS ru l jobs = depthR (extY (yardOf ru 1)) js ([tkE ru l, tank0, tank0], pl0) := by unfold depS; rw [ejs]
     have hsf : SimF ru 1 [tkE ru l, tank0, tank0] [afterR ru l] := simf_one hz;refine EL.val (x_neq (r := false) rfl rfl (decide_eq_false (fun h => h hj))) rfl ?_
     refine EL.nil (EX.seq (EC.no rfl (EC.skip (EX.seq (EC.seq (EC.region (EL.val (ld_28 rfl (q1.at (j := 0) rfl) (q1.at (j := 1) rfl) (q1.at (j := 2) rfl) (q1.at (j := 3) rfl) (q1.at (j := 4) rfl) (q1.at (j := 5) rfl)) rfl (EL.mv rfl rfl ?_))))))));refine EL.call (cl_27 rfl rfl) rfl (After_any (hr.below (hbw.mono hB)) (Nat.le_trans hB hbw.size) hro (hl.below (hbw.mono hB)) hev (by omega)) ?_
     rintro e w13 ⟨⟨T1, cT1, T2, cT2, rfl, ho1, ho2, hrt⟩, hc13⟩
     refine ⟨_, rfl, ?_⟩;replace ho1 := own_less ho1 (Nat.zero_le _);replace ho2 := own_less ho2 (Nat.zero_le _);replace q1 := q1.bl hc13;replace hin := own_below hin hc13 (Nat.le_refl _);replace hP := own_below hP hc13 (Nat.le_refl _);replace hF := own_below hF hc13 (Nat.le_refl _);replace hbw := bo_ hbw hc13;clear hc13;refine EL.newS (bs_64_1 rfl) rfl ?_;intro g14 w14 q14 hb14 hg14 hl14;have n1_14 := q1.na hg14;have bhbw_14 := Nat.le_trans hbw.size hg14;replace q1 := q1.bl hb14;replace hin := own_below hin hb14 (Nat.le_refl _);replace hP := own_below hP hb14 (Nat.le_refl _);replace hF := own_below hF hb14 (Nat.le_refl _);replace ho1 := own_below ho1 hb14 (Nat.le_refl _);replace ho2 := own_below ho2 hb14 (Nat.le_refl _);replace hbw := bo_ hbw hb14;clear hb14 hg14 hl14;have hT : OwnTs w14 ru.levels.length (.slice (some ⟨g14, 0, none⟩) 1 1) [((afterR ru l, (T1, cT1), (T2, cT2)) : Tk)] := ⟨own_built (l := [.slice T1 ru.levels.length cT1, .slice T2 ru.levels.length cT2]) q14 rfl (by decide) (Nat.zero_le _), fun x hx => by rw [List.mem_singleton.1 hx]; exact ho1, fun x hx => by rw [List.mem_singleton.1 hx]; exact ho2⟩
     clear ho1 ho2;have hok : ∀ x ∈ [((afterR ru l, (T1, cT1), (T2, cT2)) : Tk)], RtOk ru.levels.length 100 x.1 := fun x hx => by rw [List.mem_singleton.1 hx]; exact hrt.more hn100
     refine EL.as rfl rfl (EL.nil (EX.seq (EC.seq (EC.region (EL.val (ld_28 rfl (q1.at (j := 0) rfl) (q1.at (j := 1) rfl) (q1.at (j := 2) rfl) (q1.at (j := 3) rfl) (q1.at (j := 4) rfl) (q1.at (j := 5) rfl)) rfl (EL.mv rfl rfl (EL.mv rfl rfl ?_)))))));have hca := rFleet_any (hr.below (hbw.mono hB)) (Nat.le_trans hB hbw.size) hro hj2 hj3 hT (show 1 ≤ 3 by decide) hok (by decide) (hvj.below (hbw.mono hB))
     rw [show [((afterR ru l, (T1, cT1), (T2, cT2)) : Tk)].map (·.1) = [afterR ru l] from rfl] at hca;obtain ⟨bv, ebv⟩ : ∃ z, z = bestR ru js [afterR ru l] := ⟨_, rfl⟩;rw [← ebv] at hca;refine EL.call (cl_28 rfl rfl rfl) rfl hca ?_
     rintro e w15 ⟨⟨AS, cS, rfl, hst⟩, hc15⟩
     refine ⟨_, rfl, ?_⟩;replace q1 := q1.bl hc15;replace hin := own_below hin hc15 (Nat.le_refl _);replace hP := own_below hP hc15 (Nat.le_refl _);replace hF := own_below hF hc15 (Nat.le_refl _);replace hT := hT.below hc15;replace hbw := bo_ hbw hc15;clear hc15 hca;refine EL.newP al_67 rfl ?_;intro g16 w16 q16 hb16 hg16 hl16;have n1_16 := q1.na hg16;have bhbw_16 := Nat.le_trans hbw.size hg16;replace q1 := q1.bl hb16;replace hin := own_below hin hb16 (Nat.le_refl _);replace hP := own_below hP hb16 (Nat.le_refl _);replace hF := own_below hF hb16 (Nat.le_refl _);replace hT := hT.below hb16;replace hst := own_below hst hb16 (Nat.le_refl _);replace hbw := bo_ hbw hb16;clear hb16 hg16 hl16;refine EL.store rfl rfl q16 sz_67 rfl rfl rfl rfl ?_;intro w17 hq17 hg17;replace q1 := q1.gr hg17 n1_16;replace hin := own_type hin q16 rfl hg17;replace hP := own_type hP q16 rfl hg17;replace hF := own_type hF q16 rfl hg17;replace hT := hT.type q16 rfl rfl rfl hg17;replace hst := own_type hst q16 rfl hg17;replace hbw := below_store hbw hg17 bhbw_16;replace q16 := hq17;clear hg17 hq17;refine EL.nil (EX.seq (EC.seq (EC.seq (EC.region (EL.val (fa_67_0 rfl) rfl (EL.val (ld_4 rfl (q16.at (j := 0) rfl)) rfl (EL.val (x_not rfl) rfl (EL.nil (EX.seq ?_)))))))))
     by_cases hd : depS ru l jobs < jobs.length
     ·
      obtain ⟨hcd, hat⟩ := codeS_none hz hj hd;have hbn := best_none (us := [afterR ru l]) hro hjm hsf (by rw [show ([afterR ru l] : List RT).length = 1 from rfl, ← hdd, hjl]; exact hd)
      rw [show ([afterR ru l] : List RT).length = 1 from rfl, ← hdd, ← ebv] at hbn;have hcn : codeS ru l jobs ≠ 0 := by rw [hcd]; decide
      have hw0 : ws.length = 0 := by rw [(hp2 hcn).1]; rfl
      have hcc := (hp2 hcn).2;have hw20 : ws2.length = 0 := by rw [hf2 hcn]; rfl
      subst hbn;refine EC.yes rfl (EC.seq (EC.region (EL.mv rfl rfl (EL.val (x_eql (r := true) rfl rfl (decide_eq_true hcd)) rfl (EL.mv rfl rfl (EL.valg rfl rfl (x_move rfl) rfl (EL.valg rfl rfl (x_move rfl) rfl (EL.valg rfl rfl (x_eql (r := true) rfl rfl (decide_eq_true rfl)) rfl (EL.val (x_pick_t rfl rfl) rfl ?_)))))))));refine EL.mv rfl rfl (EL.valg rfl rfl (x_move rfl) rfl (EL.valg rfl rfl (fa_67_4 rfl) rfl (EL.valg rfl rfl (ld_3 rfl (q16.at (j := 4) rfl)) rfl ?_)));refine EL.valg rfl rfl (x_eql (r := true) rfl rfl (decide_eq_true (by rw [hat]))) rfl ?_
      refine EL.val (x_pick_t rfl rfl) rfl (EL.mv rfl rfl (EL.valg rfl rfl (x_move rfl) rfl (EL.valg rfl rfl (x_move rfl) rfl (EL.valg rfl rfl (x_eql (r := true) rfl rfl (decide_eq_true rfl)) rfl (EL.val (x_pick_t rfl rfl) rfl (EL.mv rfl rfl (EL.valg rfl rfl (x_move rfl) rfl (EL.valg rfl rfl (ln_22 rfl) rfl (EL.valg rfl rfl (x_move rfl) rfl ?_)))))))));refine EL.valg rfl rfl (ln_22 rfl) rfl ?_;refine EL.valg rfl rfl (x_add rfl rfl (c := 0) ((IntWalk.i64_in _ ⟨by omega, by omega⟩).trans (by omega))) rfl ?_
      refine EL.valg rfl rfl (x_eql (r := true) rfl rfl (decide_eq_true rfl)) rfl (EL.val (x_pick_t rfl rfl) rfl (EL.mv rfl rfl (EL.valg rfl rfl (x_move rfl) rfl (EL.valg rfl rfl (x_eql (r := true) rfl rfl (decide_eq_true hcc)) rfl (EL.val (x_pick_t rfl rfl) rfl (EL.mv rfl rfl (EL.callg rfl rfl cl_12 rfl (known_any _) ?_)))))))
      rintro e w18 ⟨rfl, hc18⟩
      refine ⟨_, rfl, ?_⟩;replace q1 := q1.bl hc18;replace q16 := q16.bl hc18;replace hin := own_below hin hc18 (Nat.le_refl _);replace hP := own_below hP hc18 (Nat.le_refl _);replace hF := own_below hF hc18 (Nat.le_refl _);replace hT := hT.below hc18;replace hst := own_below hst hc18 (Nat.le_refl _);replace hbw := bo_ hbw hc18;clear hc18;refine EL.val (x_pick_t rfl rfl) rfl (EL.as rfl rfl (EL.nil (EX.seq (EC.ret (EX.seq_ret ?_)))))
      exact EX.done (res1 rfl rfl) ⟨rfl, hbw⟩
     ·
      obtain ⟨hcd, hat⟩ := codeS_some hz hj hd;obtain ⟨p, hbp, ew, ec⟩ := hp1 hcd;obtain ⟨hf3, hf4⟩ := hf1 hcd;have hb1 := best_some (us := [afterR ru l]) hro hjm hsf hbp;rw [← ebv] at hb1;obtain ⟨bo, up⟩ := bv
      dsimp only at hb1
      subst hb1;have hpl := best_len hro hbp;have hwl : ws.length = jobs.length := by rw [ew, List.length_map, hpl, hjl]
      refine EC.no rfl (EC.skip (EX.seq (EC.seq (EC.seq (EC.region (EL.mv rfl rfl ?_))))));refine EL.val (x_neq (r := false) rfl rfl (decide_eq_false (fun h => h hcd))) rfl ?_
      refine EL.mv rfl rfl (EL.valg rfl rfl (x_move rfl) rfl ?_);refine EL.valg rfl rfl (x_neq (r := false) rfl rfl (decide_eq_false (fun h => h hcd))) rfl ?_
      refine EL.val (x_pick_f rfl rfl) rfl (EL.mv rfl rfl (EL.valg rfl rfl (x_move rfl) rfl ?_));refine EL.valg rfl rfl (x_neq (r := false) rfl rfl (decide_eq_false (fun h => h (by rw [hat]; rfl)))) rfl ?_
      refine EL.val (x_pick_f rfl rfl) rfl (EL.mv rfl rfl (EL.valg rfl rfl (x_move rfl) rfl ?_));refine EL.valg rfl rfl (x_neq (r := false) rfl rfl (decide_eq_false (fun h => h (by rw [hat]; rfl)))) rfl ?_
      refine EL.val (x_pick_f rfl rfl) rfl (EL.mv rfl rfl (EL.valg rfl rfl (x_move rfl) rfl (EL.valg rfl rfl (fa_67_3 rfl) rfl (EL.valg rfl rfl (ld_3 rfl (q16.at (j := 3) rfl)) rfl ?_))));refine EL.valg rfl rfl (x_neq (r := false) rfl rfl (decide_eq_false (fun h => h ec))) rfl ?_
      refine EL.val (x_pick_f rfl rfl) rfl (EL.mv rfl rfl (EL.valg rfl rfl (x_move rfl) rfl (EL.valg rfl rfl (ln_22 rfl) rfl (EL.valg rfl rfl (x_move rfl) rfl (EL.valg rfl rfl (ln_22 rfl) rfl ?_)))));refine EL.valg rfl rfl (x_neq (r := false) rfl rfl (decide_eq_false (fun h => h (by rw [hwl])))) rfl ?_
      refine EL.val (x_pick_f rfl rfl) rfl (EL.mv rfl rfl (EL.valg rfl rfl (x_move rfl) rfl (EL.valg rfl rfl (ln_22 rfl) rfl (EL.valg rfl rfl (x_move rfl) rfl (EL.valg rfl rfl (ln_22 rfl) rfl ?_)))));refine EL.valg rfl rfl (x_neq (r := false) rfl rfl (decide_eq_false (fun h => h (by rw [hf3])))) rfl ?_
      refine EL.val (x_pick_f rfl rfl) rfl (EL.nil (EX.seq (EC.no rfl (EC.skip (EX.seq (EC.seq (EC.seq (EC.region (EL.as rfl rfl ?_)))))))));refine EL.nil (EX.seq (EC.block ?_));have hcl := Below.refl w17.heap.size w17;refine EC.loopD [6, 18, 188, 189, 190, 191, 192, 193, 194, 195, 196, 197, 198, 199, 200, 201, 202, 203, 204, 205, 206, 207, 208, 209, 210, 211, 212, 213, 214, 215, 216, 217, 218, 219] (fun x : Nat => [(18, .int .i64 (x : Nat))]) (fun x W => x ≤ jobs.length ∧ Below w17.heap.size w17 W) (fun x => jobs.length - x) 0 ⟨Nat.zero_le _, hcl⟩ ⟨rfl, trivial⟩ ?_
      clear hcl
      rintro i wx ⟨hi, hb0⟩
      replace q1 := q1.bl hb0;replace q16 := q16.bl hb0;replace hP := own_below hP hb0 (Nat.le_refl _);replace hF := own_below hF hb0 (Nat.le_refl _);replace hst := own_below hst hb0 (Nat.le_refl _);replace hT := hT.below hb0;replace hbw := hbw.trans (hb0.mono hbw.size)
      by_cases hlt : i < jobs.length
      ·
       obtain ⟨b1, o1, eb1, _, x0⟩ := ints_cells ws i (by omega) wx wx.heap.size _ _ _ (Rd.of_own hP)
       obtain ⟨b2, o2, eb2, _, y0⟩ := ints_cells ws2 i (by omega) wx wx.heap.size _ _ _ (Rd.of_own hF)
       have hil : i < p.steps.length := by omega
       obtain ⟨b3, o3, eb3, _, _, z1⟩ := sts_cells p.steps i hil wx wx.heap.size _ _ _ (Rd.of_own hst);obtain ⟨b4, o4, eb4, _⟩ := ints_cells jobs i hlt w B _ _ _ hv;have hw1 : ws.getD i 0 = (p.steps.getD i st0).wash := by rw [ew, map_getD (d := st0) hil]
       obtain ⟨q, hbq, hwq⟩ := hf4 i (by omega)
       have hj4 : (js.take (i + 1)).length = i + 1 := by rw [List.length_take]; omega
       have hb2 := best_some (us := [afterR ru l]) hro (fun c hc => hjm c (List.mem_of_mem_take hc)) hsf hbq
       obtain ⟨bq, ebq⟩ : ∃ z, z = bestR ru (js.take (i + 1)) [afterR ru l] := ⟨_, rfl⟩;rw [← ebq] at hb2;have hw2 : ws2.getD i 0 = (bp bq).washes := by rw [hwq]; unfold bp; rw [hb2]; rfl
       refine EC.seq (EC.seq (EC.region (EL.mv rfl rfl (EL.mv rfl rfl (EL.val (ln_22 rfl) rfl ?_)))));refine EL.val (x_lss rfl rfl (decide_eq_true (show (((i : Nat) : Int) < ((jobs.length : Nat) : Int)) by omega))) rfl ?_
       refine EL.nil (EX.seq (EC.yes rfl (EC.skip (EX.seq (EC.seq (EC.block (EC.seq ?_)))))));have lt_1 := q1.lt;have lt_16 := q16.lt;refine EC.regionP [[], [], [0, 1], [0, 1, 2], [], [4], [], [4, 5, 6], [4, 5, 6, 7], [4, 5, 6, 7, 8], [0, 1, 2, 3, 4, 5, 6, 7, 8, 9], [0, 1, 2, 3, 4, 5, 6, 7, 8, 9, 10], [0, 1, 2, 3, 4, 5, 6, 7, 8, 9, 10, 11], [0, 1, 2, 3, 4, 5, 6, 7, 8, 9, 10, 11], [0, 1, 2, 3, 4, 5, 6, 7, 8, 9, 10, 11, 12, 13], [0, 1, 2, 3, 4, 5, 6, 7, 8, 9, 10, 11, 12, 13, 14], [0, 1, 2, 3, 4, 5, 6, 7, 8, 9, 10, 11], [0, 1, 2, 3, 4, 5, 6, 7, 8, 9, 10, 11], [0, 1, 2, 3, 4, 5, 6, 7, 8, 9, 10, 11], [0, 1, 2, 3, 4, 5, 6, 7, 8, 9, 10, 11], [0, 1, 2, 3, 4, 5, 6, 7, 8, 9, 10, 11, 19], [0, 1, 2, 3, 4, 5, 6, 7, 8, 9, 10, 11, 18, 19, 20], [0, 1, 2, 3, 4, 5, 6, 7, 8, 9, 10, 11, 16, 17, 18, 19, 20, 21], [0, 1, 2, 3, 4, 5, 6, 7, 8, 9, 10, 11, 16, 17, 18, 19, 20, 21, 22], [0, 1, 2, 3, 4, 5, 6, 7, 8, 9, 10, 11, 12, 13, 14, 15, 16, 17, 18, 19, 20, 21, 22, 23], [0, 1, 2, 3, 4, 5, 6, 7, 8, 9, 10, 11, 12, 13, 14, 15, 16, 17, 18, 19, 20, 21, 22, 23, 24]] 25 [] (phi (fun i_ r => match i_ with | 0 => r 0 = .slice A8 ws.length c8 | 1 => r 1 = .int .i64 (i : Nat) | 2 => r 2 = .pointer (some ⟨b1, o1 + i, none⟩) | 3 => r 3 = .int .i64 (ws.getD i 0) | 4 => r 4 = .pointer (some ⟨g16, 1, none⟩) | 5 => r 5 = .slice AS (bp ((some p, up) : Option Pl × Nat)).steps.length cS | 6 => r 6 = .int .i64 (i : Nat) | 7 => r 7 = .pointer (some ⟨b3, o3 + i * 2, none⟩) | 8 => r 8 = .pointer (some ⟨b3, o3 + i * 2 + 1, none⟩) | 9 => r 9 = .int .i64 (p.steps.getD i st0).wash | 10 => r 10 = .bool false | 11 => r 11 = .bool false | 12 => r 12 = .slice A12 ws2.length c12 | 13 => r 13 = .int .i64 (i : Nat) | 14 => r 14 = .pointer (some ⟨b2, o2 + i, none⟩) | 15 => r 15 = .int .i64 (ws2.getD i 0) | 16 => r 16 = .agg #[.slice Al ru.levels.length cl, .int .i64 ru.fade.lo, .int .i64 ru.fade.hi, .slice Aa ru.allow.length ca, .slice Ap ru.apart.length cp, .slice Ak ru.kinds.length ck] | 17 => r 17 = .slice (some ⟨g14, 0, none⟩) 1 1 | 18 => r 18 = .slice Aj jobs.length cj | 19 => r 19 = .int .i64 (i : Nat) | 20 => r 20 = .int .i64 (i + 1 : Nat) | 21 => r 21 = .slice (some ⟨b4, o4, none⟩) (i + 1) cj | 23 => r 23 = .int .i64 (bp bq).washes | 24 => r 24 = .bool false | _ => True) [(22, fun r w_ => ∃ A c, r 22 = .agg #[.bool bq.1.isSome, .slice A (bp bq).steps.length c, .int .i64 (bp bq).washes, .int .i64 (bp bq).cost, .int .i64 (bq.2 : Nat)])]) (by kernel_rfl) rfl rfl (phi_cons (fun _ _ _ _ h => h) (phi_nil)) (fun i_ hi_ => ?_) ?_
       ·match i_, hi_ with
        | 0, _ =>
         intro val w1 a hb ha hd;have ha := ha.s0 (d := 8) rfl
         exact hs_val ha rfl rfl (x_move rfl) rfl rfl
        | 1, _ =>
         intro val w1 a hb ha hd;have ha := ha.s0 (d := 18) rfl
         exact hs_val ha rfl rfl (x_move rfl) rfl rfl
        | 2, _ =>
         intro val w1 a hb ha hd;have e0 : val 0 = .slice A8 ws.length c8 := hd 0 (memB_mem.1 rfl);have e1 : val 1 = .int .i64 (i : Nat) := hd 1 (memB_mem.1 rfl);have ha := ha.s2 (d := 195) (e := 194) rfl e1 rfl e0
         exact hs_val ha rfl rfl (ix_22 (by show some (Value.slice A8 _ _) = _; rw [eb1]) rfl (show i < ws.length by omega)) rfl rfl
        | 3, _ =>
         intro val w1 a hb ha hd;have e2 : val 2 = .pointer (some ⟨b1, o1 + i, none⟩) := hd 2 (memB_mem.1 rfl);have ha := ha.s1 (d := 196) rfl e2
         exact hs_val ha rfl rfl (ld_3 rfl (below_load hb x0)) rfl rfl
        | 4, _ =>
         intro val w1 a hb ha hd;have ha := ha.s0 (d := 17) rfl
         exact hs_val ha rfl rfl (fa_67_1 rfl) rfl rfl
        | 5, _ =>
         intro val w1 a hb ha hd;have e4 : val 4 = .pointer (some ⟨g16, 1, none⟩) := hd 4 (memB_mem.1 rfl);have ha := ha.s1 (d := 198) rfl e4
         exact hs_val ha rfl rfl (ld_65 rfl ((q16.below hb q16.lt).at (j := 1) rfl)) rfl rfl
        | 6, _ =>
         intro val w1 a hb ha hd;have ha := ha.s0 (d := 18) rfl
         exact hs_val ha rfl rfl (x_move rfl) rfl rfl
        | 7, _ =>
         intro val w1 a hb ha hd;have e5 : val 5 = .slice AS (bp ((some p, up) : Option Pl × Nat)).steps.length cS := hd 5 (memB_mem.1 rfl);have e6 : val 6 = .int .i64 (i : Nat) := hd 6 (memB_mem.1 rfl);have ha := ha.s2 (d := 200) (e := 199) rfl e6 rfl e5
         exact hs_val ha rfl rfl (ix_65 (by show some (Value.slice AS _ _) = _; rw [eb3]; rfl) rfl hil) rfl rfl
        | 8, _ =>
         intro val w1 a hb ha hd;have e7 : val 7 = .pointer (some ⟨b3, o3 + i * 2, none⟩) := hd 7 (memB_mem.1 rfl);have ha := ha.s1 (d := 201) rfl e7
         exact hs_val ha rfl rfl (fa_70_1 rfl) rfl rfl
        | 9, _ =>
         intro val w1 a hb ha hd;have e8 : val 8 = .pointer (some ⟨b3, o3 + i * 2 + 1, none⟩) := hd 8 (memB_mem.1 rfl);have ha := ha.s1 (d := 202) rfl e8
         exact hs_val ha rfl rfl (ld_3 rfl (below_load hb z1)) rfl rfl
        | 10, _ =>
         intro val w1 a hb ha hd;have e3 : val 3 = .int .i64 (ws.getD i 0) := hd 3 (memB_mem.1 rfl);have e9 : val 9 = .int .i64 (p.steps.getD i st0).wash := hd 9 (memB_mem.1 rfl);have ha := ha.s2 (d := 203) (e := 197) rfl e9 rfl e3
         exact hs_val ha rfl rfl (x_neq (r := false) rfl rfl (decide_eq_false (fun h => h hw1))) rfl rfl
        | 11, _ =>
         intro val w1 a hb ha hd;have e10 : val 10 = .bool false := hd 10 (memB_mem.1 rfl);have ha := ha.s1 (d := 204) rfl e10
         exact hs_val ha rfl rfl (x_move rfl) rfl rfl
        | 12, _ =>
         intro val w1 a hb ha hd;have e11 : val 11 = .bool false := hd 11 (memB_mem.1 rfl);have ha := ha.sub (Sub.ins (d := 205) (Sub.ins (d := 12) (Sub.nil _) rfl) (dep_get rfl e11))
         exact hs_valg ha rfl rfl rfl rfl (x_move rfl) rfl rfl
        | 13, _ =>
         intro val w1 a hb ha hd;have e11 : val 11 = .bool false := hd 11 (memB_mem.1 rfl);have ha := ha.sub (Sub.ins (d := 205) (Sub.ins (d := 18) (Sub.nil _) rfl) (dep_get rfl e11))
         exact hs_valg ha rfl rfl rfl rfl (x_move rfl) rfl rfl
        | 14, _ =>
         intro val w1 a hb ha hd;have e12 : val 12 = .slice A12 ws2.length c12 := hd 12 (memB_mem.1 rfl);have e13 : val 13 = .int .i64 (i : Nat) := hd 13 (memB_mem.1 rfl);have e11 : val 11 = .bool false := hd 11 (memB_mem.1 rfl);have ha := ha.sub (Sub.ins (d := 205) (Sub.ins (d := 207) (Sub.ins (d := 206) (Sub.nil _) (dep_get rfl e12)) (dep_get rfl e13)) (dep_get rfl e11))
         exact hs_valg ha rfl rfl rfl rfl (ix_22 (by show some (Value.slice A12 _ _) = _; rw [eb2]) rfl (show i < ws2.length by omega)) rfl rfl
        | 15, _ =>
         intro val w1 a hb ha hd;have e14 : val 14 = .pointer (some ⟨b2, o2 + i, none⟩) := hd 14 (memB_mem.1 rfl);have e11 : val 11 = .bool false := hd 11 (memB_mem.1 rfl);have ha := ha.s2 (d := 205) (e := 208) rfl e11 rfl e14
         exact hs_valg ha rfl rfl rfl rfl (ld_3 rfl (below_load hb y0)) rfl rfl
        | 16, _ =>
         intro val w1 a hb ha hd;have e11 : val 11 = .bool false := hd 11 (memB_mem.1 rfl);have ha := ha.sub (Sub.ins (d := 205) (Sub.ins (d := 3) (Sub.nil _) rfl) (dep_get rfl e11))
         exact hs_valg ha rfl rfl rfl rfl (ld_28 rfl ((q1.below hb q1.lt).at (j := 0) rfl) ((q1.below hb q1.lt).at (j := 1) rfl) ((q1.below hb q1.lt).at (j := 2) rfl) ((q1.below hb q1.lt).at (j := 3) rfl) ((q1.below hb q1.lt).at (j := 4) rfl) ((q1.below hb q1.lt).at (j := 5) rfl)) rfl rfl
        | 17, _ =>
         intro val w1 a hb ha hd;have e11 : val 11 = .bool false := hd 11 (memB_mem.1 rfl);have ha := ha.sub (Sub.ins (d := 205) (Sub.ins (d := 16) (Sub.nil _) rfl) (dep_get rfl e11))
         exact hs_valg ha rfl rfl rfl rfl (x_move rfl) rfl rfl
        | 18, _ =>
         intro val w1 a hb ha hd;have e11 : val 11 = .bool false := hd 11 (memB_mem.1 rfl);have ha := ha.sub (Sub.ins (d := 205) (Sub.ins (d := 2) (Sub.nil _) rfl) (dep_get rfl e11))
         exact hs_valg ha rfl rfl rfl rfl (x_move rfl) rfl rfl
        | 19, _ =>
         intro val w1 a hb ha hd;have e11 : val 11 = .bool false := hd 11 (memB_mem.1 rfl);have ha := ha.sub (Sub.ins (d := 205) (Sub.ins (d := 18) (Sub.nil _) rfl) (dep_get rfl e11))
         exact hs_valg ha rfl rfl rfl rfl (x_move rfl) rfl rfl
        | 20, _ =>
         intro val w1 a hb ha hd;have e19 : val 19 = .int .i64 (i : Nat) := hd 19 (memB_mem.1 rfl);have e11 : val 11 = .bool false := hd 11 (memB_mem.1 rfl);have ha := ha.s2 (d := 205) (e := 213) rfl e11 rfl e19
         exact hs_valg ha rfl rfl rfl rfl (x_add rfl rfl (c := ((i + 1 : Nat) : Int)) ((IntWalk.i64_in _ ⟨by omega, by omega⟩).trans (by omega))) rfl rfl
        | 21, _ =>
         intro val w1 a hb ha hd;have e18 : val 18 = .slice Aj jobs.length cj := hd 18 (memB_mem.1 rfl);have e20 : val 20 = .int .i64 (i + 1 : Nat) := hd 20 (memB_mem.1 rfl);have e11 : val 11 = .bool false := hd 11 (memB_mem.1 rfl);have ha := ha.sub (Sub.ins (d := 205) (Sub.ins (d := 214) (Sub.ins (d := 212) (Sub.nil _) (dep_get rfl e18)) (dep_get rfl e20)) (dep_get rfl e11))
         exact hs_valg ha rfl rfl rfl rfl (slh_22 (by show some (Value.slice Aj _ _) = _; rw [eb4]) rfl (show i + 1 ≤ cj by omega)) rfl rfl
        | 22, _ =>
         intro val w1 a hb ha hd;have e16 : val 16 = .agg #[.slice Al ru.levels.length cl, .int .i64 ru.fade.lo, .int .i64 ru.fade.hi, .slice Aa ru.allow.length ca, .slice Ap ru.apart.length cp, .slice Ak ru.kinds.length ck] := hd 16 (memB_mem.1 rfl);have e17 : val 17 = .slice (some ⟨g14, 0, none⟩) 1 1 := hd 17 (memB_mem.1 rfl);have e21 : val 21 = .slice (some ⟨b4, o4, none⟩) (i + 1) cj := hd 21 (memB_mem.1 rfl);have e11 : val 11 = .bool false := hd 11 (memB_mem.1 rfl);have ha := ha.sub (Sub.ins (d := 205) (Sub.ins (d := 215) (Sub.ins (d := 211) (Sub.ins (d := 210) (Sub.nil _) (dep_get rfl e16)) (dep_get rfl e17)) (dep_get rfl e21)) (dep_get rfl e11));have hbz := hbw.trans (hb.mono hbw.size);have hca := rFleet_any (hr.below (hbz.mono hB)) (Nat.le_trans hB hbz.size) hro (js := js.take (i + 1)) (fun k hk => by rw [take_getD hk]; exact hj2 k (by rw [List.length_take] at hk; omega)) (by omega) (hT.below hb) (show 1 ≤ 3 by decide) hok (by decide) (vj := .slice (some ⟨b4, o4, none⟩) (i + 1) cj) (by rw [hj4]; have h0 := rd_preI (m := i + 1) (hv.below (hbz.mono hB)) (by omega); rw [eb4] at h0; rw [jsI_take, hj1]; exact h0)
         rw [show [((afterR ru l, (T1, cT1), (T2, cT2)) : Tk)].map (·.1) = [afterR ru l] from rfl, ← ebq] at hca;refine hs_callg ha rfl rfl rfl rfl (cl_28 rfl rfl rfl) hca rfl ?_
         rintro e w' ⟨⟨A, c, rfl, _⟩, hb'⟩
         exact ⟨_, rfl, hb', ⟨A, c, rfl⟩⟩
        | 23, _ =>
         intro val w1 a hb ha hd;obtain ⟨AQ, cQ, e22⟩ := hd 22 (memB_mem.1 rfl);have e11 : val 11 = .bool false := hd 11 (memB_mem.1 rfl);have ha := ha.s2 (d := 205) (e := 216) rfl e11 rfl e22
         exact hs_valg ha rfl rfl rfl rfl (fd_67_2 rfl) rfl rfl
        | 24, _ =>
         intro val w1 a hb ha hd;have e15 : val 15 = .int .i64 (ws2.getD i 0) := hd 15 (memB_mem.1 rfl);have e23 : val 23 = .int .i64 (bp bq).washes := hd 23 (memB_mem.1 rfl);have e11 : val 11 = .bool false := hd 11 (memB_mem.1 rfl);have ha := ha.sub (Sub.ins (d := 205) (Sub.ins (d := 217) (Sub.ins (d := 209) (Sub.nil _) (dep_get rfl e15)) (dep_get rfl e23)) (dep_get rfl e11))
         exact hs_valg ha rfl rfl rfl rfl (x_neq (r := false) rfl rfl (decide_eq_false (fun h => h hw2))) rfl rfl
        | k + 25, h => exact absurd h (by omega)
       ·intro val wR22 hb halc hd
        have e0 : val 0 = .slice A8 ws.length c8 := hd 0 (by omega)
        have e1 : val 1 = .int .i64 (i : Nat) := hd 1 (by omega)
        have e2 : val 2 = .pointer (some ⟨b1, o1 + i, none⟩) := hd 2 (by omega)
        have e3 : val 3 = .int .i64 (ws.getD i 0) := hd 3 (by omega)
        have e4 : val 4 = .pointer (some ⟨g16, 1, none⟩) := hd 4 (by omega)
        have e5 : val 5 = .slice AS (bp ((some p, up) : Option Pl × Nat)).steps.length cS := hd 5 (by omega)
        have e6 : val 6 = .int .i64 (i : Nat) := hd 6 (by omega)
        have e7 : val 7 = .pointer (some ⟨b3, o3 + i * 2, none⟩) := hd 7 (by omega)
        have e8 : val 8 = .pointer (some ⟨b3, o3 + i * 2 + 1, none⟩) := hd 8 (by omega)
        have e9 : val 9 = .int .i64 (p.steps.getD i st0).wash := hd 9 (by omega)
        have e10 : val 10 = .bool false := hd 10 (by omega)
        have e11 : val 11 = .bool false := hd 11 (by omega)
        have e12 : val 12 = .slice A12 ws2.length c12 := hd 12 (by omega)
        have e13 : val 13 = .int .i64 (i : Nat) := hd 13 (by omega)
        have e14 : val 14 = .pointer (some ⟨b2, o2 + i, none⟩) := hd 14 (by omega)
        have e15 : val 15 = .int .i64 (ws2.getD i 0) := hd 15 (by omega)
        have e16 : val 16 = .agg #[.slice Al ru.levels.length cl, .int .i64 ru.fade.lo, .int .i64 ru.fade.hi, .slice Aa ru.allow.length ca, .slice Ap ru.apart.length cp, .slice Ak ru.kinds.length ck] := hd 16 (by omega)
        have e17 : val 17 = .slice (some ⟨g14, 0, none⟩) 1 1 := hd 17 (by omega)
        have e18 : val 18 = .slice Aj jobs.length cj := hd 18 (by omega)
        have e19 : val 19 = .int .i64 (i : Nat) := hd 19 (by omega)
        have e20 : val 20 = .int .i64 (i + 1 : Nat) := hd 20 (by omega)
        have e21 : val 21 = .slice (some ⟨b4, o4, none⟩) (i + 1) cj := hd 21 (by omega)
        obtain ⟨AQ, cQ, e22⟩ := hd 22 (by omega)
        have e23 : val 23 = .int .i64 (bp bq).washes := hd 23 (by omega)
        have e24 : val 24 = .bool false := hd 24 (by omega)
        refine EL.ends (cs := [.slice A8 ws.length c8, .int .i64 (i : Nat), .pointer (some ⟨b1, o1 + i, none⟩), .int .i64 (ws.getD i 0), .pointer (some ⟨g16, 1, none⟩), .slice AS (bp ((some p, up) : Option Pl × Nat)).steps.length cS, .int .i64 (i : Nat), .pointer (some ⟨b3, o3 + i * 2, none⟩), .pointer (some ⟨b3, o3 + i * 2 + 1, none⟩), .int .i64 (p.steps.getD i st0).wash, .bool false, .bool false, .slice A12 ws2.length c12, .int .i64 (i : Nat), .pointer (some ⟨b2, o2 + i, none⟩), .int .i64 (ws2.getD i 0), .agg #[.slice Al ru.levels.length cl, .int .i64 ru.fade.lo, .int .i64 ru.fade.hi, .slice Aa ru.allow.length ca, .slice Ap ru.apart.length cp, .slice Ak ru.kinds.length ck], .slice (some ⟨g14, 0, none⟩) 1 1, .slice Aj jobs.length cj, .int .i64 (i : Nat), .int .i64 (i + 1 : Nat), .slice (some ⟨b4, o4, none⟩) (i + 1) cj, .agg #[.bool bq.1.isSome, .slice AQ (bp bq).steps.length cQ, .int .i64 (bp bq).washes, .int .i64 (bp bq).cost, .int .i64 (bq.2 : Nat)], .int .i64 (bp bq).washes, .bool false]) ⟨e0, e1, e2, e3, e4, e5, e6, e7, e8, e9, e10, e11, e12, e13, e14, e15, e16, e17, e18, e19, e20, e21, e22, e23, e24, trivial⟩ rfl ?_;replace q1 := q1.bl hb;replace q16 := q16.bl hb;replace hP := own_below hP hb (Nat.le_refl _);replace hF := own_below hF hb (Nat.le_refl _);replace hst := own_below hst hb (Nat.le_refl _);replace hT := hT.below hb;replace hbw := bo_ hbw hb;replace hb0 := bo_ hb0 hb;clear hb;refine EL.val (x_pick_f rfl rfl) rfl (EL.nil (EX.seq (EC.no rfl (EC.skip (EX.blk (EX.seq (EC.region (EL.mv rfl rfl ?_))))))));refine EL.val (x_add rfl rfl (c := ((i + 1 : Nat) : Int)) ((IntWalk.i64_in _ ⟨by first | omega | (simp only; omega), by first | omega | (simp only; omega)⟩).trans (by first | omega | (simp only; omega)))) rfl ?_
        refine EL.as rfl rfl (EL.nil ?_);refine EX.roundD (i + 1) ⟨rfl, trivial⟩ (by repeat first | with_reducible exact Sub.refl _ | refine sub_past rfl ?_ | exact Sub.refl _ | refine sub_del rfl ?_ | refine sub_insL_nil ?_) ⟨hlt, hb0⟩ (by omega)
      ·
       have hxe : i = jobs.length := by omega
       refine EC.seq (EC.seq (EC.region (EL.mv rfl rfl (EL.mv rfl rfl (EL.val (ln_22 rfl) rfl ?_)))));refine EL.val (x_lss rfl rfl (decide_eq_false (show ¬(((i : Nat) : Int) < ((jobs.length : Nat) : Int)) by omega))) rfl ?_
       refine EL.nil (EX.seq (EC.no rfl (EC.exit (EX.seq_exit (EX.seq_exit (EX.blk_here (EX.seq (EC.seq (EC.region ?_)))))))));refine EL.call cl_12 rfl (known_any _) ?_
       rintro e w19 ⟨rfl, hc19⟩
       refine ⟨_, rfl, ?_⟩;replace q1 := q1.bl hc19;replace q16 := q16.bl hc19;replace hP := own_below hP hc19 (Nat.le_refl _);replace hF := own_below hF hc19 (Nat.le_refl _);replace hst := own_below hst hc19 (Nat.le_refl _);replace hT := hT.below hc19;replace hbw := bo_ hbw hc19;clear hc19;refine EL.as rfl rfl (EL.nil (EX.seq (EC.ret ?_)))
       exact EX.done (res1 rfl rfl) ⟨rfl, hbw⟩
    ·
     have hee : errS ru l jobs = jobsE ru jobs 10 := errS_job hz;obtain ⟨hcd, hat⟩ := codeS_err (jobs := jobs) (by rw [hee]; exact hj)
     rw [hee] at hcd;have hcn : codeS ru l jobs ≠ 0 := by rw [hcd]; exact hj
     have hw0 : ws.length = 0 := by rw [(hp2 hcn).1]; rfl
     have hcc := (hp2 hcn).2;have hw20 : ws2.length = 0 := by rw [hf2 hcn]; rfl
     refine EL.val (x_neq (r := true) rfl rfl (decide_eq_true hj)) rfl (EL.nil (EX.seq (EC.yes rfl (EC.seq (EC.region (EL.mv rfl rfl (EL.mv rfl rfl (EL.val (x_eql (r := true) rfl rfl (decide_eq_true hcd)) rfl (EL.mv rfl rfl ?_)))))))));refine EL.valg rfl rfl (x_move rfl) rfl (EL.valg rfl rfl (x_move rfl) rfl (EL.valg rfl rfl (x_eql (r := true) rfl rfl (decide_eq_true hcd)) rfl (EL.val (x_pick_t rfl rfl) rfl (EL.mv rfl rfl (EL.valg rfl rfl (x_move rfl) rfl (EL.valg rfl rfl (ln_22 rfl) rfl (EL.valg rfl rfl (x_move rfl) rfl (EL.valg rfl rfl (ln_22 rfl) rfl ?_))))))));refine EL.valg rfl rfl (x_add rfl rfl (c := 0) ((IntWalk.i64_in _ ⟨by omega, by omega⟩).trans (by omega))) rfl ?_
     refine EL.valg rfl rfl (x_eql (r := true) rfl rfl (decide_eq_true rfl)) rfl (EL.val (x_pick_t rfl rfl) rfl (EL.mv rfl rfl (EL.valg rfl rfl (x_move rfl) rfl (EL.valg rfl rfl (x_eql (r := true) rfl rfl (decide_eq_true hcc)) rfl (EL.val (x_pick_t rfl rfl) rfl (EL.mv rfl rfl (EL.valg rfl rfl (x_move rfl) rfl ?_)))))));refine EL.valg rfl rfl (x_eql (r := true) rfl rfl (decide_eq_true (by rw [hat]; rfl))) rfl ?_
     refine EL.val (x_pick_t rfl rfl) rfl (EL.mv rfl rfl (EL.valg rfl rfl (x_move rfl) rfl ?_));refine EL.valg rfl rfl (x_eql (r := true) rfl rfl (decide_eq_true (by rw [hat]; rfl))) rfl ?_
     refine EL.val (x_pick_t rfl rfl) rfl (EL.mv rfl rfl (EL.callg rfl rfl cl_12 rfl (known_any _) ?_))
     rintro e w20 ⟨rfl, hc20⟩
     refine ⟨_, rfl, ?_⟩;replace q1 := q1.bl hc20;replace hin := own_below hin hc20 (Nat.le_refl _);replace hP := own_below hP hc20 (Nat.le_refl _);replace hF := own_below hF hc20 (Nat.le_refl _);replace hbw := bo_ hbw hc20;clear hc20;refine EL.val (x_pick_t rfl rfl) rfl (EL.as rfl rfl (EL.nil (EX.seq (EC.ret (EX.seq_ret ?_)))))
     exact EX.done (res1 rfl rfl) ⟨rfl, hbw⟩
   ·
    have hee : errS ru l jobs = refE ru l := errS_ref hz;obtain ⟨hcd, hat⟩ := codeS_err (jobs := jobs) (by rw [hee]; exact hz)
    rw [hee] at hcd;have hcn : codeS ru l jobs ≠ 0 := by rw [hcd]; exact hz
    have hw0 : ws.length = 0 := by rw [(hp2 hcn).1]; rfl
    have hcc := (hp2 hcn).2;have hw20 : ws2.length = 0 := by rw [hf2 hcn]; rfl
    refine EL.val (x_eql (r := false) rfl rfl (decide_eq_false hz)) rfl (EL.nil (EX.seq (EC.no rfl (EC.skip (EX.seq (EC.seq (EC.seq (EC.region (EL.mv rfl rfl ?_)))))))));refine EL.val (x_neq (r := true) rfl rfl (decide_eq_true hz)) rfl (EL.nil (EX.seq (EC.yes rfl (EC.seq (EC.region (EL.mv rfl rfl (EL.mv rfl rfl (EL.val (x_eql (r := true) rfl rfl (decide_eq_true hcd)) rfl (EL.mv rfl rfl ?_)))))))));refine EL.valg rfl rfl (x_move rfl) rfl (EL.valg rfl rfl (x_move rfl) rfl (EL.valg rfl rfl (x_eql (r := true) rfl rfl (decide_eq_true hcd)) rfl (EL.val (x_pick_t rfl rfl) rfl (EL.mv rfl rfl (EL.valg rfl rfl (x_move rfl) rfl (EL.valg rfl rfl (ln_22 rfl) rfl (EL.valg rfl rfl (x_move rfl) rfl (EL.valg rfl rfl (ln_22 rfl) rfl ?_))))))));refine EL.valg rfl rfl (x_add rfl rfl (c := 0) ((IntWalk.i64_in _ ⟨by omega, by omega⟩).trans (by omega))) rfl ?_
    refine EL.valg rfl rfl (x_eql (r := true) rfl rfl (decide_eq_true rfl)) rfl (EL.val (x_pick_t rfl rfl) rfl (EL.mv rfl rfl (EL.valg rfl rfl (x_move rfl) rfl (EL.valg rfl rfl (x_eql (r := true) rfl rfl (decide_eq_true hcc)) rfl (EL.val (x_pick_t rfl rfl) rfl (EL.mv rfl rfl (EL.valg rfl rfl (x_move rfl) rfl ?_)))))));refine EL.valg rfl rfl (x_eql (r := true) rfl rfl (decide_eq_true (by rw [hat]; rfl))) rfl ?_
    refine EL.val (x_pick_t rfl rfl) rfl (EL.mv rfl rfl (EL.valg rfl rfl (x_move rfl) rfl ?_));refine EL.valg rfl rfl (x_eql (r := true) rfl rfl (decide_eq_true (by rw [hat]; rfl))) rfl ?_
    refine EL.val (x_pick_t rfl rfl) rfl (EL.mv rfl rfl (EL.callg rfl rfl cl_12 rfl (known_any _) ?_))
    rintro e w21 ⟨rfl, hc21⟩
    refine ⟨_, rfl, ?_⟩;replace q1 := q1.bl hc21;replace hin := own_below hin hc21 (Nat.le_refl _);replace hP := own_below hP hc21 (Nat.le_refl _);replace hF := own_below hF hc21 (Nat.le_refl _);replace hbw := bo_ hbw hc21;clear hc21;refine EL.val (x_pick_t rfl rfl) rfl (EL.as rfl rfl (EL.nil (EX.seq (EC.ret (EX.seq_ret ?_)))))
    exact EX.done (res1 rfl rfl) ⟨rfl, hbw⟩
  ·
   refine EC.yes rfl (EC.seq (EC.region (EL.call cl_12 rfl (known_any _) ?_)))
   rintro e w22 ⟨rfl, hc22⟩
   refine ⟨_, rfl, ?_⟩;replace q1 := q1.bl hc22;replace hbw := bo_ hbw hc22;clear hc22;refine EL.as rfl rfl (EL.nil (EX.seq (EC.ret (EX.seq_ret ?_))))
   exact EX.done (res1 rfl rfl) ⟨rfl, hbw⟩
end Go.Proofs.Ytdkedhcbdbpccaa
