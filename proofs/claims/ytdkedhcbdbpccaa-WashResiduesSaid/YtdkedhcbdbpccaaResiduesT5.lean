/- X17, ExX18, X18, ExX19: what WashResiduesProof needs of them (merged by trimpack.py). -/
import Derived.Test.YtdkedhcbdbpccaaResiduesT4
set_option linter.unusedVariables false
set_option linter.unusedSimpArgs false
namespace Go.Proofs.Ytdkedhcbdbpccaa
open Go Go.RowKit
theorem agree_i {σ : Sg} {s : Nat} {b b' : Int} (h : b = b') (hs : σ s = some (.int .i64 b)) : σ s = some (.int .i64 b') := h ▸ hs
/-- the tanks behind the first i histories -/
def fillF (ru : Rules) (tanks : List (List Ev)) (i : Nat) : List (List Tr) := (List.range 3).map fun k => if k < i then tkE ru (tanks.getD k []) else tank0
theorem fillF_ok (ru : Rules) (tanks : List (List Ev)) (i : Nat) : FlOk (fillF ru tanks i) := by
 have hm : ∀ u ∈ fillF ru tanks i, TkOk u := fun u hu => by
  obtain ⟨k, _, rfl⟩ := List.mem_map.1 hu
  split
  ·exact tkE_ok ru _
  ·exact tank0_ok
 exact ⟨⟨by simp [fillF], fun u hu => (hm u hu).n8⟩, hm⟩
theorem fillF_set {ru : Rules} {tanks : List (List Ev)} {i : Nat} (h : i < 3) : (fillF ru tanks i).set i (tkE ru (tanks.getD i [])) = fillF ru tanks (i + 1) := by
 match i, h with
 | 0, _ => rfl
 | 1, _ => rfl
 | 2, _ => rfl
def tanksE (ru : Rules) : List (List Ev) → Int
 | [] => 0
 | l :: ls => if refE ru l = 0 then tanksE ru ls else refE ru l
theorem tanksE_none {ru : Rules} : ∀ {tanks : List (List Ev)}, (∀ k, k < tanks.length → refE ru (tanks.getD k []) = 0) → tanksE ru tanks = 0
 | [], _ => rfl
 | l :: ls, h => by
  have h0 := h 0 (by simp)
  show (if refE ru l = 0 then _ else _) = _
  rw [if_pos (show refE ru l = 0 from h0)]
  exact tanksE_none fun k hk => h (k + 1) (by simpa using hk)
theorem tanksE_at {ru : Rules} : ∀ {tanks : List (List Ev)} {i : Nat}, (∀ k, k < i → refE ru (tanks.getD k []) = 0) → i < tanks.length → refE ru (tanks.getD i []) ≠ 0 → tanksE ru tanks = refE ru (tanks.getD i [])
 | [], _, _, h, _ => by simp at h
 | l :: ls, 0, _, _, hz => if_neg hz
 | l :: ls, i + 1, h, hi, hz => by
  show (if refE ru l = 0 then _ else _) = _
  rw [if_pos (show refE ru l = 0 from h 0 (by omega))]
  exact tanksE_at (i := i) (fun k hk => h (k + 1) (by omega)) (by simpa using hi) hz
def yardE (ru : Rules) (tanks : List (List Ev)) (jobs : List Int) : Int := if rulesB ru = true then (if 3 < tanks.length then 5 else if tanks.length = 0 then 4 else if tanksE ru tanks = 0 then jobsE ru jobs 6 else tanksE ru tanks) else 2
theorem yard_e {ru : Rules} {tanks : List (List Ev)} {jobs : List Int} {a b : Value} {c : Int} (h : yardE ru tanks jobs = c) : Ending.returned (.tuple #[a, b, .int .i64 c]) = .returned (.tuple #[a, b, .int .i64 (yardE ru tanks jobs)]) := by rw [h]
set_option maxHeartbeats 2000000 in
theorem yard_any {ru : Rules} {ua up : List Value} {vl va vp vk : Value} {w : World} {B : Nat} (hr : RdRules w B vl va vp vk ru ua up) (hB : B ≤ w.heap.size) (hs : Short ru) {tanks : List (List Ev)} {vt : Value} {ut : List Value} (ht : RdLL evC 2 w B vt tanks ut) (htn : ∀ i, i < tanks.length → (tanks.getD i []).length ≤ 1048576) (htl : tanks.length ≤ 9223372036854775807) {jobs : List Int} {vj : Value} (hv : Rd w B 1 vj jobs.length (ints jobs)) (hjn : jobs.length ≤ 9223372036854775807) :
  Calls Try.prog 68 #[rulesV vl va vp vk ru, vt, vj] w fun e w' => (∃ sf, e = .returned (.tuple #[rulesV vl va vp vk ru, flV sf, .int .i64 (yardE ru tanks jobs)]) ∧ FlOk sf ∧ (yardE ru tanks jobs = 0 → sf = fillF ru tanks tanks.length)) ∧ Below w.heap.size w w' := by
 obtain ⟨Al, cl, rfl, _⟩ := hr.levels.shape;obtain ⟨Aa, ca, rfl, _⟩ := hr.allow.rd.shape;obtain ⟨Ap, cp, rfl, _⟩ := hr.apart.rd.shape;obtain ⟨Ak, ck, rfl, _⟩ := hr.kinds.shape;obtain ⟨At, ct, rfl, _⟩ := ht.rd.shape;obtain ⟨Aj, cj, rfl, _⟩ := hv.shape;have hbw := Below.refl w.heap.size w
 unfold rulesV
 refine EC.enter 61 Try.func68 rfl rfl rfl ?_;refine EC.seq ?_;refine EC.region ?_;refine EL.newP (bx_28 rfl) rfl ?_;intro g1 w1 q1 hb1 hg1 hl1;have bhbw_1 := Nat.le_trans hbw.size hg1;replace hbw := Below.on hbw hb1 hbw.size;clear hb1 hg1 hl1;refine EL.newP al_116 rfl ?_;intro g2 w2 q2 hb2 hg2 hl2;have n1_2 : g1 ≠ g2 := Nat.ne_of_lt (Nat.lt_of_lt_of_le q1.lt hg2);have bhbw_2 := Nat.le_trans hbw.size hg2;replace q1 := q1.below hb2 q1.lt;replace hbw := Below.on hbw hb2 hbw.size;clear hb2 hg2 hl2;refine EL.newP al_fleet rfl ?_;intro g3 w3 q3 hb3 hg3 hl3;have n1_3 : g1 ≠ g3 := Nat.ne_of_lt (Nat.lt_of_lt_of_le q1.lt hg3);have n2_3 : g2 ≠ g3 := Nat.ne_of_lt (Nat.lt_of_lt_of_le q2.lt hg3);have bhbw_3 := Nat.le_trans hbw.size hg3;replace q1 := q1.below hb3 q1.lt;replace q2 := q2.below hb3 q2.lt;replace hbw := Below.on hbw hb3 hbw.size;clear hb3 hg3 hl3;refine EL.val (x_assign rfl) rfl ?_;refine EL.nil ?_;refine EX.seq ?_;refine EC.seq ?_;refine EC.region ?_;refine EL.val (ld_28 rfl (q1.at (j := 0) rfl) (q1.at (j := 1) rfl) (q1.at (j := 2) rfl) (q1.at (j := 3) rfl) (q1.at (j := 4) rfl) (q1.at (j := 5) rfl)) rfl ?_
 cases hrb : rulesB ru
 ·
  have hop := open_any (hr.below (hbw.mono hB)) (Nat.le_trans hB hbw.size) hs;rw [hrb] at hop;refine EL.call (cl_74 rfl) rfl (hop) ?_
  rintro e w4 ⟨rfl, hc4⟩
  refine ⟨_, rfl, ?_⟩;replace q1 := q1.below hc4 q1.lt;replace q2 := q2.below hc4 q2.lt;replace q3 := q3.below hc4 q3.lt;replace hbw := Below.on hbw hc4 hbw.size;clear hc4;refine EL.val (x_move rfl) rfl ?_;refine EL.val (x_extract rfl rfl) rfl ?_;refine EL.val (x_extract rfl rfl) rfl ?_;refine EL.store rfl rfl q2 sz_116 rfl rfl rfl rfl ?_;intro w5 hq5 hg5;replace q1 := q1.grown hg5 (fun h => n1_2 (Option.some.inj h))
  replace q3 := q3.grown hg5 (fun h => n2_3.symm (Option.some.inj h))
  replace hbw := below_store hbw hg5 bhbw_2;replace q2 := hq5;clear hg5 hq5;refine EL.val (x_assign rfl) rfl ?_;refine EL.nil ?_;refine EX.seq ?_;refine EC.seq ?_;refine EC.block ?_;refine EC.seq ?_;refine EC.region ?_;refine EL.val (x_move rfl) rfl ?_;refine EL.val (x_neq (r := true) rfl rfl (by decide)) rfl ?_
  refine EL.val (x_assign rfl) rfl ?_;refine EL.nil ?_;refine EX.seq ?_;refine EC.yes rfl ?_;refine EC.seq ?_;have lt_1 := q1.lt;have lt_2 := q2.lt;have lt_3 := q3.lt;refine EC.regionS [[], [], [], [0], [0, 1, 3], [0, 1, 2, 3, 4]] 5 [] [3, 4] (fun fl w_ => Touch w5 w_ [g2, g3] ∧ Blk w_ g2 116 #[.slice Al ru.levels.length cl, .int .i64 ru.fade.lo, .int .i64 ru.fade.hi, .slice Aa ru.allow.length ca, .slice Ap ru.apart.length cp, .slice Ak ru.kinds.length ck] ∧ Blk w_ g3 150 (flC [tank0, tank0, tank0]).toArray) (phiS (fun i_ r => match i_ with | 0 => r 0 = .agg #[.slice Al ru.levels.length cl, .int .i64 ru.fade.lo, .int .i64 ru.fade.hi, .slice Aa ru.allow.length ca, .slice Ap ru.apart.length cp, .slice Ak ru.kinds.length ck] | 1 => r 1 = .agg (flC [tank0, tank0, tank0]).toArray | 2 => r 2 = .int .i64 2 | _ => True) []) (by kernel_rfl) rfl rfl (by intro i hi; simp at hi; rcases hi with rfl | rfl <;> exact ⟨by simp, by omega⟩) ⟨fun _ _ => ⟨Touch.start _ _, q2, q3⟩, fun _ _ _ ⟨hT, h6, h7⟩ hb => ⟨hT.below hb, h6.below hb h6.lt, h7.below hb h7.lt⟩, fun _ _ h => h.1.size⟩ phiS_nil (fun i_ hi_ hs_ => ?_) (fun i_ hi_ => ?_) ?_
  ·match i_, hi_ with
   | 0, _ =>
    intro val fl w1 a hb ha hd hfl;obtain ⟨hT, h6, h7⟩ := hb;have ha := ha.sub (Sub.ins (d := 6) (Sub.nil _) rfl)
    exact ss_val ha rfl rfl (ld_116 rfl (h6.at (j := 0) rfl) (h6.at (j := 1) rfl) (h6.at (j := 2) rfl) (h6.at (j := 3) rfl) (h6.at (j := 4) rfl) (h6.at (j := 5) rfl)) rfl rfl
   | 1, _ =>
    intro val fl w1 a hb ha hd hfl;obtain ⟨hT, h6, h7⟩ := hb;have ha := ha.sub (Sub.ins (d := 7) (Sub.nil _) rfl)
    exact ss_val ha rfl rfl (x_loadA rfl (h7.range (PartAt.whole _)) Try.underlying150 rfl (sz_150.trans (congrArg some fl0_len.symm))) rfl rfl
   | 2, _ =>
    intro val fl w1 a hb ha hd hfl;obtain ⟨hT, h6, h7⟩ := hb;have ha := ha.sub (Sub.ins (d := 8) (Sub.nil _) rfl)
    exact ss_val ha rfl rfl (x_move rfl) rfl rfl
   | 3, _ =>
    exact absurd (by simp) hs_
   | 4, _ =>
    exact absurd (by simp) hs_
   | k + 5, h => exact absurd h (by omega)
  ·simp only [List.mem_cons, List.not_mem_nil, or_false] at hi_; rcases hi_ with rfl | rfl
   ·
    intro val fl w1 a hb hfi ha hd hfl;obtain ⟨hT, h6, h7⟩ := hb;have e0 : val 0 = .agg #[.slice Al ru.levels.length cl, .int .i64 ru.fade.lo, .int .i64 ru.fade.hi, .slice Aa ru.allow.length ca, .slice Ap ru.apart.length cp, .slice Ak ru.kinds.length ck] := hd 0 (memB_mem.1 rfl);have ha := ha.sub (Sub.ins (d := 19) (Sub.ins (d := 6) (Sub.nil _) rfl) (dep_get rfl e0));refine ts_store ha rfl rfl rfl h6 sz_116 rfl rfl rfl rfl ?_;intro w' hq hgr;refine ⟨undef, rfl, hgr.size, ⟨hT.grown hgr (by simp), hq, h7.grown hgr (fun h => n2_3.symm (Option.some.inj h))⟩, trivial, fun j _ hj hn hA => ?_⟩
    exact fun h => h
   ·
    intro val fl w1 a hb hfi ha hd hfl;obtain ⟨hT, h6, h7⟩ := hb;have e1 : val 1 = .agg (flC [tank0, tank0, tank0]).toArray := hd 1 (memB_mem.1 rfl);have ha := ha.sub (Sub.ins (d := 20) (Sub.ins (d := 7) (Sub.nil _) rfl) (dep_get rfl e1));refine ts_store (l' := (flC [tank0, tank0, tank0])) ha rfl rfl rfl h7 sz_150 rfl ((lenV_eq _).trans fl0_len) (by rw [lenV_eq, Nat.ble_eq]; exact Nat.le_of_eq fl0_len.symm) (flC_one _) ?_
    intro w' hq hgr;rw [spl_whole rfl] at hq;refine ⟨undef, rfl, hgr.size, ⟨hT.grown hgr (by simp), h6.grown hgr (fun h => n2_3 (Option.some.inj h)), hq⟩, trivial, fun j _ hj hn hA => ?_⟩
    exact fun h => h
  ·intro val fl wR3 hfl hb halc hd
   obtain ⟨hT, h6, h7⟩ := hb;have e0 : val 0 = .agg #[.slice Al ru.levels.length cl, .int .i64 ru.fade.lo, .int .i64 ru.fade.hi, .slice Aa ru.allow.length ca, .slice Ap ru.apart.length cp, .slice Ak ru.kinds.length ck] := hd 0 (by omega)
   have e1 : val 1 = .agg (flC [tank0, tank0, tank0]).toArray := hd 1 (by omega)
   have e2 : val 2 = .int .i64 2 := hd 2 (by omega)
   refine EL.ends (cs := [.agg #[.slice Al ru.levels.length cl, .int .i64 ru.fade.lo, .int .i64 ru.fade.hi, .slice Aa ru.allow.length ca, .slice Ap ru.apart.length cp, .slice Ak ru.kinds.length ck], .agg (flC [tank0, tank0, tank0]).toArray, .int .i64 2, val 3, val 4]) ⟨e0, e1, e2, rfl, rfl, trivial⟩ rfl ?_;replace q1 := q1.touch hT (by simp only [List.mem_cons, List.not_mem_nil, or_false, not_or]; exact ⟨n1_2, n1_3⟩)
   replace q2 := h6;replace q3 := h7;replace hbw := hT.anchor hbw (by simp only [List.mem_cons, List.not_mem_nil, or_false, forall_eq_or_imp, forall_eq]; exact ⟨bhbw_2, bhbw_3⟩)
   refine EL.val (x_assign rfl) rfl ?_;refine EL.nil ?_;refine EX.seq ?_;refine EC.ret ?_;refine EX.blk_ret ?_;refine EX.seq_ret ?_;have hye : yardE ru tanks jobs = 2 := by unfold yardE; rw [hrb]; rfl
   exact EX.done (resc2t rfl rfl rfl rfl (lv_116 (q2.at (j := 0) rfl) (q2.at (j := 1) rfl) (q2.at (j := 2) rfl) (q2.at (j := 3) rfl) (q2.at (j := 4) rfl) (q2.at (j := 5) rfl)) (run_loadVar_mid _ _ 0 150 _ _ (q3.range (PartAt.whole _)) Try.underlying150 rfl (sz_150.trans (congrArg some fl0_len.symm)))) ⟨⟨[tank0, tank0, tank0], yard_e hye, (fillF_ok ru tanks 0), fun h => absurd h (by rw [hye]; decide)⟩, hbw⟩
 ·
  have hop := open_any (hr.below (hbw.mono hB)) (Nat.le_trans hB hbw.size) hs;rw [hrb] at hop;refine EL.call (cl_74 rfl) rfl (hop) ?_
  rintro e w6 ⟨rfl, hc6⟩
  refine ⟨_, rfl, ?_⟩;replace q1 := q1.below hc6 q1.lt;replace q2 := q2.below hc6 q2.lt;replace q3 := q3.below hc6 q3.lt;replace hbw := Below.on hbw hc6 hbw.size;clear hc6;refine EL.val (x_move rfl) rfl ?_;refine EL.val (x_extract rfl rfl) rfl ?_;refine EL.val (x_extract rfl rfl) rfl ?_;refine EL.store rfl rfl q2 sz_116 rfl rfl rfl rfl ?_;intro w7 hq7 hg7;replace q1 := q1.grown hg7 (fun h => n1_2 (Option.some.inj h))
  replace q3 := q3.grown hg7 (fun h => n2_3.symm (Option.some.inj h))
  replace hbw := below_store hbw hg7 bhbw_2;replace q2 := hq7;clear hg7 hq7;refine EL.val (x_assign rfl) rfl ?_;refine EL.nil ?_;refine EX.seq ?_;refine EC.seq ?_;refine EC.block ?_;refine EC.seq ?_;refine EC.region ?_;refine EL.val (x_move rfl) rfl ?_;refine EL.val (x_neq (r := false) rfl rfl (by decide)) rfl ?_
  refine EL.val (x_assign rfl) rfl ?_;refine EL.nil ?_;refine EX.seq ?_;refine EC.no rfl ?_;refine EC.seq ?_;refine EC.region ?_;refine EL.val (x_move rfl) rfl ?_;refine EL.val (ln_96 rfl) rfl ?_
  by_cases h3 : 3 < tanks.length
  ·
   refine EL.val (x_gtr (r := true) rfl rfl (decide_eq_true (by omega))) rfl ?_
   refine EL.val (x_assign rfl) rfl ?_;refine EL.nil ?_;refine EX.seq ?_;refine EC.yes rfl ?_;refine EC.seq ?_;have lt_1 := q1.lt;have lt_2 := q2.lt;have lt_3 := q3.lt;refine EC.regionS [[], [], [0], [0, 1, 2], [0, 1, 2, 3]] 4 [] [2, 3] (fun fl w_ => Touch w7 w_ [g2, g3] ∧ Blk w_ g2 116 #[.slice Al ru.levels.length cl, .int .i64 ru.fade.lo, .int .i64 ru.fade.hi, .slice Aa ru.allow.length ca, .slice Ap ru.apart.length cp, .slice Ak ru.kinds.length ck] ∧ Blk w_ g3 150 (flC [tank0, tank0, tank0]).toArray) (phiS (fun i_ r => match i_ with | 0 => r 0 = .agg #[.slice Al ru.levels.length cl, .int .i64 ru.fade.lo, .int .i64 ru.fade.hi, .slice Aa ru.allow.length ca, .slice Ap ru.apart.length cp, .slice Ak ru.kinds.length ck] | 1 => r 1 = .agg (flC [tank0, tank0, tank0]).toArray | _ => True) []) (by kernel_rfl) rfl rfl (by intro i hi; simp at hi; rcases hi with rfl | rfl <;> exact ⟨by simp, by omega⟩) ⟨fun _ _ => ⟨Touch.start _ _, q2, q3⟩, fun _ _ _ ⟨hT, h6, h7⟩ hb => ⟨hT.below hb, h6.below hb h6.lt, h7.below hb h7.lt⟩, fun _ _ h => h.1.size⟩ phiS_nil (fun i_ hi_ hs_ => ?_) (fun i_ hi_ => ?_) ?_
   ·match i_, hi_ with
    | 0, _ =>
     intro val fl w1 a hb ha hd hfl;obtain ⟨hT, h6, h7⟩ := hb;have ha := ha.sub (Sub.ins (d := 6) (Sub.nil _) rfl)
     exact ss_val ha rfl rfl (ld_116 rfl (h6.at (j := 0) rfl) (h6.at (j := 1) rfl) (h6.at (j := 2) rfl) (h6.at (j := 3) rfl) (h6.at (j := 4) rfl) (h6.at (j := 5) rfl)) rfl rfl
    | 1, _ =>
     intro val fl w1 a hb ha hd hfl;obtain ⟨hT, h6, h7⟩ := hb;have ha := ha.sub (Sub.ins (d := 7) (Sub.nil _) rfl)
     exact ss_val ha rfl rfl (x_loadA rfl (h7.range (PartAt.whole _)) Try.underlying150 rfl (sz_150.trans (congrArg some fl0_len.symm))) rfl rfl
    | 2, _ =>
     exact absurd (by simp) hs_
    | 3, _ =>
     exact absurd (by simp) hs_
    | k + 4, h => exact absurd h (by omega)
   ·simp only [List.mem_cons, List.not_mem_nil, or_false] at hi_; rcases hi_ with rfl | rfl
    ·
     intro val fl w1 a hb hfi ha hd hfl;obtain ⟨hT, h6, h7⟩ := hb;have e0 : val 0 = .agg #[.slice Al ru.levels.length cl, .int .i64 ru.fade.lo, .int .i64 ru.fade.hi, .slice Aa ru.allow.length ca, .slice Ap ru.apart.length cp, .slice Ak ru.kinds.length ck] := hd 0 (memB_mem.1 rfl);have ha := ha.sub (Sub.ins (d := 26) (Sub.ins (d := 6) (Sub.nil _) rfl) (dep_get rfl e0));refine ts_store ha rfl rfl rfl h6 sz_116 rfl rfl rfl rfl ?_;intro w' hq hgr;refine ⟨undef, rfl, hgr.size, ⟨hT.grown hgr (by simp), hq, h7.grown hgr (fun h => n2_3.symm (Option.some.inj h))⟩, trivial, fun j _ hj hn hA => ?_⟩
     exact fun h => h
    ·
     intro val fl w1 a hb hfi ha hd hfl;obtain ⟨hT, h6, h7⟩ := hb;have e1 : val 1 = .agg (flC [tank0, tank0, tank0]).toArray := hd 1 (memB_mem.1 rfl);have ha := ha.sub (Sub.ins (d := 27) (Sub.ins (d := 7) (Sub.nil _) rfl) (dep_get rfl e1));refine ts_store (l' := (flC [tank0, tank0, tank0])) ha rfl rfl rfl h7 sz_150 rfl ((lenV_eq _).trans fl0_len) (by rw [lenV_eq, Nat.ble_eq]; exact Nat.le_of_eq fl0_len.symm) (flC_one _) ?_
     intro w' hq hgr;rw [spl_whole rfl] at hq;refine ⟨undef, rfl, hgr.size, ⟨hT.grown hgr (by simp), h6.grown hgr (fun h => n2_3 (Option.some.inj h)), hq⟩, trivial, fun j _ hj hn hA => ?_⟩
     exact fun h => h
   ·intro val fl wR5 hfl hb halc hd
    obtain ⟨hT, h6, h7⟩ := hb;have e0 : val 0 = .agg #[.slice Al ru.levels.length cl, .int .i64 ru.fade.lo, .int .i64 ru.fade.hi, .slice Aa ru.allow.length ca, .slice Ap ru.apart.length cp, .slice Ak ru.kinds.length ck] := hd 0 (by omega)
    have e1 : val 1 = .agg (flC [tank0, tank0, tank0]).toArray := hd 1 (by omega)
    refine EL.ends (cs := [.agg #[.slice Al ru.levels.length cl, .int .i64 ru.fade.lo, .int .i64 ru.fade.hi, .slice Aa ru.allow.length ca, .slice Ap ru.apart.length cp, .slice Ak ru.kinds.length ck], .agg (flC [tank0, tank0, tank0]).toArray, val 2, val 3]) ⟨e0, e1, rfl, rfl, trivial⟩ rfl ?_;replace q1 := q1.touch hT (by simp only [List.mem_cons, List.not_mem_nil, or_false, not_or]; exact ⟨n1_2, n1_3⟩)
    replace q2 := h6;replace q3 := h7;replace hbw := hT.anchor hbw (by simp only [List.mem_cons, List.not_mem_nil, or_false, forall_eq_or_imp, forall_eq]; exact ⟨bhbw_2, bhbw_3⟩)
    refine EL.val (x_assign rfl) rfl ?_;refine EL.nil ?_;refine EX.seq ?_;refine EC.ret ?_;refine EX.blk_ret ?_;refine EX.seq_ret ?_;have hye : yardE ru tanks jobs = 5 := by unfold yardE; rw [hrb, if_pos rfl, if_pos h3]
    exact EX.done (resc2t rfl rfl rfl rfl (lv_116 (q2.at (j := 0) rfl) (q2.at (j := 1) rfl) (q2.at (j := 2) rfl) (q2.at (j := 3) rfl) (q2.at (j := 4) rfl) (q2.at (j := 5) rfl)) (run_loadVar_mid _ _ 0 150 _ _ (q3.range (PartAt.whole _)) Try.underlying150 rfl (sz_150.trans (congrArg some fl0_len.symm)))) ⟨⟨[tank0, tank0, tank0], yard_e hye, (fillF_ok ru tanks 0), fun h => absurd h (by rw [hye]; decide)⟩, hbw⟩
  ·
   refine EL.val (x_gtr (r := false) rfl rfl (decide_eq_false (by omega))) rfl ?_
   refine EL.val (x_assign rfl) rfl ?_;refine EL.nil ?_;refine EX.seq ?_;refine EC.no rfl ?_;refine EC.seq ?_;refine EC.region ?_;refine EL.val (x_move rfl) rfl ?_;refine EL.val (ln_96 rfl) rfl ?_
   by_cases h0 : tanks.length = 0
   ·
    refine EL.val (x_eql (r := true) rfl rfl (decide_eq_true (by omega))) rfl ?_
    refine EL.val (x_assign rfl) rfl ?_;refine EL.nil ?_;refine EX.seq ?_;refine EC.yes rfl ?_;refine EC.seq ?_;have lt_1 := q1.lt;have lt_2 := q2.lt;have lt_3 := q3.lt;refine EC.regionS [[], [], [0], [0, 1, 2], [0, 1, 2, 3]] 4 [] [2, 3] (fun fl w_ => Touch w7 w_ [g2, g3] ∧ Blk w_ g2 116 #[.slice Al ru.levels.length cl, .int .i64 ru.fade.lo, .int .i64 ru.fade.hi, .slice Aa ru.allow.length ca, .slice Ap ru.apart.length cp, .slice Ak ru.kinds.length ck] ∧ Blk w_ g3 150 (flC [tank0, tank0, tank0]).toArray) (phiS (fun i_ r => match i_ with | 0 => r 0 = .agg #[.slice Al ru.levels.length cl, .int .i64 ru.fade.lo, .int .i64 ru.fade.hi, .slice Aa ru.allow.length ca, .slice Ap ru.apart.length cp, .slice Ak ru.kinds.length ck] | 1 => r 1 = .agg (flC [tank0, tank0, tank0]).toArray | _ => True) []) (by kernel_rfl) rfl rfl (by intro i hi; simp at hi; rcases hi with rfl | rfl <;> exact ⟨by simp, by omega⟩) ⟨fun _ _ => ⟨Touch.start _ _, q2, q3⟩, fun _ _ _ ⟨hT, h6, h7⟩ hb => ⟨hT.below hb, h6.below hb h6.lt, h7.below hb h7.lt⟩, fun _ _ h => h.1.size⟩ phiS_nil (fun i_ hi_ hs_ => ?_) (fun i_ hi_ => ?_) ?_
    ·match i_, hi_ with
     | 0, _ =>
      intro val fl w1 a hb ha hd hfl;obtain ⟨hT, h6, h7⟩ := hb;have ha := ha.sub (Sub.ins (d := 6) (Sub.nil _) rfl)
      exact ss_val ha rfl rfl (ld_116 rfl (h6.at (j := 0) rfl) (h6.at (j := 1) rfl) (h6.at (j := 2) rfl) (h6.at (j := 3) rfl) (h6.at (j := 4) rfl) (h6.at (j := 5) rfl)) rfl rfl
     | 1, _ =>
      intro val fl w1 a hb ha hd hfl;obtain ⟨hT, h6, h7⟩ := hb;have ha := ha.sub (Sub.ins (d := 7) (Sub.nil _) rfl)
      exact ss_val ha rfl rfl (x_loadA rfl (h7.range (PartAt.whole _)) Try.underlying150 rfl (sz_150.trans (congrArg some fl0_len.symm))) rfl rfl
     | 2, _ =>
      exact absurd (by simp) hs_
     | 3, _ =>
      exact absurd (by simp) hs_
     | k + 4, h => exact absurd h (by omega)
    ·simp only [List.mem_cons, List.not_mem_nil, or_false] at hi_; rcases hi_ with rfl | rfl
     ·
      intro val fl w1 a hb hfi ha hd hfl;obtain ⟨hT, h6, h7⟩ := hb;have e0 : val 0 = .agg #[.slice Al ru.levels.length cl, .int .i64 ru.fade.lo, .int .i64 ru.fade.hi, .slice Aa ru.allow.length ca, .slice Ap ru.apart.length cp, .slice Ak ru.kinds.length ck] := hd 0 (memB_mem.1 rfl);have ha := ha.sub (Sub.ins (d := 32) (Sub.ins (d := 6) (Sub.nil _) rfl) (dep_get rfl e0));refine ts_store ha rfl rfl rfl h6 sz_116 rfl rfl rfl rfl ?_;intro w' hq hgr;refine ⟨undef, rfl, hgr.size, ⟨hT.grown hgr (by simp), hq, h7.grown hgr (fun h => n2_3.symm (Option.some.inj h))⟩, trivial, fun j _ hj hn hA => ?_⟩
      exact fun h => h
     ·
      intro val fl w1 a hb hfi ha hd hfl;obtain ⟨hT, h6, h7⟩ := hb;have e1 : val 1 = .agg (flC [tank0, tank0, tank0]).toArray := hd 1 (memB_mem.1 rfl);have ha := ha.sub (Sub.ins (d := 33) (Sub.ins (d := 7) (Sub.nil _) rfl) (dep_get rfl e1));refine ts_store (l' := (flC [tank0, tank0, tank0])) ha rfl rfl rfl h7 sz_150 rfl ((lenV_eq _).trans fl0_len) (by rw [lenV_eq, Nat.ble_eq]; exact Nat.le_of_eq fl0_len.symm) (flC_one _) ?_
      intro w' hq hgr;rw [spl_whole rfl] at hq;refine ⟨undef, rfl, hgr.size, ⟨hT.grown hgr (by simp), h6.grown hgr (fun h => n2_3 (Option.some.inj h)), hq⟩, trivial, fun j _ hj hn hA => ?_⟩
      exact fun h => h
    ·intro val fl wR7 hfl hb halc hd
     obtain ⟨hT, h6, h7⟩ := hb;have e0 : val 0 = .agg #[.slice Al ru.levels.length cl, .int .i64 ru.fade.lo, .int .i64 ru.fade.hi, .slice Aa ru.allow.length ca, .slice Ap ru.apart.length cp, .slice Ak ru.kinds.length ck] := hd 0 (by omega)
     have e1 : val 1 = .agg (flC [tank0, tank0, tank0]).toArray := hd 1 (by omega)
     refine EL.ends (cs := [.agg #[.slice Al ru.levels.length cl, .int .i64 ru.fade.lo, .int .i64 ru.fade.hi, .slice Aa ru.allow.length ca, .slice Ap ru.apart.length cp, .slice Ak ru.kinds.length ck], .agg (flC [tank0, tank0, tank0]).toArray, val 2, val 3]) ⟨e0, e1, rfl, rfl, trivial⟩ rfl ?_;replace q1 := q1.touch hT (by simp only [List.mem_cons, List.not_mem_nil, or_false, not_or]; exact ⟨n1_2, n1_3⟩)
     replace q2 := h6;replace q3 := h7;replace hbw := hT.anchor hbw (by simp only [List.mem_cons, List.not_mem_nil, or_false, forall_eq_or_imp, forall_eq]; exact ⟨bhbw_2, bhbw_3⟩)
     refine EL.val (x_assign rfl) rfl ?_;refine EL.nil ?_;refine EX.seq ?_;refine EC.ret ?_;refine EX.blk_ret ?_;refine EX.seq_ret ?_;have hye : yardE ru tanks jobs = 4 := by unfold yardE; rw [hrb, if_pos rfl, if_neg h3, if_pos h0]
     exact EX.done (resc2t rfl rfl rfl rfl (lv_116 (q2.at (j := 0) rfl) (q2.at (j := 1) rfl) (q2.at (j := 2) rfl) (q2.at (j := 3) rfl) (q2.at (j := 4) rfl) (q2.at (j := 5) rfl)) (run_loadVar_mid _ _ 0 150 _ _ (q3.range (PartAt.whole _)) Try.underlying150 rfl (sz_150.trans (congrArg some fl0_len.symm)))) ⟨⟨[tank0, tank0, tank0], yard_e hye, (fillF_ok ru tanks 0), fun h => absurd h (by rw [hye]; decide)⟩, hbw⟩
   ·
    refine EL.val (x_eql (r := false) rfl rfl (decide_eq_false (by omega))) rfl ?_
    refine EL.val (x_assign rfl) rfl ?_;refine EL.nil ?_;refine EX.seq ?_;refine EC.no rfl ?_;refine EC.skip ?_;refine EX.blk ?_;refine EX.seq ?_;refine EC.seq ?_;refine EC.seq ?_;refine EC.region ?_;refine EL.val (x_move rfl) rfl ?_;refine EL.val (ln_96 rfl) rfl ?_;refine EL.val (x_move rfl) rfl ?_;refine EL.nil ?_;refine EX.seq ?_;refine EC.block ?_;have hro := rules_ok hrb;refine EC.loopD [8, 9, 10, 36, 37, 38, 39, 40, 41, 42, 43, 44, 45, 46, 47, 48, 49, 50, 51, 52, 53, 54, 55] (fun x : Nat => [(36, .int .i64 (x : Nat)), (8, .int .i64 0)]) (fun x W => x ≤ tanks.length ∧ (∀ k, k < x → refE ru (tanks.getD k []) = 0) ∧ Blk W g1 28 #[.slice Al ru.levels.length cl, .int .i64 ru.fade.lo, .int .i64 ru.fade.hi, .slice Aa ru.allow.length ca, .slice Ap ru.apart.length cp, .slice Ak ru.kinds.length ck] ∧ Blk W g2 116 #[.slice Al ru.levels.length cl, .int .i64 ru.fade.lo, .int .i64 ru.fade.hi, .slice Aa ru.allow.length ca, .slice Ap ru.apart.length cp, .slice Ak ru.kinds.length ck] ∧ Blk W g3 150 (flC (fillF ru tanks x)).toArray ∧ Below w.heap.size w W) (fun x => tanks.length - x) 0 ⟨Nat.zero_le _, fun k hk => absurd hk (by omega), q1, q2, q3, hbw⟩ ⟨rfl, rfl, trivial⟩ ?_
    clear q1 q2 q3 hbw
    rintro i wx ⟨hi, hpre, q1, q2, q3, hbw⟩
    by_cases hlt : i < tanks.length
    ·
     have hi3 : i < 3 := by omega
     obtain ⟨bt, ot, et, _, htc⟩ := vals_cells ut i (by rw [ht.len]; exact hlt) wx B _ _ _ (ht.rd.below (hbw.mono hB))
     cases et
     refine EC.seq ?_;refine EC.region ?_;refine EL.val (x_lss rfl rfl (decide_eq_true (show (((i : Nat) : Int) < ((tanks.length : Nat) : Int)) by omega))) rfl ?_
     refine EL.nil ?_;refine EX.seq ?_;refine EC.seq ?_;refine EC.yes rfl ?_;refine EC.skip ?_;refine EX.seq ?_;refine EC.seq ?_;refine EC.block ?_;refine EC.seq ?_;refine EC.region ?_;refine EL.val (x_move rfl) rfl ?_;refine EL.val (ix_96 rfl rfl hlt) rfl ?_;refine EL.val (ld_29 rfl htc) rfl ?_;refine EL.val (x_assign rfl) rfl ?_;refine EL.val (x_assign rfl) rfl ?_;refine EL.nil ?_;refine EX.seq ?_;refine EC.seq ?_;refine EC.region ?_;refine EL.val (x_move rfl) rfl ?_;refine EL.val (ld_28 rfl (q1.at (j := 0) rfl) (q1.at (j := 1) rfl) (q1.at (j := 2) rfl) (q1.at (j := 3) rfl) (q1.at (j := 4) rfl) (q1.at (j := 5) rfl)) rfl ?_;refine EL.val (x_move rfl) rfl ?_;refine EL.call (cl_48 rfl rfl) rfl (after_any (hr.below (hbw.mono hB)) (Nat.le_trans hB hbw.size) hs ((ht.row i hlt).below (hbw.mono hB)) (htn i hlt)) ?_
     rintro e w8 ⟨rfl, hc8⟩
     refine ⟨_, rfl, ?_⟩;replace q1 := q1.below hc8 q1.lt;replace q2 := q2.below hc8 q2.lt;replace q3 := q3.below hc8 q3.lt;replace hbw := Below.on hbw hc8 hbw.size;clear hc8;refine EL.val (x_move rfl) rfl ?_;refine EL.val (x_extract rfl rfl) rfl ?_;refine EL.val (x_extract rfl rfl) rfl ?_;refine EL.val (x_extract rfl rfl) rfl ?_;refine EL.val (ixa_150 rfl rfl hi3) rfl ?_;refine EL.store (l' := tkC (tkE ru (tanks.getD i []))) rfl rfl q3 sz_120 rfl ((lenV_eq _).trans (tkC_8 (tkE_ok ru _).n8)) (by rw [lenV_eq, Nat.ble_eq, (fillF_ok ru tanks _).fl.len]; omega) (tkC_one _) ?_
     intro w9 hq9 hg9;rw [Nat.zero_add, tk_set (fillF_ok ru tanks _).fl hi3 (tkE_ok ru _).n8, fillF_set hi3] at hq9;replace q1 := q1.grown hg9 (fun h => n1_3 (Option.some.inj h))
     replace q2 := q2.grown hg9 (fun h => n2_3 (Option.some.inj h))
     replace hbw := below_store hbw hg9 bhbw_3;replace q3 := hq9;clear hg9 hq9;refine EL.val (x_assign rfl) rfl ?_;refine EL.nil ?_;refine EX.seq ?_;refine EC.seq ?_;refine EC.region ?_;refine EL.val (x_move rfl) rfl ?_
     by_cases hz : refE ru (tanks.getD i []) = 0
     ·
      refine EL.val (x_neq (r := false) rfl rfl (decide_eq_false (fun h => h hz))) rfl ?_
      refine EL.nil ?_;refine EX.seq ?_;refine EC.no rfl ?_;refine EC.skip ?_;refine EX.blk ?_;refine EX.seq ?_;refine EC.region ?_;refine EL.val (x_add rfl rfl (c := ((i + 1 : Nat) : Int)) ((IntWalk.i64_in _ ⟨by first | omega | (simp only; omega), by first | omega | (simp only; omega)⟩).trans (by first | omega | (simp only; omega)))) rfl ?_
      refine EL.val (x_move rfl) rfl ?_;refine EL.nil ?_;refine EX.roundD (i + 1) ⟨rfl, agree_i hz rfl, trivial⟩ (by repeat first | with_reducible exact Sub.refl _ | refine sub_past rfl ?_ | exact Sub.refl _ | refine sub_del rfl ?_ | refine sub_insL_nil ?_) ⟨hlt, (fun k hk => by rcases Nat.lt_or_ge k i with h | h; exact hpre k h; rw [show k = i by omega]; exact hz), q1, q2, q3, hbw⟩ (by omega)
     ·
      refine EL.val (x_neq (r := true) rfl rfl (decide_eq_true hz)) rfl ?_;refine EL.nil ?_;refine EX.seq ?_;refine EC.yes rfl ?_;refine EC.seq ?_;have lt_1 := q1.lt;have lt_2 := q2.lt;have lt_3 := q3.lt;refine EC.regionS [[], [], [], [0], [0, 1, 3], [0, 1, 2, 3, 4]] 5 [] [3, 4] (fun fl w_ => Touch w9 w_ [g2, g3] ∧ Blk w_ g2 116 #[.slice Al ru.levels.length cl, .int .i64 ru.fade.lo, .int .i64 ru.fade.hi, .slice Aa ru.allow.length ca, .slice Ap ru.apart.length cp, .slice Ak ru.kinds.length ck] ∧ Blk w_ g3 150 (flC (fillF ru tanks (i + 1))).toArray) (phiS (fun i_ r => match i_ with | 0 => r 0 = .agg #[.slice Al ru.levels.length cl, .int .i64 ru.fade.lo, .int .i64 ru.fade.hi, .slice Aa ru.allow.length ca, .slice Ap ru.apart.length cp, .slice Ak ru.kinds.length ck] | 1 => r 1 = .agg (flC (fillF ru tanks (i + 1))).toArray | 2 => r 2 = .int .i64 (refE ru (tanks.getD i [])) | _ => True) []) (by kernel_rfl) rfl rfl (by intro i hi; simp at hi; rcases hi with rfl | rfl <;> exact ⟨by simp, by omega⟩) ⟨fun _ _ => ⟨Touch.start _ _, q2, q3⟩, fun _ _ _ ⟨hT, h6, h7⟩ hb => ⟨hT.below hb, h6.below hb h6.lt, h7.below hb h7.lt⟩, fun _ _ h => h.1.size⟩ phiS_nil (fun i_ hi_ hs_ => ?_) (fun i_ hi_ => ?_) ?_
      ·match i_, hi_ with
       | 0, _ =>
        intro val fl w1 a hb ha hd hfl;obtain ⟨hT, h6, h7⟩ := hb;have ha := ha.sub (Sub.ins (d := 6) (Sub.nil _) rfl)
        exact ss_val ha rfl rfl (ld_116 rfl (h6.at (j := 0) rfl) (h6.at (j := 1) rfl) (h6.at (j := 2) rfl) (h6.at (j := 3) rfl) (h6.at (j := 4) rfl) (h6.at (j := 5) rfl)) rfl rfl
       | 1, _ =>
        intro val fl w1 a hb ha hd hfl;obtain ⟨hT, h6, h7⟩ := hb;have ha := ha.sub (Sub.ins (d := 7) (Sub.nil _) rfl)
        exact ss_val ha rfl rfl (x_loadA rfl (h7.range (PartAt.whole _)) Try.underlying150 rfl (sz_150.trans (congrArg some (fillF_ok ru tanks _).fl.len.symm))) rfl rfl
       | 2, _ =>
        intro val fl w1 a hb ha hd hfl;obtain ⟨hT, h6, h7⟩ := hb;have ha := ha.sub (Sub.ins (d := 8) (Sub.nil _) rfl)
        exact ss_val ha rfl rfl (x_move rfl) rfl rfl
       | 3, _ =>
        exact absurd (by simp) hs_
       | 4, _ =>
        exact absurd (by simp) hs_
       | k + 5, h => exact absurd h (by omega)
      ·simp only [List.mem_cons, List.not_mem_nil, or_false] at hi_; rcases hi_ with rfl | rfl
       ·
        intro val fl w1 a hb hfi ha hd hfl;obtain ⟨hT, h6, h7⟩ := hb;have e0 : val 0 = .agg #[.slice Al ru.levels.length cl, .int .i64 ru.fade.lo, .int .i64 ru.fade.hi, .slice Aa ru.allow.length ca, .slice Ap ru.apart.length cp, .slice Ak ru.kinds.length ck] := hd 0 (memB_mem.1 rfl);have ha := ha.sub (Sub.ins (d := 52) (Sub.ins (d := 6) (Sub.nil _) rfl) (dep_get rfl e0));refine ts_store ha rfl rfl rfl h6 sz_116 rfl rfl rfl rfl ?_;intro w' hq hgr;refine ⟨undef, rfl, hgr.size, ⟨hT.grown hgr (by simp), hq, h7.grown hgr (fun h => n2_3.symm (Option.some.inj h))⟩, trivial, fun j _ hj hn hA => ?_⟩
        exact fun h => h
       ·
        intro val fl w1 a hb hfi ha hd hfl;obtain ⟨hT, h6, h7⟩ := hb;have e1 : val 1 = .agg (flC (fillF ru tanks (i + 1))).toArray := hd 1 (memB_mem.1 rfl);have ha := ha.sub (Sub.ins (d := 53) (Sub.ins (d := 7) (Sub.nil _) rfl) (dep_get rfl e1));refine ts_store (l' := (flC (fillF ru tanks (i + 1)))) ha rfl rfl rfl h7 sz_150 rfl ((lenV_eq _).trans (fillF_ok ru tanks _).fl.len) (by rw [lenV_eq, Nat.ble_eq]; exact Nat.le_of_eq (fillF_ok ru tanks _).fl.len.symm) (flC_one _) ?_
        intro w' hq hgr;rw [spl_whole rfl] at hq;refine ⟨undef, rfl, hgr.size, ⟨hT.grown hgr (by simp), h6.grown hgr (fun h => n2_3 (Option.some.inj h)), hq⟩, trivial, fun j _ hj hn hA => ?_⟩
        exact fun h => h
      ·intro val fl wR13 hfl hb halc hd
       obtain ⟨hT, h6, h7⟩ := hb;have e0 : val 0 = .agg #[.slice Al ru.levels.length cl, .int .i64 ru.fade.lo, .int .i64 ru.fade.hi, .slice Aa ru.allow.length ca, .slice Ap ru.apart.length cp, .slice Ak ru.kinds.length ck] := hd 0 (by omega)
       have e1 : val 1 = .agg (flC (fillF ru tanks (i + 1))).toArray := hd 1 (by omega)
       have e2 : val 2 = .int .i64 (refE ru (tanks.getD i [])) := hd 2 (by omega)
       refine EL.ends (cs := [.agg #[.slice Al ru.levels.length cl, .int .i64 ru.fade.lo, .int .i64 ru.fade.hi, .slice Aa ru.allow.length ca, .slice Ap ru.apart.length cp, .slice Ak ru.kinds.length ck], .agg (flC (fillF ru tanks (i + 1))).toArray, .int .i64 (refE ru (tanks.getD i [])), val 3, val 4]) ⟨e0, e1, e2, rfl, rfl, trivial⟩ rfl ?_;replace q1 := q1.touch hT (by simp only [List.mem_cons, List.not_mem_nil, or_false, not_or]; exact ⟨n1_2, n1_3⟩)
       replace q2 := h6;replace q3 := h7;replace hbw := hT.anchor hbw (by simp only [List.mem_cons, List.not_mem_nil, or_false, forall_eq_or_imp, forall_eq]; exact ⟨bhbw_2, bhbw_3⟩)
       refine EL.val (x_assign rfl) rfl ?_;refine EL.nil ?_;refine EX.seq ?_;refine EC.ret ?_;refine EX.blk_ret ?_;refine EX.seq_ret ?_;refine EX.seq_ret ?_;refine EX.blk_ret ?_;refine EX.seq_ret ?_;have hye : yardE ru tanks jobs = refE ru (tanks.getD i []) := by unfold yardE; rw [hrb, if_pos rfl, if_neg h3, if_neg h0, tanksE_at hpre hlt hz, if_neg hz]
       exact EX.done (resc2t rfl rfl rfl rfl (lv_116 (q2.at (j := 0) rfl) (q2.at (j := 1) rfl) (q2.at (j := 2) rfl) (q2.at (j := 3) rfl) (q2.at (j := 4) rfl) (q2.at (j := 5) rfl)) (run_loadVar_mid _ _ 0 150 _ _ (q3.range (PartAt.whole _)) Try.underlying150 rfl (sz_150.trans (congrArg some (fillF_ok ru tanks _).fl.len.symm)))) ⟨⟨(fillF ru tanks (i + 1)), yard_e hye, (fillF_ok ru tanks _), fun h => absurd h (by rw [hye]; exact hz)⟩, hbw⟩
    ·
     obtain rfl : i = tanks.length := by omega
     refine EC.seq ?_;refine EC.region ?_;refine EL.val (x_lss rfl rfl (decide_eq_false (show ¬(((tanks.length : Nat) : Int) < ((tanks.length : Nat) : Int)) by omega))) rfl ?_
     refine EL.nil ?_;refine EX.seq ?_;refine EC.seq ?_;refine EC.no rfl ?_;refine EC.exit ?_;refine EX.seq_exit ?_;refine EX.seq_exit ?_;refine EX.blk_here ?_;refine EX.seq ?_;refine EC.seq ?_;have lt_1 := q1.lt;have lt_2 := q2.lt;have lt_3 := q3.lt;refine EC.regionS [[], [], [], [], [2, 3], [0, 2, 3, 4], [0, 1, 2, 3, 4, 5], [0, 1, 2, 3, 4, 5, 6]] 7 [] [5, 6] (fun fl w_ => Touch wx w_ [g2, g3] ∧ Blk w_ g2 116 #[.slice Al ru.levels.length cl, .int .i64 ru.fade.lo, .int .i64 ru.fade.hi, .slice Aa ru.allow.length ca, .slice Ap ru.apart.length cp, .slice Ak ru.kinds.length ck] ∧ Blk w_ g3 150 (flC (fillF ru tanks tanks.length)).toArray) (phiS (fun i_ r => match i_ with | 0 => r 0 = .agg #[.slice Al ru.levels.length cl, .int .i64 ru.fade.lo, .int .i64 ru.fade.hi, .slice Aa ru.allow.length ca, .slice Ap ru.apart.length cp, .slice Ak ru.kinds.length ck] | 1 => r 1 = .agg (flC (fillF ru tanks tanks.length)).toArray | 2 => r 2 = .agg #[.slice Al ru.levels.length cl, .int .i64 ru.fade.lo, .int .i64 ru.fade.hi, .slice Aa ru.allow.length ca, .slice Ap ru.apart.length cp, .slice Ak ru.kinds.length ck] | 3 => r 3 = .slice Aj jobs.length cj | 4 => r 4 = .int .i64 (jobsE ru jobs 6) | _ => True) []) (by kernel_rfl) rfl rfl (by intro i hi; simp at hi; rcases hi with rfl | rfl <;> exact ⟨by simp, by omega⟩) ⟨fun _ _ => ⟨Touch.start _ _, q2, q3⟩, fun _ _ _ ⟨hT, h6, h7⟩ hb => ⟨hT.below hb, h6.below hb h6.lt, h7.below hb h7.lt⟩, fun _ _ h => h.1.size⟩ phiS_nil (fun i_ hi_ hs_ => ?_) (fun i_ hi_ => ?_) ?_
     ·match i_, hi_ with
      | 0, _ =>
       intro val fl w1 a hb ha hd hfl;obtain ⟨hT, h6, h7⟩ := hb;have ha := ha.sub (Sub.ins (d := 6) (Sub.nil _) rfl)
       exact ss_val ha rfl rfl (ld_116 rfl (h6.at (j := 0) rfl) (h6.at (j := 1) rfl) (h6.at (j := 2) rfl) (h6.at (j := 3) rfl) (h6.at (j := 4) rfl) (h6.at (j := 5) rfl)) rfl rfl
      | 1, _ =>
       intro val fl w1 a hb ha hd hfl;obtain ⟨hT, h6, h7⟩ := hb;have ha := ha.sub (Sub.ins (d := 7) (Sub.nil _) rfl)
       exact ss_val ha rfl rfl (x_loadA rfl (h7.range (PartAt.whole _)) Try.underlying150 rfl (sz_150.trans (congrArg some (fillF_ok ru tanks _).fl.len.symm))) rfl rfl
      | 2, _ =>
       intro val fl w1 a hb ha hd hfl;obtain ⟨hT, h6, h7⟩ := hb;have ha := ha.sub (Sub.ins (d := 6) (Sub.nil _) rfl)
       exact ss_val ha rfl rfl (ld_116 rfl (h6.at (j := 0) rfl) (h6.at (j := 1) rfl) (h6.at (j := 2) rfl) (h6.at (j := 3) rfl) (h6.at (j := 4) rfl) (h6.at (j := 5) rfl)) rfl rfl
      | 3, _ =>
       intro val fl w1 a hb ha hd hfl;obtain ⟨hT, h6, h7⟩ := hb;have ha := ha.sub (Sub.ins (d := 2) (Sub.nil _) rfl)
       exact ss_val ha rfl rfl (x_move rfl) rfl rfl
      | 4, _ =>
       intro val fl w1 a hb ha hd hfl;obtain ⟨hT, h6, h7⟩ := hb;have e2 : val 2 = .agg #[.slice Al ru.levels.length cl, .int .i64 ru.fade.lo, .int .i64 ru.fade.hi, .slice Aa ru.allow.length ca, .slice Ap ru.apart.length cp, .slice Ak ru.kinds.length ck] := hd 2 (memB_mem.1 rfl);have e3 : val 3 = .slice Aj jobs.length cj := hd 3 (memB_mem.1 rfl);have ha := ha.sub (Sub.ins (d := 59) (Sub.ins (d := 58) (Sub.nil _) (dep_get rfl e2)) (dep_get rfl e3));have hbw1 := hT.anchor hbw (by simp only [List.mem_cons, List.not_mem_nil, or_false, forall_eq_or_imp, forall_eq]; exact ⟨bhbw_2, bhbw_3⟩)
       refine ss_call ha rfl rfl (cl_80 rfl rfl rfl) (checkJobs_any (hr.below (hbw1.mono hB)) hro (hv.below (hbw1.mono hB)) (Nat.le_trans hB hbw1.size) (most := 6) (by decide)) rfl ?_
       rintro e w' ⟨rfl, hb'⟩
       exact ⟨_, rfl, hb', rfl⟩
      | 5, _ =>
       exact absurd (by simp) hs_
      | 6, _ =>
       exact absurd (by simp) hs_
      | k + 7, h => exact absurd h (by omega)
     ·simp only [List.mem_cons, List.not_mem_nil, or_false] at hi_; rcases hi_ with rfl | rfl
      ·
       intro val fl w1 a hb hfi ha hd hfl;obtain ⟨hT, h6, h7⟩ := hb;have e0 : val 0 = .agg #[.slice Al ru.levels.length cl, .int .i64 ru.fade.lo, .int .i64 ru.fade.hi, .slice Aa ru.allow.length ca, .slice Ap ru.apart.length cp, .slice Ak ru.kinds.length ck] := hd 0 (memB_mem.1 rfl);have ha := ha.sub (Sub.ins (d := 56) (Sub.ins (d := 6) (Sub.nil _) rfl) (dep_get rfl e0));refine ts_store ha rfl rfl rfl h6 sz_116 rfl rfl rfl rfl ?_;intro w' hq hgr;refine ⟨undef, rfl, hgr.size, ⟨hT.grown hgr (by simp), hq, h7.grown hgr (fun h => n2_3.symm (Option.some.inj h))⟩, trivial, fun j _ hj hn hA => ?_⟩
       exact fun h => h
      ·
       intro val fl w1 a hb hfi ha hd hfl;obtain ⟨hT, h6, h7⟩ := hb;have e1 : val 1 = .agg (flC (fillF ru tanks tanks.length)).toArray := hd 1 (memB_mem.1 rfl);have ha := ha.sub (Sub.ins (d := 57) (Sub.ins (d := 7) (Sub.nil _) rfl) (dep_get rfl e1));refine ts_store (l' := (flC (fillF ru tanks tanks.length))) ha rfl rfl rfl h7 sz_150 rfl ((lenV_eq _).trans (fillF_ok ru tanks _).fl.len) (by rw [lenV_eq, Nat.ble_eq]; exact Nat.le_of_eq (fillF_ok ru tanks _).fl.len.symm) (flC_one _) ?_
       intro w' hq hgr;rw [spl_whole rfl] at hq;refine ⟨undef, rfl, hgr.size, ⟨hT.grown hgr (by simp), h6.grown hgr (fun h => n2_3 (Option.some.inj h)), hq⟩, trivial, fun j _ hj hn hA => ?_⟩
       exact fun h => h
     ·intro val fl wR15 hfl hb halc hd
      obtain ⟨hT, h6, h7⟩ := hb;have e0 : val 0 = .agg #[.slice Al ru.levels.length cl, .int .i64 ru.fade.lo, .int .i64 ru.fade.hi, .slice Aa ru.allow.length ca, .slice Ap ru.apart.length cp, .slice Ak ru.kinds.length ck] := hd 0 (by omega)
      have e1 : val 1 = .agg (flC (fillF ru tanks tanks.length)).toArray := hd 1 (by omega)
      have e2 : val 2 = .agg #[.slice Al ru.levels.length cl, .int .i64 ru.fade.lo, .int .i64 ru.fade.hi, .slice Aa ru.allow.length ca, .slice Ap ru.apart.length cp, .slice Ak ru.kinds.length ck] := hd 2 (by omega)
      have e3 : val 3 = .slice Aj jobs.length cj := hd 3 (by omega)
      have e4 : val 4 = .int .i64 (jobsE ru jobs 6) := hd 4 (by omega)
      refine EL.ends (cs := [.agg #[.slice Al ru.levels.length cl, .int .i64 ru.fade.lo, .int .i64 ru.fade.hi, .slice Aa ru.allow.length ca, .slice Ap ru.apart.length cp, .slice Ak ru.kinds.length ck], .agg (flC (fillF ru tanks tanks.length)).toArray, .agg #[.slice Al ru.levels.length cl, .int .i64 ru.fade.lo, .int .i64 ru.fade.hi, .slice Aa ru.allow.length ca, .slice Ap ru.apart.length cp, .slice Ak ru.kinds.length ck], .slice Aj jobs.length cj, .int .i64 (jobsE ru jobs 6), val 5, val 6]) ⟨e0, e1, e2, e3, e4, rfl, rfl, trivial⟩ rfl ?_;replace q1 := q1.touch hT (by simp only [List.mem_cons, List.not_mem_nil, or_false, not_or]; exact ⟨n1_2, n1_3⟩)
      replace q2 := h6;replace q3 := h7;replace hbw := hT.anchor hbw (by simp only [List.mem_cons, List.not_mem_nil, or_false, forall_eq_or_imp, forall_eq]; exact ⟨bhbw_2, bhbw_3⟩)
      refine EL.val (x_assign rfl) rfl ?_;refine EL.nil ?_;refine EX.seq ?_;refine EC.ret ?_;have hye : yardE ru tanks jobs = jobsE ru jobs 6 := by unfold yardE; rw [hrb, if_pos rfl, if_neg h3, if_neg h0, tanksE_none hpre, if_pos rfl]
      exact EX.done (resc2t rfl rfl rfl rfl (lv_116 (q2.at (j := 0) rfl) (q2.at (j := 1) rfl) (q2.at (j := 2) rfl) (q2.at (j := 3) rfl) (q2.at (j := 4) rfl) (q2.at (j := 5) rfl)) (run_loadVar_mid _ _ 0 150 _ _ (q3.range (PartAt.whole _)) Try.underlying150 rfl (sz_150.trans (congrArg some (fillF_ok ru tanks _).fl.len.symm)))) ⟨⟨(fillF ru tanks tanks.length), yard_e hye, (fillF_ok ru tanks _), fun _ => rfl⟩, hbw⟩
theorem yard_ok {ru : Rules} {tanks : List (List Ev)} {jobs : List Int} (h : yardE ru tanks jobs = 0) : RulesOk ru ∧ tanks.length ≤ 3 ∧ jobsE ru jobs 6 = 0 := by
 unfold yardE at h
 split at h
 ·rename_i hrb
  split at h
  ·omega
  ·rename_i h3
   split at h
   ·omega
   ·split at h
    ·exact ⟨rules_ok hrb, by omega, h⟩
    ·rename_i hz; exact absurd h hz
 ·omega
def depF (ru : Rules) (tanks : List (List Ev)) (jobs : List Int) : Nat := depthR (extY (yardOf ru tanks.length)) (jobs.map Int.toNat) (fillF ru tanks tanks.length, pl0)
def codeF (ru : Rules) (tanks : List (List Ev)) (jobs : List Int) : Int := if yardE ru tanks jobs = 0 then (if depF ru tanks jobs < jobs.length then 7 else 0) else yardE ru tanks jobs
def atF (ru : Rules) (tanks : List (List Ev)) (jobs : List Int) : Nat := if yardE ru tanks jobs = 0 then (if depF ru tanks jobs < jobs.length then depF ru tanks jobs else 0) else 0
theorem fleet_e {ru : Rules} {tanks : List (List Ev)} {jobs : List Int} {v : Value} {x c : Int} {a : Nat} (ha : atF ru tanks jobs = a) (hc : codeF ru tanks jobs = c) : Ending.returned (.tuple #[v, .int .i64 x, .int .i64 (a : Nat), .int .i64 c]) = .returned (.tuple #[v, .int .i64 x, .int .i64 ((atF ru tanks jobs) : Nat), .int .i64 (codeF ru tanks jobs)]) := by rw [hc, ha]
set_option maxHeartbeats 1000000 in
theorem Fleet_any {ru : Rules} {ua up : List Value} {vl va vp vk : Value} {w : World} {B : Nat} (hr : RdRules w B vl va vp vk ru ua up) (hB : B ≤ w.heap.size) (hs : Short ru) {tanks : List (List Ev)} {vt : Value} {ut : List Value} (ht : RdLL evC 2 w B vt tanks ut) (htn : ∀ i, i < tanks.length → (tanks.getD i []).length ≤ 1048576) (htl : tanks.length ≤ 9223372036854775807) {jobs : List Int} {vj : Value} (hv : Rd w B 1 vj jobs.length (ints jobs)) (hjn : jobs.length ≤ 9223372036854775807) :
  Calls Try.prog 38 #[rulesV vl va vp vk ru, vt, vj] w fun e w' => (∃ v' st c, e = .returned (.tuple #[v', .int .i64 c, .int .i64 ((atF ru tanks jobs) : Nat), .int .i64 (codeF ru tanks jobs)]) ∧ w'.ownsRow w.heap.size 70 2 v' st.length (stsC st) ∧
   (codeF ru tanks jobs = 0 → ∃ p, IsBest (compl (extY (yardOf ru tanks.length)) (jobs.map Int.toNat) (fillF ru tanks tanks.length, pl0)) p ∧ st = p.steps ∧ c = p.cost) ∧ (codeF ru tanks jobs ≠ 0 → st = [] ∧ c = 0)) ∧ Below w.heap.size w w' := by
 obtain ⟨Al, cl, rfl, _⟩ := hr.levels.shape;obtain ⟨Aa, ca, rfl, _⟩ := hr.allow.rd.shape;obtain ⟨Ap, cp, rfl, _⟩ := hr.apart.rd.shape;obtain ⟨Ak, ck, rfl, _⟩ := hr.kinds.shape;obtain ⟨At, ct, rfl, _⟩ := ht.rd.shape;obtain ⟨Aj, cj, rfl, _⟩ := hv.shape;have hbw := Below.refl w.heap.size w
 unfold rulesV
 refine EC.enter 53 Try.func38 rfl rfl rfl ?_;refine EC.seq ?_;refine EC.region ?_;refine EL.newP (bx_28 rfl) rfl ?_;intro g1 w1 q1 hb1 hg1 hl1;have bhbw_1 := Nat.le_trans hbw.size hg1;replace hbw := Below.on hbw hb1 hbw.size;clear hb1 hg1 hl1;refine EL.val (x_assign rfl) rfl ?_;refine EL.val (x_assign rfl) rfl ?_;refine EL.val (x_assign rfl) rfl ?_;refine EL.val (x_assign rfl) rfl ?_;refine EL.nil ?_;refine EX.seq ?_;refine EC.seq ?_;refine EC.region ?_;refine EL.val (ld_28 rfl (q1.at (j := 0) rfl) (q1.at (j := 1) rfl) (q1.at (j := 2) rfl) (q1.at (j := 3) rfl) (q1.at (j := 4) rfl) (q1.at (j := 5) rfl)) rfl ?_;refine EL.val (x_move rfl) rfl ?_;refine EL.val (x_move rfl) rfl ?_;refine EL.call (cl_68 rfl rfl rfl) rfl (yard_any (hr.below (hbw.mono hB)) (Nat.le_trans hB hbw.size) hs (ht.below (hbw.mono hB)) htn htl (hv.below (hbw.mono hB)) hjn) ?_
 rintro e w2 ⟨⟨sf, rfl, hsf, hyf⟩, hc2⟩
 refine ⟨_, rfl, ?_⟩;replace q1 := q1.below hc2 q1.lt;replace hbw := Below.on hbw hc2 hbw.size;clear hc2;refine EL.val (x_move rfl) rfl ?_;refine EL.val (x_extract rfl rfl) rfl ?_;refine EL.val (x_extract rfl rfl) rfl ?_;refine EL.val (x_extract rfl rfl) rfl ?_;refine EL.newP al_116 rfl ?_;intro g3 w3 q3 hb3 hg3 hl3;have n1_3 : g1 ≠ g3 := Nat.ne_of_lt (Nat.lt_of_lt_of_le q1.lt hg3);have bhbw_3 := Nat.le_trans hbw.size hg3;replace q1 := q1.below hb3 q1.lt;replace hbw := Below.on hbw hb3 hbw.size;clear hb3 hg3 hl3;refine EL.newP al_fleet rfl ?_;intro g4 w4 q4 hb4 hg4 hl4;have n1_4 : g1 ≠ g4 := Nat.ne_of_lt (Nat.lt_of_lt_of_le q1.lt hg4);have n3_4 : g3 ≠ g4 := Nat.ne_of_lt (Nat.lt_of_lt_of_le q3.lt hg4);have bhbw_4 := Nat.le_trans hbw.size hg4;replace q1 := q1.below hb4 q1.lt;replace q3 := q3.below hb4 q3.lt;replace hbw := Below.on hbw hb4 hbw.size;clear hb4 hg4 hl4;refine EL.store rfl rfl q3 sz_116 rfl rfl rfl rfl ?_;intro w5 hq5 hg5;replace q1 := q1.grown hg5 (fun h => n1_3 (Option.some.inj h))
 replace q4 := q4.grown hg5 (fun h => n3_4.symm (Option.some.inj h))
 replace hbw := below_store hbw hg5 bhbw_3;replace q3 := hq5;clear hg5 hq5;refine EL.store (l' := (flC sf)) rfl rfl q4 sz_150 rfl ((lenV_eq _).trans hsf.fl.len) (by rw [lenV_eq, Nat.ble_eq]; exact Nat.le_of_eq (fl0_len.symm)) (flC_one _) ?_
 intro w6 hq6 hg6;rw [spl_whole (hsf.fl.len.trans fl0_len.symm)] at hq6;replace q1 := q1.grown hg6 (fun h => n1_4 (Option.some.inj h))
 replace q3 := q3.grown hg6 (fun h => n3_4 (Option.some.inj h))
 replace hbw := below_store hbw hg6 bhbw_4;replace q4 := hq6;clear hg6 hq6;refine EL.val (x_assign rfl) rfl ?_;refine EL.nil ?_;refine EX.seq ?_;refine EC.seq ?_;refine EC.seq ?_;refine EC.region ?_;refine EL.val (x_move rfl) rfl ?_
 by_cases hc : yardE ru tanks jobs = 0
 ·
  refine EL.val (x_neq (r := false) rfl rfl (decide_eq_false (fun h => h hc))) rfl ?_
  refine EL.val (x_move rfl) rfl ?_;refine EL.valg rfl rfl (x_move rfl) rfl ?_;refine EL.valg rfl rfl (ln_22 rfl) rfl ?_
  by_cases he : jobs.length = 0
  ·
   refine EL.valg rfl rfl (x_eql (r := true) rfl rfl (decide_eq_true (by omega))) rfl ?_
   refine EL.val (x_pick_f rfl rfl) rfl ?_;refine EL.nil ?_;refine EX.seq ?_;refine EC.yes rfl ?_;refine EC.seq ?_;refine EC.region ?_;refine EL.val (x_move rfl) rfl ?_;refine EL.val (x_assign rfl) rfl ?_;refine EL.val (x_assign rfl) rfl ?_;refine EL.val (x_assign rfl) rfl ?_;refine EL.val (x_assign rfl) rfl ?_;refine EL.nil ?_;refine EX.seq ?_;refine EC.ret ?_;refine EX.seq_ret ?_
   exact EX.done (res4 rfl rfl rfl rfl rfl) ⟨⟨_, [], 0, fleet_e (a := 0) (c := yardE ru tanks jobs) (by unfold atF; rw [if_pos hc, if_neg (by omega)]) (by unfold codeF; rw [if_pos hc, if_neg (by omega), hc]), World.ownsRow_nil _ _ _ _, fun _ => ⟨pl0, by rw [List.eq_nil_of_length_eq_zero he]; exact best_nil, rfl, rfl⟩, fun h => absurd (by unfold codeF; rw [if_pos hc, if_neg (by omega)]) h⟩, hbw⟩
  ·
   refine EL.valg rfl rfl (x_eql (r := false) rfl rfl (decide_eq_false (by omega))) rfl ?_
   refine EL.val (x_pick_f rfl rfl) rfl ?_;refine EL.nil ?_;refine EX.seq ?_;refine EC.no rfl ?_;refine EC.skip ?_;refine EX.seq ?_;refine EC.seq ?_;refine EC.region ?_;refine EL.val (ld_116 rfl (q3.at (j := 0) rfl) (q3.at (j := 1) rfl) (q3.at (j := 2) rfl) (q3.at (j := 3) rfl) (q3.at (j := 4) rfl) (q3.at (j := 5) rfl)) rfl ?_;refine EL.val (x_loadA rfl (q4.range (PartAt.whole _)) Try.underlying150 rfl (sz_150.trans (congrArg some hsf.fl.len.symm))) rfl ?_;refine EL.val (x_move rfl) rfl ?_;refine EL.val (ln_96 rfl) rfl ?_;refine EL.val (x_move rfl) rfl ?_;obtain ⟨hro, ht3, hjz⟩ := yard_ok hc;obtain ⟨hj1, hj2, hj3⟩ := jobs_ok hjz;obtain rfl := hyf hc;refine EL.call (cl_69 rfl rfl rfl rfl) rfl (plans_any (hr.below (hbw.mono hB)) (Nat.le_trans hB hbw.size) hro (fillF_ok ru tanks _) (many := tanks.length) ht3 (js := jobs.map Int.toNat) hj2 (by omega) (C := B) (by rw [List.length_map, hj1]; exact hv.below (hbw.mono hB)) (Nat.le_trans hB hbw.size)) ?_
   rintro e w7 ⟨⟨vp2, lp, rfl, hP, hbs⟩, hc7⟩
   refine ⟨_, rfl, ?_⟩;replace hP := hP.less hbw.size;replace q1 := q1.below hc7 q1.lt;replace q3 := q3.below hc7 q3.lt;replace q4 := q4.below hc7 q4.lt;replace hbw := Below.on hbw hc7 hbw.size;clear hc7;obtain ⟨Aq, cq, rfl, _⟩ := hP.rd.shape;obtain ⟨hb1, hb2⟩ := hbs;rw [List.length_map] at hb1 hb2;have hl10 : lp.length ≤ jobs.length := by have := depth_le (ext := extY (yardOf ru tanks.length)) (jobs.map Int.toNat) (fillF ru tanks tanks.length, pl0); rw [List.length_map] at this; omega
   rw [List.length_map] at hj3;refine EL.val (x_assign rfl) rfl ?_;refine EL.nil ?_;refine EX.seq ?_;refine EC.seq ?_;refine EC.seq ?_;refine EC.region ?_;refine EL.val (x_move rfl) rfl ?_;refine EL.val (ln_130 rfl) rfl ?_;refine EL.val (x_move rfl) rfl ?_;refine EL.val (ln_22 rfl) rfl ?_
   by_cases hlt : lp.length < jobs.length
   ·
    refine EL.val (x_lss (r := true) rfl rfl (decide_eq_true (by omega))) rfl ?_
    refine EL.nil ?_;refine EX.seq ?_;refine EC.yes rfl ?_;refine EC.seq ?_;refine EC.region ?_;refine EL.val (x_move rfl) rfl ?_;refine EL.val (ln_130 rfl) rfl ?_;refine EL.val (x_assign rfl) rfl ?_;refine EL.val (x_assign rfl) rfl ?_;refine EL.val (x_assign rfl) rfl ?_;refine EL.val (x_assign rfl) rfl ?_;refine EL.nil ?_;refine EX.seq ?_;refine EC.ret ?_;refine EX.seq_ret ?_;have hcd : codeF ru tanks jobs = 7 := by unfold codeF depF; rw [if_pos hc, ← hb1, if_pos hlt]
    have hat : atF ru tanks jobs = lp.length := by unfold atF depF; rw [if_pos hc, ← hb1, if_pos hlt]
    exact EX.done (res4 rfl rfl rfl rfl rfl) ⟨⟨_, [], 0, fleet_e hat hcd, World.ownsRow_nil _ _ _ _, fun h => absurd h (by rw [hcd]; decide), fun _ => ⟨rfl, rfl⟩⟩, hbw⟩
   ·
    refine EL.val (x_lss (r := false) rfl rfl (decide_eq_false (by omega))) rfl ?_
    refine EL.nil ?_;refine EX.seq ?_;refine EC.no rfl ?_;refine EC.skip ?_;refine EX.seq ?_;refine EC.seq ?_;refine EC.region ?_;obtain ⟨nn, hnn⟩ : ∃ nn, lp.length = nn + 1 := ⟨lp.length - 1, by omega⟩
    have hlast := hb2 nn (by omega)
    rw [map_getD (d := pr0) (show nn < lp.length by omega), List.take_of_length_le (by rw [List.length_map]; omega)] at hlast
    have hmem : lp.getD nn pr0 ∈ lp := by rw [getD_in (show nn < lp.length by omega)]; exact List.getElem_mem _
    obtain ⟨⟨pb, Ab, cb⟩, epb⟩ : ∃ z, z = lp.getD nn pr0 := ⟨_, rfl⟩;rw [← epb] at hlast hmem
    dsimp only at hlast
    refine EL.val (x_move rfl) rfl ?_;refine EL.val (x_move rfl) rfl ?_;refine EL.val (ln_130 rfl) rfl ?_;refine EL.val (x_sub rfl rfl (c := ((nn : Nat) : Int)) ((IntWalk.i64_in _ ⟨by omega, by omega⟩).trans (by omega))) rfl ?_
    obtain ⟨bp, op, ep, _, c0, c1, c2⟩ := pls_cells lp nn (by omega) w7 w7.heap.size _ _ _ hP.rd
    rw [← epb] at c0 c1 c2
    dsimp only at c0 c1 c2
    cases ep
    have hst := hP.rows _ hmem
    dsimp only at hst
    refine EL.val (ix_130 rfl rfl (show nn < lp.length by omega)) rfl ?_
    refine EL.val (ld_134 rfl c0 c1 c2) rfl ?_;refine EL.newP al_134 rfl ?_;intro g8 w8 q8 hb8 hg8 hl8;have n1_8 : g1 ≠ g8 := Nat.ne_of_lt (Nat.lt_of_lt_of_le q1.lt hg8);have n3_8 : g3 ≠ g8 := Nat.ne_of_lt (Nat.lt_of_lt_of_le q3.lt hg8);have n4_8 : g4 ≠ g8 := Nat.ne_of_lt (Nat.lt_of_lt_of_le q4.lt hg8);have bhbw_8 := Nat.le_trans hbw.size hg8;replace q1 := q1.below hb8 q1.lt;replace q3 := q3.below hb8 q3.lt;replace q4 := q4.below hb8 q4.lt;replace hst := own_below hst hb8 (Nat.le_refl _);replace hbw := Below.on hbw hb8 hbw.size;clear hb8 hg8 hl8;refine EL.store rfl rfl q8 sz_134 rfl rfl rfl rfl ?_;intro w9 hq9 hg9;replace q1 := q1.grown hg9 (fun h => n1_8 (Option.some.inj h))
    replace q3 := q3.grown hg9 (fun h => n3_8 (Option.some.inj h))
    replace q4 := q4.grown hg9 (fun h => n4_8 (Option.some.inj h))
    replace hst := own_type hst q8 rfl hg9;replace hbw := below_store hbw hg9 bhbw_8;replace q8 := hq9;clear hg9 hq9;refine EL.nil ?_;refine EX.seq ?_;refine EC.seq ?_;have lt_1 := q1.lt;have lt_3 := q3.lt;have lt_4 := q4.lt;have lt_8 := q8.lt;refine EC.regionP [[], [0], [], [2], [0, 1], [0, 1, 2, 3, 4], [0, 1, 2, 3, 4, 5], [0, 1, 2, 3, 4, 5, 6]] 5 [] (phi (fun i_ r => match i_ with | 0 => r 0 = .pointer (some ⟨g8, 0, none⟩) | 1 => r 1 = .slice Ab pb.steps.length cb | 2 => r 2 = .pointer (some ⟨g8, 2, none⟩) | 3 => r 3 = .int .i64 pb.cost | 4 => r 4 = .slice Ab pb.steps.length cb | _ => True) []) (by kernel_rfl) rfl rfl (phi_nil) (fun i_ hi_ => ?_) ?_
    ·match i_, hi_ with
     | 0, _ =>
      intro val w1 a hb ha hd;have ha := ha.sub (Sub.ins (d := 13) (Sub.nil _) rfl)
      exact hs_val ha rfl rfl (fa_134_0 rfl) rfl rfl
     | 1, _ =>
      intro val w1 a hb ha hd;have e0 : val 0 = .pointer (some ⟨g8, 0, none⟩) := hd 0 (memB_mem.1 rfl);have ha := ha.sub (Sub.ins (d := 49) (Sub.nil _) (dep_get rfl e0))
      exact hs_val ha rfl rfl (ld_65 rfl ((q8.below hb q8.lt).at (j := 0) rfl)) rfl rfl
     | 2, _ =>
      intro val w1 a hb ha hd;have ha := ha.sub (Sub.ins (d := 13) (Sub.nil _) rfl)
      exact hs_val ha rfl rfl (fa_134_2 rfl) rfl rfl
     | 3, _ =>
      intro val w1 a hb ha hd;have e2 : val 2 = .pointer (some ⟨g8, 2, none⟩) := hd 2 (memB_mem.1 rfl);have ha := ha.sub (Sub.ins (d := 51) (Sub.nil _) (dep_get rfl e2))
      exact hs_val ha rfl rfl (ld_3 rfl ((q8.below hb q8.lt).at (j := 2) rfl)) rfl rfl
     | 4, _ =>
      intro val w1 a hb ha hd;have e1 : val 1 = .slice Ab pb.steps.length cb := hd 1 (memB_mem.1 rfl);have ha := ha.sub (Sub.ins (d := 50) (Sub.nil _) (dep_get rfl e1))
      exact hs_val ha rfl rfl (x_assign rfl) rfl rfl
     | k + 5, h => exact absurd h (by omega)
    ·intro val wR8 hb halc hd
     have e0 : val 0 = .pointer (some ⟨g8, 0, none⟩) := hd 0 (by omega)
     have e1 : val 1 = .slice Ab pb.steps.length cb := hd 1 (by omega)
     have e2 : val 2 = .pointer (some ⟨g8, 2, none⟩) := hd 2 (by omega)
     have e3 : val 3 = .int .i64 pb.cost := hd 3 (by omega)
     have e4 : val 4 = .slice Ab pb.steps.length cb := hd 4 (by omega)
     refine EL.ends (cs := [.pointer (some ⟨g8, 0, none⟩), .slice Ab pb.steps.length cb, .pointer (some ⟨g8, 2, none⟩), .int .i64 pb.cost, .slice Ab pb.steps.length cb]) ⟨e0, e1, e2, e3, e4, trivial⟩ rfl ?_;replace q1 := q1.below hb q1.lt;replace q3 := q3.below hb q3.lt;replace q4 := q4.below hb q4.lt;replace q8 := q8.below hb q8.lt;replace hst := own_below hst hb (Nat.le_refl _);replace hbw := Below.on hbw hb hbw.size;clear hb;refine EL.val (x_assign rfl) rfl ?_;refine EL.val (x_assign rfl) rfl ?_;refine EL.val (x_assign rfl) rfl ?_;refine EL.nil ?_;refine EX.seq ?_;refine EC.ret ?_;have hcd : codeF ru tanks jobs = 0 := by unfold codeF depF; rw [if_pos hc, ← hb1, if_neg hlt]
     have hat : atF ru tanks jobs = 0 := by unfold atF depF; rw [if_pos hc, ← hb1, if_neg hlt]
     exact EX.done (res4 rfl rfl rfl rfl rfl) ⟨⟨_, pb.steps, pb.cost, fleet_e hat hcd, hst, fun _ => ⟨pb, hlast, rfl, rfl⟩, fun h => absurd hcd h⟩, hbw⟩
 ·
  refine EL.val (x_neq (r := true) rfl rfl (decide_eq_true hc)) rfl ?_;refine EL.val (x_move rfl) rfl ?_;refine EL.skip rfl rfl rfl rfl ?_;refine EL.skip rfl rfl rfl rfl ?_;refine EL.skip rfl rfl rfl rfl ?_;refine EL.val (x_pick_t rfl rfl) rfl ?_;refine EL.nil ?_;refine EX.seq ?_;refine EC.yes rfl ?_;refine EC.seq ?_;refine EC.region ?_;refine EL.val (x_move rfl) rfl ?_;refine EL.val (x_assign rfl) rfl ?_;refine EL.val (x_assign rfl) rfl ?_;refine EL.val (x_assign rfl) rfl ?_;refine EL.val (x_assign rfl) rfl ?_;refine EL.nil ?_;refine EX.seq ?_;refine EC.ret ?_;refine EX.seq_ret ?_
  exact EX.done (res4 rfl rfl rfl rfl rfl) ⟨⟨_, [], 0, fleet_e (by unfold atF; rw [if_neg hc]) (by unfold codeF; rw [if_neg hc]), World.ownsRow_nil _ _ _ _, fun h => absurd h (by unfold codeF; rw [if_neg hc]; exact hc), fun _ => ⟨rfl, rfl⟩⟩, hbw⟩
end Go.Proofs.Ytdkedhcbdbpccaa
set_option linter.unusedVariables false
set_option linter.unusedSimpArgs false
namespace Go.Proofs.Ytdkedhcbdbpccaa
open Go Go.RowKit
section
variable {n : Nat} {σ : Sg} {w : World} {dst : Option Tmp} {ty : TypeId} {pos : String} {af : Array Edge} {g : Option (Nat × Bool)} {x y z : Operand} {at' : Array TypeId}
theorem cl_56 {x0 x1 x2 : Operand} {v0 v1 v2 : Value} (h0 : evS σ x0 = some v0) (h1 : evS σ x1 = some v1) (h2 : evS σ x2 = some v2) (a : Act) (ha : Env n σ a) : (execOp a.eval ⟨dst, .call { callee := .value (.func 56), args := #[x0, x1, x2], argTypes := at' }, ty, pos, af, g⟩).run Try.prog w = .ok (.enter 56 #[v0, v1, v2]) w := by
 simp only [execOp, resolve, List.map_toArray, List.map_cons, List.map_nil, ha.eval h0, ha.eval h1, ha.eval h2]
 simp [go_sem, Act.eval]
theorem cl_66 {x0 x1 : Operand} {v0 v1 : Value} (h0 : evS σ x0 = some v0) (h1 : evS σ x1 = some v1) (a : Act) (ha : Env n σ a) : (execOp a.eval ⟨dst, .call { callee := .value (.func 66), args := #[x0, x1], argTypes := at' }, ty, pos, af, g⟩).run Try.prog w = .ok (.enter 66 #[v0, v1]) w := by
 simp only [execOp, resolve, List.map_toArray, List.map_cons, List.map_nil, ha.eval h0, ha.eval h1]
 simp [go_sem, Act.eval]
theorem cl_67 {x0 x1 x2 : Operand} {v0 v1 v2 : Value} (h0 : evS σ x0 = some v0) (h1 : evS σ x1 = some v1) (h2 : evS σ x2 = some v2) (a : Act) (ha : Env n σ a) : (execOp a.eval ⟨dst, .call { callee := .value (.func 67), args := #[x0, x1, x2], argTypes := at' }, ty, pos, af, g⟩).run Try.prog w = .ok (.enter 67 #[v0, v1, v2]) w := by
 simp only [execOp, resolve, List.map_toArray, List.map_cons, List.map_nil, ha.eval h0, ha.eval h1, ha.eval h2]
 simp [go_sem, Act.eval]
end
end Go.Proofs.Ytdkedhcbdbpccaa
set_option linter.unusedVariables false
set_option linter.unusedSimpArgs false
namespace Go.Proofs.Ytdkedhcbdbpccaa
open Go Go.RowKit
theorem in_to {n lo hi : Int} {b : Bool} (h : inB lo hi n = b) (w : World) : Calls Try.prog 56 #[.int .i64 n, .int .i64 lo, .int .i64 hi] w fun e w' => e = .returned (.bool b) ∧ Below w.heap.size w w' := by
 have hbw := Below.refl w.heap.size w;refine EC.enter 15 Try.func56 rfl rfl rfl ?_;refine EC.seq ?_;refine EC.region ?_;refine EL.val (x_assign rfl) rfl ?_;refine EL.nil ?_;refine EX.seq ?_;refine EC.seq ?_;refine EC.region ?_;refine EL.val (x_move rfl) rfl ?_;refine EL.val (x_move rfl) rfl ?_
 by_cases h1 : lo ≤ n
 ·
  refine EL.val (x_geq (r := true) rfl rfl (decide_eq_true (by omega))) rfl ?_
  refine EL.val (x_move rfl) rfl ?_;refine EL.valg rfl rfl (x_move rfl) rfl ?_;refine EL.valg rfl rfl (x_move rfl) rfl ?_
  by_cases h2 : n ≤ hi
  ·
   refine EL.valg rfl rfl (x_leq (r := true) rfl rfl (decide_eq_true (by omega))) rfl ?_
   refine EL.val (x_pick_t rfl rfl) rfl ?_;refine EL.val (x_assign rfl) rfl ?_;refine EL.nil ?_;refine EX.seq ?_;refine EC.ret ?_
   exact EX.done (res1 rfl rfl) ⟨by rw [← h]; rw [inB_iff.2 ⟨h1, h2⟩], hbw⟩
  ·
   refine EL.valg rfl rfl (x_leq (r := false) rfl rfl (decide_eq_false (by omega))) rfl ?_
   refine EL.val (x_pick_t rfl rfl) rfl ?_;refine EL.val (x_assign rfl) rfl ?_;refine EL.nil ?_;refine EX.seq ?_;refine EC.ret ?_
   exact EX.done (res1 rfl rfl) ⟨by rw [← h]; rw [show inB lo hi n = false from Bool.eq_false_iff.2 (fun h => by rw [inB_iff] at h; omega)], hbw⟩
 ·
  refine EL.val (x_geq (r := false) rfl rfl (decide_eq_false (by omega))) rfl ?_
  refine EL.val (x_move rfl) rfl ?_;refine EL.skip rfl rfl rfl rfl ?_;refine EL.skip rfl rfl rfl rfl ?_;refine EL.skip rfl rfl rfl rfl ?_;refine EL.val (x_pick_f rfl rfl) rfl ?_;refine EL.val (x_assign rfl) rfl ?_;refine EL.nil ?_;refine EX.seq ?_;refine EC.ret ?_
  exact EX.done (res1 rfl rfl) ⟨by rw [← h]; rw [show inB lo hi n = false from Bool.eq_false_iff.2 (fun h => by rw [inB_iff] at h; omega)], hbw⟩
theorem bounds_to {x : Bd} {b : Bool} (h : bdB x = b) (w : World) : Calls Try.prog 66 #[.agg #[.int .i64 x.lo, .int .i64 x.hi], .int .i64 1000000] w fun e w' => e = .returned (.bool b) ∧ Below w.heap.size w w' := by
 have hbw := Below.refl w.heap.size w;refine EC.enter 21 Try.func66 rfl rfl rfl ?_;refine EC.seq ?_;refine EC.region ?_;refine EL.newP (bx_24 rfl) rfl ?_;intro g1 w1 q1 hb1 hg1 hl1;have bhbw_1 := Nat.le_trans hbw.size hg1;replace hbw := Below.on hbw hb1 hbw.size;clear hb1 hg1 hl1;refine EL.val (x_assign rfl) rfl ?_;refine EL.nil ?_;refine EX.seq ?_;refine EC.seq ?_;refine EC.region ?_;refine EL.val (fa_24_0 rfl) rfl ?_;refine EL.val (ld_3 rfl (q1.at (j := 0) rfl)) rfl ?_
 by_cases h1 : 0 ≤ x.lo
 ·
  refine EL.val (x_geq (r := true) rfl rfl (decide_eq_true (by omega))) rfl ?_
  refine EL.val (x_move rfl) rfl ?_;refine EL.valg rfl rfl (fa_24_0 rfl) rfl ?_;refine EL.valg rfl rfl (ld_3 rfl (q1.at (j := 0) rfl)) rfl ?_;refine EL.valg rfl rfl (fa_24_1 rfl) rfl ?_;refine EL.valg rfl rfl (ld_3 rfl (q1.at (j := 1) rfl)) rfl ?_
  by_cases h2 : x.lo ≤ x.hi
  ·
   refine EL.valg rfl rfl (x_leq (r := true) rfl rfl (decide_eq_true (by omega))) rfl ?_
   refine EL.val (x_pick_t rfl rfl) rfl ?_;refine EL.val (x_move rfl) rfl ?_;refine EL.valg rfl rfl (fa_24_1 rfl) rfl ?_;refine EL.valg rfl rfl (ld_3 rfl (q1.at (j := 1) rfl)) rfl ?_;refine EL.valg rfl rfl (x_move rfl) rfl ?_
   by_cases h3 : x.hi ≤ 1000000
   ·
    refine EL.valg rfl rfl (x_leq (r := true) rfl rfl (decide_eq_true (by omega))) rfl ?_
    refine EL.val (x_pick_t rfl rfl) rfl ?_;refine EL.val (x_assign rfl) rfl ?_;refine EL.nil ?_;refine EX.seq ?_;refine EC.ret ?_
    exact EX.done (res1 rfl rfl) ⟨by rw [← h]; rw [bdB_iff.2 ⟨h1, h2, h3⟩], hbw⟩
   ·
    refine EL.valg rfl rfl (x_leq (r := false) rfl rfl (decide_eq_false (by omega))) rfl ?_
    refine EL.val (x_pick_t rfl rfl) rfl ?_;refine EL.val (x_assign rfl) rfl ?_;refine EL.nil ?_;refine EX.seq ?_;refine EC.ret ?_
    exact EX.done (res1 rfl rfl) ⟨by rw [← h]; rw [show bdB x = false from Bool.eq_false_iff.2 (fun h => by rw [bdB_iff] at h; omega)], hbw⟩
  ·
   refine EL.valg rfl rfl (x_leq (r := false) rfl rfl (decide_eq_false (by omega))) rfl ?_
   refine EL.val (x_pick_t rfl rfl) rfl ?_;refine EL.val (x_move rfl) rfl ?_;refine EL.skip rfl rfl rfl rfl ?_;refine EL.skip rfl rfl rfl rfl ?_;refine EL.skip rfl rfl rfl rfl ?_;refine EL.skip rfl rfl rfl rfl ?_;refine EL.val (x_pick_f rfl rfl) rfl ?_;refine EL.val (x_assign rfl) rfl ?_;refine EL.nil ?_;refine EX.seq ?_;refine EC.ret ?_
   exact EX.done (res1 rfl rfl) ⟨by rw [← h]; rw [show bdB x = false from Bool.eq_false_iff.2 (fun h => by rw [bdB_iff] at h; omega)], hbw⟩
 ·
  refine EL.val (x_geq (r := false) rfl rfl (decide_eq_false (by omega))) rfl ?_
  refine EL.val (x_move rfl) rfl ?_;refine EL.skip rfl rfl rfl rfl ?_;refine EL.skip rfl rfl rfl rfl ?_;refine EL.skip rfl rfl rfl rfl ?_;refine EL.skip rfl rfl rfl rfl ?_;refine EL.skip rfl rfl rfl rfl ?_;refine EL.val (x_pick_f rfl rfl) rfl ?_;refine EL.val (x_move rfl) rfl ?_;refine EL.skip rfl rfl rfl rfl ?_;refine EL.skip rfl rfl rfl rfl ?_;refine EL.skip rfl rfl rfl rfl ?_;refine EL.skip rfl rfl rfl rfl ?_;refine EL.val (x_pick_f rfl rfl) rfl ?_;refine EL.val (x_assign rfl) rfl ?_;refine EL.nil ?_;refine EX.seq ?_;refine EC.ret ?_
  exact EX.done (res1 rfl rfl) ⟨by rw [← h]; rw [show bdB x = false from Bool.eq_false_iff.2 (fun h => by rw [bdB_iff] at h; omega)], hbw⟩
section
variable {tt : List (List Int)} {n : Nat} {m : Int}
theorem sq_no1 (h : tt.length ≠ n) : sqB tt n m = false := by unfold sqB; simp [h]
theorem sq_no2 {i : Nat} (hi : i < n) (h : (tt.getD i []).length ≠ n) : sqB tt n m = false := Bool.eq_false_iff.2 fun e => by
 unfold sqB at e
 rw [Bool.and_eq_true, decide_eq_true_eq] at e;have := List.all_eq_true.1 e.2 (tt.getD i []) (by rw [getD_in (by omega)]; exact List.getElem_mem _)
 rw [Bool.and_eq_true, decide_eq_true_eq] at this
 exact h this.1
theorem sq_no3 {i k : Nat} (hi : i < n) (hk : k < n) (h : inB 0 m ((tt.getD i []).getD k 0) = false) : sqB tt n m = false := Bool.eq_false_iff.2 fun e => by
 unfold sqB at e
 rw [Bool.and_eq_true, decide_eq_true_eq] at e;have := List.all_eq_true.1 e.2 (tt.getD i []) (by rw [getD_in (by omega)]; exact List.getElem_mem _)
 rw [Bool.and_eq_true, decide_eq_true_eq] at this;have h2 := List.all_eq_true.1 this.2 ((tt.getD i []).getD k 0) (by rw [getD_in (show k < (tt.getD i []).length by omega)]; exact List.getElem_mem _)
 rw [h] at h2
 cases h2
theorem sq_row {row : List Int} (hr : row.length = n) (h : ∀ k, k < n → inB 0 m (row.getD k 0) = true) : row.all (inB 0 m) = true := List.all_eq_true.2 fun x hx => by
 obtain ⟨k, hk, rfl⟩ := List.getElem_of_mem hx;have := h k (by omega)
 rwa [getD_in hk] at this
theorem sq_yes (hn : tt.length = n) (h : ∀ i, i < n → (tt.getD i []).length = n ∧ (tt.getD i []).all (inB 0 m) = true) : sqB tt n m = true := by
 unfold sqB
 rw [Bool.and_eq_true, decide_eq_true_eq];refine ⟨hn, List.all_eq_true.2 fun x hx => ?_⟩
 obtain ⟨i, hi, rfl⟩ := List.getElem_of_mem hx;have := h i (by omega)
 rw [getD_in hi] at this;rw [this.2, this.1, Bool.and_true]
 exact decide_eq_true rfl
end
theorem square_to {tt : List (List Int)} {n : Nat} {m : Int} {b : Bool} (h : sqB tt n m = b) {vt : Value} {ut : List Value} {w : World} {B : Nat} (ht : RdLL iC 1 w B vt tt ut) (hB : B ≤ w.heap.size) (htn : tt.length ≤ 1048576) (hnn : n ≤ 1048576) :
  Calls Try.prog 67 #[vt, .int .i64 (n : Nat), .int .i64 m] w fun e w' => e = .returned (.bool b) ∧ Below w.heap.size w w' := by
 obtain ⟨At, ct, rfl, _⟩ := ht.rd.shape;have hbw := Below.refl w.heap.size w;refine EC.enter 40 Try.func67 rfl rfl rfl ?_;refine EC.seq ?_;refine EC.region ?_;refine EL.val (x_assign rfl) rfl ?_;refine EL.nil ?_;refine EX.seq ?_;refine EC.seq ?_;refine EC.seq ?_;refine EC.region ?_;refine EL.val (x_move rfl) rfl ?_;refine EL.val (ln_25 rfl) rfl ?_;refine EL.val (x_move rfl) rfl ?_
 by_cases hn : tt.length = n
 ·
  refine EL.val (x_neq (r := false) rfl rfl (decide_eq_false (by omega))) rfl ?_
  refine EL.nil ?_;refine EX.seq ?_;refine EC.no rfl ?_;refine EC.skip ?_;refine EX.seq ?_;refine EC.seq ?_;refine EC.seq ?_;refine EC.region ?_;refine EL.val (x_assign rfl) rfl ?_;refine EL.nil ?_;refine EX.seq ?_;refine EC.block ?_;refine EC.loopD [6, 7, 8, 13, 14, 15, 16, 17, 18, 19, 20, 21, 22, 23, 24, 25, 26, 27, 28, 29, 30, 31, 32, 33, 34, 35, 36, 37, 38, 39] (fun x : Nat => [(7, .int .i64 (x : Nat))]) (fun x W => x ≤ n ∧ (∀ i, i < x → (tt.getD i []).length = n ∧ (tt.getD i []).all (inB 0 m) = true) ∧ Below w.heap.size w W) (fun x => n - x) 0 ⟨Nat.zero_le _, fun i hi => absurd hi (by omega), hbw⟩ ⟨rfl, trivial⟩ ?_
  clear hbw
  rintro i wx ⟨hi, hall, hbw⟩
  by_cases hlt : i < n
  ·
   have hlt_ : i < tt.length := by omega
   obtain ⟨bt, ot, et, _, htc⟩ := vals_cells ut i (by rw [ht.len]; exact hlt_) wx B _ _ _ (ht.rd.below (hbw.mono hB))
   cases et
   have hrr := (ht.row i hlt_);rw [← ints_flat] at hrr;obtain ⟨Ai, ci, ei, _⟩ := hrr.shape;rw [ei] at htc hrr;refine EC.seq ?_;refine EC.seq ?_;refine EC.region ?_;refine EL.val (x_move rfl) rfl ?_;refine EL.val (x_move rfl) rfl ?_;refine EL.val (x_lss rfl rfl (decide_eq_true (show (((i : Nat) : Int) < ((n : Nat) : Int)) by omega))) rfl ?_
   refine EL.nil ?_;refine EX.seq ?_;refine EC.yes rfl ?_;refine EC.skip ?_;refine EX.seq ?_;refine EC.seq ?_;refine EC.block ?_;refine EC.seq ?_;refine EC.seq ?_;refine EC.region ?_;refine EL.val (x_move rfl) rfl ?_;refine EL.val (x_move rfl) rfl ?_;refine EL.val (ix_25 rfl rfl hlt_) rfl ?_;refine EL.val (ld_22 rfl htc) rfl ?_;refine EL.val (ln_22 rfl) rfl ?_;refine EL.val (x_move rfl) rfl ?_
   by_cases hrow : (tt.getD i []).length = n
   ·
    refine EL.val (x_neq (r := false) rfl rfl (decide_eq_false (by omega))) rfl ?_
    refine EL.nil ?_;refine EX.seq ?_;refine EC.no rfl ?_;refine EC.skip ?_;refine EX.seq ?_;refine EC.seq ?_;refine EC.region ?_;refine EL.val (x_assign rfl) rfl ?_;refine EL.nil ?_;refine EX.seq ?_;refine EC.block ?_;refine EC.loopD [6, 8, 25, 26, 27, 28, 29, 30, 31, 32, 33, 34, 35, 36, 37, 38, 39] (fun x : Nat => [(8, .int .i64 (x : Nat))]) (fun x W => x ≤ n ∧ (∀ k, k < x → inB 0 m ((tt.getD i []).getD k 0) = true) ∧ Below w.heap.size w W) (fun x => n - x) 0 ⟨Nat.zero_le _, fun k hk => absurd hk (by omega), hbw⟩ ⟨rfl, trivial⟩ ?_
    clear hbw htc
    rintro k wk ⟨hk, hall2, hbw⟩
    by_cases hlt2 : k < n
    ·
     obtain ⟨bt2, ot2, et2, _, htc⟩ := vals_cells ut i (by rw [ht.len]; exact hlt_) wk B _ _ _ (ht.rd.below (hbw.mono hB))
     cases et2
     rw [ei] at htc;obtain ⟨bi, oi, ebi, _, hc0⟩ := ints_cells (tt.getD i []) k (by omega) wk B _ _ _ (hrr.below (hbw.mono hB))
     cases ebi
     refine EC.seq ?_;refine EC.seq ?_;refine EC.region ?_;refine EL.val (x_move rfl) rfl ?_;refine EL.val (x_move rfl) rfl ?_;refine EL.val (x_lss rfl rfl (decide_eq_true (show (((k : Nat) : Int) < ((n : Nat) : Int)) by omega))) rfl ?_
     refine EL.nil ?_;refine EX.seq ?_;refine EC.yes rfl ?_;refine EC.skip ?_;refine EX.seq ?_;refine EC.seq ?_;refine EC.block ?_;refine EC.seq ?_;refine EC.region ?_;refine EL.val (x_move rfl) rfl ?_;refine EL.val (x_move rfl) rfl ?_;refine EL.val (ix_25 rfl rfl hlt_) rfl ?_;refine EL.val (ld_22 rfl htc) rfl ?_;refine EL.val (x_move rfl) rfl ?_;refine EL.val (ix_22 rfl rfl (show k < (tt.getD i []).length by omega)) rfl ?_
     refine EL.val (ld_3 rfl hc0) rfl ?_;refine EL.val (x_move rfl) rfl ?_
     cases hin : inB 0 m ((tt.getD i []).getD k 0)
     ·
      refine EL.call (cl_56 rfl rfl rfl) rfl (in_to hin _) ?_
      rintro e w1 ⟨rfl, hc1⟩
      refine ⟨_, rfl, ?_⟩;replace hbw := Below.on hbw hc1 hbw.size;clear hc1;refine EL.val (x_not rfl) rfl ?_;refine EL.nil ?_;refine EX.seq ?_;refine EC.yes rfl ?_;refine EC.seq ?_;refine EC.region ?_;refine EL.val (x_assign rfl) rfl ?_;refine EL.nil ?_;refine EX.seq ?_;refine EC.ret ?_;refine EX.blk_ret ?_;refine EX.seq_ret ?_;refine EX.seq_ret ?_;refine EX.blk_ret ?_;refine EX.blk_ret ?_;refine EX.seq_ret ?_;refine EX.seq_ret ?_;refine EX.blk_ret ?_;refine EX.seq_ret ?_
      exact EX.done (res1 rfl rfl) ⟨by rw [← h, sq_no3 hlt hlt2 hin], hbw⟩
     ·
      refine EL.call (cl_56 rfl rfl rfl) rfl (in_to hin _) ?_
      rintro e w2 ⟨rfl, hc2⟩
      refine ⟨_, rfl, ?_⟩;replace hbw := Below.on hbw hc2 hbw.size;clear hc2;refine EL.val (x_not rfl) rfl ?_;refine EL.nil ?_;refine EX.seq ?_;refine EC.no rfl ?_;refine EC.skip ?_;refine EX.blk ?_;refine EX.seq ?_;refine EC.region ?_;refine EL.val (x_move rfl) rfl ?_;refine EL.val (x_add rfl rfl (c := ((k + 1 : Nat) : Int)) ((IntWalk.i64_in _ ⟨by first | omega | (simp only; omega), by first | omega | (simp only; omega)⟩).trans (by first | omega | (simp only; omega)))) rfl ?_
      refine EL.val (x_assign rfl) rfl ?_;refine EL.nil ?_;refine EX.roundD (k + 1) ⟨rfl, trivial⟩ (by repeat first | with_reducible exact Sub.refl _ | refine sub_past rfl ?_ | exact Sub.refl _ | refine sub_del rfl ?_ | refine sub_insL_nil ?_) ⟨hlt2, (fun j hj => by rcases Nat.lt_or_ge j k with h0 | h0; exact hall2 j h0; rw [show j = k by omega]; exact hin), hbw⟩ (by omega)
    ·
     have hkn : k = n := by omega
     have hal : (tt.getD i []).all (inB 0 m) = true := sq_row hrow (hkn ▸ hall2);refine EC.seq ?_;refine EC.seq ?_;refine EC.region ?_;refine EL.val (x_move rfl) rfl ?_;refine EL.val (x_move rfl) rfl ?_;refine EL.val (x_lss rfl rfl (decide_eq_false (show ¬(((k : Nat) : Int) < ((n : Nat) : Int)) by omega))) rfl ?_
     refine EL.nil ?_;refine EX.seq ?_;refine EC.no rfl ?_;refine EC.exit ?_;refine EX.seq_exit ?_;refine EX.seq_exit ?_;refine EX.blk_here ?_;refine EX.blk ?_;refine EX.seq ?_;refine EC.region ?_;refine EL.val (x_move rfl) rfl ?_;refine EL.val (x_add rfl rfl (c := ((i + 1 : Nat) : Int)) ((IntWalk.i64_in _ ⟨by first | omega | (simp only; omega), by first | omega | (simp only; omega)⟩).trans (by first | omega | (simp only; omega)))) rfl ?_
     refine EL.val (x_assign rfl) rfl ?_;refine EL.nil ?_;refine EX.roundD (i + 1) ⟨rfl, trivial⟩ (by repeat first | with_reducible exact Sub.refl _ | refine sub_past rfl ?_ | exact Sub.refl _ | refine sub_del rfl ?_ | refine sub_insL_nil ?_) ⟨hlt, (fun j hj => by rcases Nat.lt_or_ge j i with h0 | h0; exact hall j h0; rw [show j = i by omega]; exact ⟨hrow, hal⟩), hbw⟩ (by omega)
   ·
    refine EL.val (x_neq (r := true) rfl rfl (decide_eq_true (by omega))) rfl ?_
    refine EL.nil ?_;refine EX.seq ?_;refine EC.yes rfl ?_;refine EC.seq ?_;refine EC.region ?_;refine EL.val (x_assign rfl) rfl ?_;refine EL.nil ?_;refine EX.seq ?_;refine EC.ret ?_;refine EX.seq_ret ?_;refine EX.blk_ret ?_;refine EX.seq_ret ?_;refine EX.seq_ret ?_;refine EX.blk_ret ?_;refine EX.seq_ret ?_
    exact EX.done (res1 rfl rfl) ⟨by rw [← h, sq_no2 hlt hrow], hbw⟩
  ·
   obtain rfl : i = n := by omega
   refine EC.seq ?_;refine EC.seq ?_;refine EC.region ?_;refine EL.val (x_move rfl) rfl ?_;refine EL.val (x_move rfl) rfl ?_;refine EL.val (x_lss rfl rfl (decide_eq_false (show ¬(((i : Nat) : Int) < ((i : Nat) : Int)) by omega))) rfl ?_
   refine EL.nil ?_;refine EX.seq ?_;refine EC.no rfl ?_;refine EC.exit ?_;refine EX.seq_exit ?_;refine EX.seq_exit ?_;refine EX.blk_here ?_;refine EX.seq ?_;refine EC.seq ?_;refine EC.region ?_;refine EL.val (x_assign rfl) rfl ?_;refine EL.nil ?_;refine EX.seq ?_;refine EC.ret ?_
   exact EX.done (res1 rfl rfl) ⟨by rw [← h, sq_yes hn hall], hbw⟩
 ·
  refine EL.val (x_neq (r := true) rfl rfl (decide_eq_true (by omega))) rfl ?_
  refine EL.nil ?_;refine EX.seq ?_;refine EC.yes rfl ?_;refine EC.seq ?_;refine EC.region ?_;refine EL.val (x_assign rfl) rfl ?_;refine EL.nil ?_;refine EX.seq ?_;refine EC.ret ?_;refine EX.seq_ret ?_
  exact EX.done (res1 rfl rfl) ⟨by rw [← h, sq_no1 hn], hbw⟩
theorem all_idx {α : Type} {l : List α} {p : α → Bool} {d : α} (h : ∀ i, i < l.length → p (l.getD i d) = true) : l.all p = true := List.all_eq_true.2 fun x hx => by
 obtain ⟨k, hk, rfl⟩ := List.getElem_of_mem hx;have := h k hk
 rwa [getD_in hk] at this
theorem rules_lev {ru : Rules} (h : rulesB ru = true) (i : Nat) (hi : i < ru.levels.length) : inB 0 1000000 (ru.levels.getD i 0) = true := by
 unfold rulesB at h
 simp only [Bool.and_eq_true] at h
 exact List.all_eq_true.1 h.2.1 _ (by rw [getD_in hi]; exact List.getElem_mem _)
theorem rules_kd {ru : Rules} (h : rulesB ru = true) (i : Nat) (hi : i < ru.kinds.length) : kdB (ru.kinds.getD i kd0) = true := by
 unfold rulesB at h
 simp only [Bool.and_eq_true] at h
 exact List.all_eq_true.1 h.2.2.2.2.2.2 _ (by rw [getD_in hi]; exact List.getElem_mem _)
set_option maxHeartbeats 1000000 in
theorem Rules_to {ru : Rules} {ua up : List Value} {vl va vp vk : Value} {w : World} {B : Nat} (hr : RdRules w B vl va vp vk ru ua up) (hB : B ≤ w.heap.size) (hs : Short ru) {b : Bool} (h : rulesB ru = b) :
  Calls Try.prog 35 #[rulesV vl va vp vk ru] w fun e w' => e = .returned (.bool b) ∧ Below w.heap.size w w' := by
 have hs_ := hs;obtain ⟨Al, cl, rfl, _⟩ := hr.levels.shape;obtain ⟨Aa, ca, rfl, _⟩ := hr.allow.rd.shape;obtain ⟨Ap, cp, rfl, _⟩ := hr.apart.rd.shape;obtain ⟨Ak, ck, rfl, _⟩ := hr.kinds.shape;obtain ⟨z1, z2, z3, z4⟩ := hs_;have hbw := Below.refl w.heap.size w
 unfold rulesV
 refine EC.enter 85 Try.func35 rfl rfl rfl ?_;refine EC.seq ?_;refine EC.region ?_;refine EL.newP (bx_28 rfl) rfl ?_;intro g1 w1 q1 hb1 hg1 hl1;have bhbw_1 := Nat.le_trans hbw.size hg1;replace hbw := Below.on hbw hb1 hbw.size;clear hb1 hg1 hl1;refine EL.val (x_assign rfl) rfl ?_;refine EL.nil ?_;refine EX.seq ?_;refine EC.seq ?_;refine EC.region ?_;refine EL.val (fa_28_0 rfl) rfl ?_;refine EL.val (ld_22 rfl (q1.at (j := 0) rfl)) rfl ?_;refine EL.val (ln_22 rfl) rfl ?_;refine EL.val (x_assign rfl) rfl ?_;refine EL.nil ?_;refine EX.seq ?_;refine EC.seq ?_;refine EC.seq ?_;refine EC.region ?_;refine EL.val (x_move rfl) rfl ?_
 cases gg1 : inB 1 8 (ru.levels.length : Nat)
 ·
  refine EL.call (cl_56 rfl rfl rfl) rfl (in_to gg1 _) ?_
  rintro e w2 ⟨rfl, hc2⟩
  refine ⟨_, rfl, ?_⟩;replace q1 := q1.below hc2 q1.lt;replace hbw := Below.on hbw hc2 hbw.size;clear hc2;refine EL.val (x_not rfl) rfl ?_;refine EL.val (x_move rfl) rfl ?_;refine EL.skip rfl rfl rfl rfl ?_;refine EL.skip rfl rfl rfl rfl ?_;refine EL.skip rfl rfl rfl rfl ?_;refine EL.skip rfl rfl rfl rfl ?_;refine EL.val (x_pick_t rfl rfl) rfl ?_;refine EL.val (x_move rfl) rfl ?_;refine EL.skip rfl rfl rfl rfl ?_;refine EL.skip rfl rfl rfl rfl ?_;refine EL.skip rfl rfl rfl rfl ?_;refine EL.skip rfl rfl rfl rfl ?_;refine EL.val (x_pick_t rfl rfl) rfl ?_;refine EL.val (x_move rfl) rfl ?_;refine EL.skip rfl rfl rfl rfl ?_;refine EL.skip rfl rfl rfl rfl ?_;refine EL.skip rfl rfl rfl rfl ?_;refine EL.skip rfl rfl rfl rfl ?_;refine EL.skip rfl rfl rfl rfl ?_;refine EL.val (x_pick_t rfl rfl) rfl ?_;refine EL.val (x_move rfl) rfl ?_;refine EL.skip rfl rfl rfl rfl ?_;refine EL.skip rfl rfl rfl rfl ?_;refine EL.skip rfl rfl rfl rfl ?_;refine EL.skip rfl rfl rfl rfl ?_;refine EL.skip rfl rfl rfl rfl ?_;refine EL.val (x_pick_t rfl rfl) rfl ?_;refine EL.nil ?_;refine EX.seq ?_;refine EC.yes rfl ?_;refine EC.seq ?_;refine EC.region ?_;refine EL.val (x_assign rfl) rfl ?_;refine EL.nil ?_;refine EX.seq ?_;refine EC.ret ?_;refine EX.seq_ret ?_;have hres : rulesB ru = false := by unfold rulesB; rw [gg1]; rfl
  exact EX.done (res1 rfl rfl) ⟨by rw [← h, hres], hbw⟩
 ·
  refine EL.call (cl_56 rfl rfl rfl) rfl (in_to gg1 _) ?_
  rintro e w3 ⟨rfl, hc3⟩
  refine ⟨_, rfl, ?_⟩;replace q1 := q1.below hc3 q1.lt;replace hbw := Below.on hbw hc3 hbw.size;clear hc3;refine EL.val (x_not rfl) rfl ?_;refine EL.val (x_move rfl) rfl ?_;refine EL.valg rfl rfl (fa_28_4 rfl) rfl ?_;refine EL.valg rfl rfl (ld_26 rfl (q1.at (j := 5) rfl)) rfl ?_;refine EL.valg rfl rfl (ln_26 rfl) rfl ?_
  by_cases gg2 : ru.kinds.length ≤ 4
  ·
   refine EL.valg rfl rfl (x_gtr (r := false) rfl rfl (decide_eq_false (by omega))) rfl ?_
   refine EL.val (x_pick_f rfl rfl) rfl ?_;refine EL.val (x_move rfl) rfl ?_;refine EL.valg rfl rfl (fa_28_1 rfl) rfl ?_;refine EL.valg rfl rfl (ld_24 rfl (q1.at (j := 1) rfl) (q1.at (j := 2) rfl)) rfl ?_
   cases gg3 : bdB ru.fade
   ·
    refine EL.callg rfl rfl (cl_66 rfl rfl) rfl (bounds_to gg3 _) ?_
    rintro e w4 ⟨rfl, hc4⟩
    refine ⟨_, rfl, ?_⟩;replace q1 := q1.below hc4 q1.lt;replace hbw := Below.on hbw hc4 hbw.size;clear hc4;refine EL.valg rfl rfl (x_not rfl) rfl ?_;refine EL.val (x_pick_f rfl rfl) rfl ?_;refine EL.val (x_move rfl) rfl ?_;refine EL.skip rfl rfl rfl rfl ?_;refine EL.skip rfl rfl rfl rfl ?_;refine EL.skip rfl rfl rfl rfl ?_;refine EL.skip rfl rfl rfl rfl ?_;refine EL.skip rfl rfl rfl rfl ?_;refine EL.val (x_pick_t rfl rfl) rfl ?_;refine EL.val (x_move rfl) rfl ?_;refine EL.skip rfl rfl rfl rfl ?_;refine EL.skip rfl rfl rfl rfl ?_;refine EL.skip rfl rfl rfl rfl ?_;refine EL.skip rfl rfl rfl rfl ?_;refine EL.skip rfl rfl rfl rfl ?_;refine EL.val (x_pick_t rfl rfl) rfl ?_;refine EL.nil ?_;refine EX.seq ?_;refine EC.yes rfl ?_;refine EC.seq ?_;refine EC.region ?_;refine EL.val (x_assign rfl) rfl ?_;refine EL.nil ?_;refine EX.seq ?_;refine EC.ret ?_;refine EX.seq_ret ?_;have hres : rulesB ru = false := by unfold rulesB; simp [gg3]
    exact EX.done (res1 rfl rfl) ⟨by rw [← h, hres], hbw⟩
   ·
    refine EL.callg rfl rfl (cl_66 rfl rfl) rfl (bounds_to gg3 _) ?_
    rintro e w5 ⟨rfl, hc5⟩
    refine ⟨_, rfl, ?_⟩;replace q1 := q1.below hc5 q1.lt;replace hbw := Below.on hbw hc5 hbw.size;clear hc5;refine EL.valg rfl rfl (x_not rfl) rfl ?_;refine EL.val (x_pick_f rfl rfl) rfl ?_;refine EL.val (x_move rfl) rfl ?_;refine EL.valg rfl rfl (fa_28_2 rfl) rfl ?_;refine EL.valg rfl rfl (ld_25 rfl (q1.at (j := 3) rfl)) rfl ?_;refine EL.valg rfl rfl (x_move rfl) rfl ?_
    cases gg4 : sqB ru.allow ru.levels.length 1000000
    ·
     refine EL.callg rfl rfl (cl_67 rfl rfl rfl) rfl (square_to gg4 (hr.below (hbw.mono hB)).allow (Nat.le_trans hB hbw.size) hs.a hs.n) ?_
     rintro e w6 ⟨rfl, hc6⟩
     refine ⟨_, rfl, ?_⟩;replace q1 := q1.below hc6 q1.lt;replace hbw := Below.on hbw hc6 hbw.size;clear hc6;refine EL.valg rfl rfl (x_not rfl) rfl ?_;refine EL.val (x_pick_f rfl rfl) rfl ?_;refine EL.val (x_move rfl) rfl ?_;refine EL.skip rfl rfl rfl rfl ?_;refine EL.skip rfl rfl rfl rfl ?_;refine EL.skip rfl rfl rfl rfl ?_;refine EL.skip rfl rfl rfl rfl ?_;refine EL.skip rfl rfl rfl rfl ?_;refine EL.val (x_pick_t rfl rfl) rfl ?_;refine EL.nil ?_;refine EX.seq ?_;refine EC.yes rfl ?_;refine EC.seq ?_;refine EC.region ?_;refine EL.val (x_assign rfl) rfl ?_;refine EL.nil ?_;refine EX.seq ?_;refine EC.ret ?_;refine EX.seq_ret ?_;have hres : rulesB ru = false := by unfold rulesB; simp [gg4]
     exact EX.done (res1 rfl rfl) ⟨by rw [← h, hres], hbw⟩
    ·
     refine EL.callg rfl rfl (cl_67 rfl rfl rfl) rfl (square_to gg4 (hr.below (hbw.mono hB)).allow (Nat.le_trans hB hbw.size) hs.a hs.n) ?_
     rintro e w7 ⟨rfl, hc7⟩
     refine ⟨_, rfl, ?_⟩;replace q1 := q1.below hc7 q1.lt;replace hbw := Below.on hbw hc7 hbw.size;clear hc7;refine EL.valg rfl rfl (x_not rfl) rfl ?_;refine EL.val (x_pick_f rfl rfl) rfl ?_;refine EL.val (x_move rfl) rfl ?_;refine EL.valg rfl rfl (fa_28_3 rfl) rfl ?_;refine EL.valg rfl rfl (ld_25 rfl (q1.at (j := 4) rfl)) rfl ?_;refine EL.valg rfl rfl (x_move rfl) rfl ?_
     cases gg5 : sqB ru.apart ru.levels.length 10
     ·
      refine EL.callg rfl rfl (cl_67 rfl rfl rfl) rfl (square_to gg5 (hr.below (hbw.mono hB)).apart (Nat.le_trans hB hbw.size) hs.p hs.n) ?_
      rintro e w8 ⟨rfl, hc8⟩
      refine ⟨_, rfl, ?_⟩;replace q1 := q1.below hc8 q1.lt;replace hbw := Below.on hbw hc8 hbw.size;clear hc8;refine EL.valg rfl rfl (x_not rfl) rfl ?_;refine EL.val (x_pick_f rfl rfl) rfl ?_;refine EL.nil ?_;refine EX.seq ?_;refine EC.yes rfl ?_;refine EC.seq ?_;refine EC.region ?_;refine EL.val (x_assign rfl) rfl ?_;refine EL.nil ?_;refine EX.seq ?_;refine EC.ret ?_;refine EX.seq_ret ?_;have hres : rulesB ru = false := by unfold rulesB; simp [gg5]
      exact EX.done (res1 rfl rfl) ⟨by rw [← h, hres], hbw⟩
     ·
      refine EL.callg rfl rfl (cl_67 rfl rfl rfl) rfl (square_to gg5 (hr.below (hbw.mono hB)).apart (Nat.le_trans hB hbw.size) hs.p hs.n) ?_
      rintro e w9 ⟨rfl, hc9⟩
      refine ⟨_, rfl, ?_⟩;replace q1 := q1.below hc9 q1.lt;replace hbw := Below.on hbw hc9 hbw.size;clear hc9;refine EL.valg rfl rfl (x_not rfl) rfl ?_;refine EL.val (x_pick_f rfl rfl) rfl ?_;refine EL.nil ?_;refine EX.seq ?_;refine EC.no rfl ?_;refine EC.skip ?_;refine EX.seq ?_;refine EC.seq ?_;refine EC.seq ?_;refine EC.region ?_;refine EL.val (x_assign rfl) rfl ?_;refine EL.nil ?_;refine EX.seq ?_;refine EC.block ?_;refine EC.loopD [2, 4, 39, 40, 41, 42, 43, 44, 45, 46, 47, 48, 49, 50] (fun x : Nat => [(4, .int .i64 (x : Nat))]) (fun x W => x ≤ ru.levels.length ∧ (∀ i, i < x → inB 0 1000000 (ru.levels.getD i 0) = true) ∧ Blk W g1 28 #[.slice Al ru.levels.length cl, .int .i64 ru.fade.lo, .int .i64 ru.fade.hi, .slice Aa ru.allow.length ca, .slice Ap ru.apart.length cp, .slice Ak ru.kinds.length ck] ∧ Below w.heap.size w W) (fun x => ru.levels.length - x) 0 ⟨Nat.zero_le _, fun i hi => absurd hi (by omega), q1, hbw⟩ ⟨rfl, trivial⟩ ?_
      clear q1 hbw
      rintro i wx ⟨hi, hall, q1, hbw⟩
      by_cases hlt : i < ru.levels.length
      ·
       obtain ⟨bl, ol, el, _, hc0⟩ := ints_cells ru.levels i hlt wx B _ _ _ (hr.below (hbw.mono hB)).levels;refine EC.seq ?_;refine EC.seq ?_;refine EC.region ?_;refine EL.val (x_move rfl) rfl ?_;refine EL.val (x_move rfl) rfl ?_;refine EL.val (x_lss rfl rfl (decide_eq_true (show (((i : Nat) : Int) < ((ru.levels.length : Nat) : Int)) by omega))) rfl ?_
       refine EL.nil ?_;refine EX.seq ?_;refine EC.yes rfl ?_;refine EC.skip ?_;refine EX.seq ?_;refine EC.seq ?_;refine EC.block ?_;refine EC.seq ?_;refine EC.region ?_;refine EL.val (fa_28_0 rfl) rfl ?_;refine EL.val (ld_22 rfl (q1.at (j := 0) rfl)) rfl ?_;refine EL.val (x_move rfl) rfl ?_;refine EL.val (ix_22 (by show some (Value.slice Al _ _) = _; rw [el]) rfl hlt) rfl ?_
       refine EL.val (ld_3 rfl hc0) rfl ?_
       cases hin : inB 0 1000000 (ru.levels.getD i 0)
       ·
        refine EL.call (cl_56 rfl rfl rfl) rfl (in_to hin _) ?_
        rintro e w10 ⟨rfl, hc10⟩
        refine ⟨_, rfl, ?_⟩;replace q1 := q1.below hc10 q1.lt;replace hbw := Below.on hbw hc10 hbw.size;clear hc10;refine EL.val (x_not rfl) rfl ?_;refine EL.nil ?_;refine EX.seq ?_;refine EC.yes rfl ?_;refine EC.seq ?_;refine EC.region ?_;refine EL.val (x_assign rfl) rfl ?_;refine EL.nil ?_;refine EX.seq ?_;refine EC.ret ?_;refine EX.blk_ret ?_;refine EX.seq_ret ?_;refine EX.seq_ret ?_;refine EX.blk_ret ?_;refine EX.seq_ret ?_;have hres : rulesB ru = false := by exact Bool.eq_false_iff.2 fun e => by have := rules_lev e i hlt; rw [hin] at this; cases this
        exact EX.done (res1 rfl rfl) ⟨by rw [← h, hres], hbw⟩
       ·
        refine EL.call (cl_56 rfl rfl rfl) rfl (in_to hin _) ?_
        rintro e w11 ⟨rfl, hc11⟩
        refine ⟨_, rfl, ?_⟩;replace q1 := q1.below hc11 q1.lt;replace hbw := Below.on hbw hc11 hbw.size;clear hc11;refine EL.val (x_not rfl) rfl ?_;refine EL.nil ?_;refine EX.seq ?_;refine EC.no rfl ?_;refine EC.skip ?_;refine EX.blk ?_;refine EX.seq ?_;refine EC.region ?_;refine EL.val (x_move rfl) rfl ?_;refine EL.val (x_add rfl rfl (c := ((i + 1 : Nat) : Int)) ((IntWalk.i64_in _ ⟨by first | omega | (simp only; omega), by first | omega | (simp only; omega)⟩).trans (by first | omega | (simp only; omega)))) rfl ?_
        refine EL.val (x_assign rfl) rfl ?_;refine EL.nil ?_;refine EX.roundD (i + 1) ⟨rfl, trivial⟩ (by repeat first | with_reducible exact Sub.refl _ | refine sub_past rfl ?_ | exact Sub.refl _ | refine sub_del rfl ?_ | refine sub_insL_nil ?_) ⟨hlt, (fun j hj => by rcases Nat.lt_or_ge j i with h0 | h0; exact hall j h0; rw [show j = i by omega]; exact hin), q1, hbw⟩ (by omega)
      ·
       have hxe : i = ru.levels.length := by omega
       have gg6 : ru.levels.all (inB 0 1000000) = true := sq_row rfl (hxe ▸ hall);refine EC.seq ?_;refine EC.seq ?_;refine EC.region ?_;refine EL.val (x_move rfl) rfl ?_;refine EL.val (x_move rfl) rfl ?_;refine EL.val (x_lss rfl rfl (decide_eq_false (show ¬(((i : Nat) : Int) < ((ru.levels.length : Nat) : Int)) by omega))) rfl ?_
       refine EL.nil ?_;refine EX.seq ?_;refine EC.no rfl ?_;refine EC.exit ?_;refine EX.seq_exit ?_;refine EX.seq_exit ?_;refine EX.blk_here ?_;refine EX.seq ?_;refine EC.seq ?_;refine EC.seq ?_;refine EC.region ?_;refine EL.val (x_assign rfl) rfl ?_;refine EL.nil ?_;refine EX.seq ?_;refine EC.block ?_;refine EC.loopD [2, 5, 6, 51, 52, 53, 54, 55, 56, 57, 58, 59, 60, 61, 62, 63, 64, 65, 66, 67, 68, 69, 70, 71, 72, 73, 74, 75, 76, 77, 78, 79, 80, 81, 82, 83, 84] (fun x : Nat => [(5, .int .i64 (x : Nat))]) (fun x W => x ≤ ru.kinds.length ∧ (∀ i, i < x → kdB (ru.kinds.getD i kd0) = true) ∧ Blk W g1 28 #[.slice Al ru.levels.length cl, .int .i64 ru.fade.lo, .int .i64 ru.fade.hi, .slice Aa ru.allow.length ca, .slice Ap ru.apart.length cp, .slice Ak ru.kinds.length ck] ∧ Below w.heap.size w W) (fun x => ru.kinds.length - x) 0 ⟨Nat.zero_le _, fun i hi => absurd hi (by omega), q1, hbw⟩ ⟨rfl, trivial⟩ ?_
       clear q1 hbw
       rintro k wk ⟨hk, hallk, q1, hbw⟩
       by_cases hltk : k < ru.kinds.length
       ·
        obtain ⟨bk, ok, ek, _, hkd⟩ := kds_cells ru.kinds k hltk wk B _ _ _ (hr.below (hbw.mono hB)).kinds;obtain ⟨kd, ekd⟩ : ∃ z, z = ru.kinds.getD k kd0 := ⟨_, rfl⟩;rw [← ekd] at hkd;refine EC.seq ?_;refine EC.seq ?_;refine EC.region ?_;refine EL.val (x_move rfl) rfl ?_;refine EL.val (fa_28_4 rfl) rfl ?_;refine EL.val (ld_26 rfl (q1.at (j := 5) rfl)) rfl ?_;refine EL.val (ln_26 rfl) rfl ?_;refine EL.val (x_lss rfl rfl (decide_eq_true (show (((k : Nat) : Int) < ((ru.kinds.length : Nat) : Int)) by omega))) rfl ?_
        refine EL.nil ?_;refine EX.seq ?_;refine EC.yes rfl ?_;refine EC.skip ?_;refine EX.seq ?_;refine EC.seq ?_;refine EC.block ?_;refine EC.seq ?_;refine EC.region ?_;refine EL.val (fa_28_4 rfl) rfl ?_;refine EL.val (ld_26 rfl (q1.at (j := 5) rfl)) rfl ?_;refine EL.val (x_move rfl) rfl ?_;refine EL.val (ix_26 (by show some (Value.slice Ak _ _) = _; rw [ek]) rfl hltk) rfl ?_
        refine EL.val (ld_52 rfl hkd.c0 hkd.c1 hkd.c2 hkd.c3 hkd.c4) rfl ?_;refine EL.newP al_52 rfl ?_;intro g12 w12 q12 hb12 hg12 hl12;have n1_12 : g1 ≠ g12 := Nat.ne_of_lt (Nat.lt_of_lt_of_le q1.lt hg12);have bhbw_12 := Nat.le_trans hbw.size hg12;replace q1 := q1.below hb12 q1.lt;replace hbw := Below.on hbw hb12 hbw.size;clear hb12 hg12 hl12;refine EL.store rfl rfl q12 sz_52 rfl rfl rfl rfl ?_;intro w13 hq13 hg13;replace q1 := q1.grown hg13 (fun h => n1_12 (Option.some.inj h))
        replace hbw := below_store hbw hg13 bhbw_12;replace q12 := hq13;clear hg13 hq13;refine EL.nil ?_;refine EX.seq ?_;refine EC.seq ?_;refine EC.region ?_;refine EL.val (fa_52_0 rfl) rfl ?_;refine EL.val (ld_24 rfl (q12.at (j := 0) rfl) (q12.at (j := 1) rfl)) rfl ?_
        cases k1 : bdB kd.power
        ·
         refine EL.call (cl_66 rfl rfl) rfl (bounds_to k1 _) ?_
         rintro e w14 ⟨rfl, hc14⟩
         refine ⟨_, rfl, ?_⟩;replace q1 := q1.below hc14 q1.lt;replace q12 := q12.below hc14 q12.lt;replace hbw := Below.on hbw hc14 hbw.size;clear hc14;refine EL.val (x_not rfl) rfl ?_;refine EL.val (x_move rfl) rfl ?_;refine EL.skip rfl rfl rfl rfl ?_;refine EL.skip rfl rfl rfl rfl ?_;refine EL.skip rfl rfl rfl rfl ?_;refine EL.skip rfl rfl rfl rfl ?_;refine EL.val (x_pick_t rfl rfl) rfl ?_;refine EL.val (x_move rfl) rfl ?_;refine EL.skip rfl rfl rfl rfl ?_;refine EL.skip rfl rfl rfl rfl ?_;refine EL.skip rfl rfl rfl rfl ?_;refine EL.skip rfl rfl rfl rfl ?_;refine EL.val (x_pick_t rfl rfl) rfl ?_;refine EL.val (x_move rfl) rfl ?_;refine EL.skip rfl rfl rfl rfl ?_;refine EL.skip rfl rfl rfl rfl ?_;refine EL.skip rfl rfl rfl rfl ?_;refine EL.skip rfl rfl rfl rfl ?_;refine EL.val (x_pick_t rfl rfl) rfl ?_;refine EL.nil ?_;refine EX.seq ?_;refine EC.yes rfl ?_;refine EC.seq ?_;refine EC.region ?_;refine EL.val (x_assign rfl) rfl ?_;refine EL.nil ?_;refine EX.seq ?_;refine EC.ret ?_;refine EX.blk_ret ?_;refine EX.seq_ret ?_;refine EX.seq_ret ?_;refine EX.blk_ret ?_;refine EX.seq_ret ?_;have hres : rulesB ru = false := by exact Bool.eq_false_iff.2 fun e => by have := rules_kd e k hltk; rw [← ekd] at this; simp_all [kdB]
         exact EX.done (res1 rfl rfl) ⟨by rw [← h, hres], hbw⟩
        ·
         refine EL.call (cl_66 rfl rfl) rfl (bounds_to k1 _) ?_
         rintro e w15 ⟨rfl, hc15⟩
         refine ⟨_, rfl, ?_⟩;replace q1 := q1.below hc15 q1.lt;replace q12 := q12.below hc15 q12.lt;replace hbw := Below.on hbw hc15 hbw.size;clear hc15;refine EL.val (x_not rfl) rfl ?_;refine EL.val (x_move rfl) rfl ?_;refine EL.valg rfl rfl (fa_52_1 rfl) rfl ?_;refine EL.valg rfl rfl (ld_3 rfl (q12.at (j := 2) rfl)) rfl ?_
         cases k2 : inB 0 10000 kd.mins
         ·
          refine EL.callg rfl rfl (cl_56 rfl rfl rfl) rfl (in_to k2 _) ?_
          rintro e w16 ⟨rfl, hc16⟩
          refine ⟨_, rfl, ?_⟩;replace q1 := q1.below hc16 q1.lt;replace q12 := q12.below hc16 q12.lt;replace hbw := Below.on hbw hc16 hbw.size;clear hc16;refine EL.valg rfl rfl (x_not rfl) rfl ?_;refine EL.val (x_pick_f rfl rfl) rfl ?_;refine EL.val (x_move rfl) rfl ?_;refine EL.skip rfl rfl rfl rfl ?_;refine EL.skip rfl rfl rfl rfl ?_;refine EL.skip rfl rfl rfl rfl ?_;refine EL.skip rfl rfl rfl rfl ?_;refine EL.val (x_pick_t rfl rfl) rfl ?_;refine EL.val (x_move rfl) rfl ?_;refine EL.skip rfl rfl rfl rfl ?_;refine EL.skip rfl rfl rfl rfl ?_;refine EL.skip rfl rfl rfl rfl ?_;refine EL.skip rfl rfl rfl rfl ?_;refine EL.val (x_pick_t rfl rfl) rfl ?_;refine EL.nil ?_;refine EX.seq ?_;refine EC.yes rfl ?_;refine EC.seq ?_;refine EC.region ?_;refine EL.val (x_assign rfl) rfl ?_;refine EL.nil ?_;refine EX.seq ?_;refine EC.ret ?_;refine EX.blk_ret ?_;refine EX.seq_ret ?_;refine EX.seq_ret ?_;refine EX.blk_ret ?_;refine EX.seq_ret ?_;have hres : rulesB ru = false := by exact Bool.eq_false_iff.2 fun e => by have := rules_kd e k hltk; rw [← ekd] at this; simp_all [kdB]
          exact EX.done (res1 rfl rfl) ⟨by rw [← h, hres], hbw⟩
         ·
          refine EL.callg rfl rfl (cl_56 rfl rfl rfl) rfl (in_to k2 _) ?_
          rintro e w17 ⟨rfl, hc17⟩
          refine ⟨_, rfl, ?_⟩;replace q1 := q1.below hc17 q1.lt;replace q12 := q12.below hc17 q12.lt;replace hbw := Below.on hbw hc17 hbw.size;clear hc17;refine EL.valg rfl rfl (x_not rfl) rfl ?_;refine EL.val (x_pick_f rfl rfl) rfl ?_;refine EL.val (x_move rfl) rfl ?_;refine EL.valg rfl rfl (fa_52_2 rfl) rfl ?_;refine EL.valg rfl rfl (ld_3 rfl (q12.at (j := 3) rfl)) rfl ?_
          cases k3 : inB 0 10000 kd.water
          ·
           refine EL.callg rfl rfl (cl_56 rfl rfl rfl) rfl (in_to k3 _) ?_
           rintro e w18 ⟨rfl, hc18⟩
           refine ⟨_, rfl, ?_⟩;replace q1 := q1.below hc18 q1.lt;replace q12 := q12.below hc18 q12.lt;replace hbw := Below.on hbw hc18 hbw.size;clear hc18;refine EL.valg rfl rfl (x_not rfl) rfl ?_;refine EL.val (x_pick_f rfl rfl) rfl ?_;refine EL.val (x_move rfl) rfl ?_;refine EL.skip rfl rfl rfl rfl ?_;refine EL.skip rfl rfl rfl rfl ?_;refine EL.skip rfl rfl rfl rfl ?_;refine EL.skip rfl rfl rfl rfl ?_;refine EL.val (x_pick_t rfl rfl) rfl ?_;refine EL.nil ?_;refine EX.seq ?_;refine EC.yes rfl ?_;refine EC.seq ?_;refine EC.region ?_;refine EL.val (x_assign rfl) rfl ?_;refine EL.nil ?_;refine EX.seq ?_;refine EC.ret ?_;refine EX.blk_ret ?_;refine EX.seq_ret ?_;refine EX.seq_ret ?_;refine EX.blk_ret ?_;refine EX.seq_ret ?_;have hres : rulesB ru = false := by exact Bool.eq_false_iff.2 fun e => by have := rules_kd e k hltk; rw [← ekd] at this; simp_all [kdB]
           exact EX.done (res1 rfl rfl) ⟨by rw [← h, hres], hbw⟩
          ·
           refine EL.callg rfl rfl (cl_56 rfl rfl rfl) rfl (in_to k3 _) ?_
           rintro e w19 ⟨rfl, hc19⟩
           refine ⟨_, rfl, ?_⟩;replace q1 := q1.below hc19 q1.lt;replace q12 := q12.below hc19 q12.lt;replace hbw := Below.on hbw hc19 hbw.size;clear hc19;refine EL.valg rfl rfl (x_not rfl) rfl ?_;refine EL.val (x_pick_f rfl rfl) rfl ?_;refine EL.val (x_move rfl) rfl ?_;refine EL.valg rfl rfl (fa_52_3 rfl) rfl ?_;refine EL.valg rfl rfl (ld_3 rfl (q12.at (j := 4) rfl)) rfl ?_
           cases k4 : inB 0 100000000 kd.cost
           ·
            refine EL.callg rfl rfl (cl_56 rfl rfl rfl) rfl (in_to k4 _) ?_
            rintro e w20 ⟨rfl, hc20⟩
            refine ⟨_, rfl, ?_⟩;replace q1 := q1.below hc20 q1.lt;replace q12 := q12.below hc20 q12.lt;replace hbw := Below.on hbw hc20 hbw.size;clear hc20;refine EL.valg rfl rfl (x_not rfl) rfl ?_;refine EL.val (x_pick_f rfl rfl) rfl ?_;refine EL.nil ?_;refine EX.seq ?_;refine EC.yes rfl ?_;refine EC.seq ?_;refine EC.region ?_;refine EL.val (x_assign rfl) rfl ?_;refine EL.nil ?_;refine EX.seq ?_;refine EC.ret ?_;refine EX.blk_ret ?_;refine EX.seq_ret ?_;refine EX.seq_ret ?_;refine EX.blk_ret ?_;refine EX.seq_ret ?_;have hres : rulesB ru = false := by exact Bool.eq_false_iff.2 fun e => by have := rules_kd e k hltk; rw [← ekd] at this; simp_all [kdB]
            exact EX.done (res1 rfl rfl) ⟨by rw [← h, hres], hbw⟩
           ·
            refine EL.callg rfl rfl (cl_56 rfl rfl rfl) rfl (in_to k4 _) ?_
            rintro e w21 ⟨rfl, hc21⟩
            refine ⟨_, rfl, ?_⟩;replace q1 := q1.below hc21 q1.lt;replace q12 := q12.below hc21 q12.lt;replace hbw := Below.on hbw hc21 hbw.size;clear hc21;refine EL.valg rfl rfl (x_not rfl) rfl ?_;refine EL.val (x_pick_f rfl rfl) rfl ?_;refine EL.nil ?_;refine EX.seq ?_;refine EC.no rfl ?_;refine EC.skip ?_;refine EX.blk ?_;refine EX.seq ?_;refine EC.region ?_;refine EL.val (x_move rfl) rfl ?_;refine EL.val (x_add rfl rfl (c := ((k + 1 : Nat) : Int)) ((IntWalk.i64_in _ ⟨by first | omega | (simp only; omega), by first | omega | (simp only; omega)⟩).trans (by first | omega | (simp only; omega)))) rfl ?_
            refine EL.val (x_assign rfl) rfl ?_;refine EL.nil ?_;refine EX.roundD (k + 1) ⟨rfl, trivial⟩ (by repeat first | with_reducible exact Sub.refl _ | refine sub_past rfl ?_ | exact Sub.refl _ | refine sub_del rfl ?_ | refine sub_insL_nil ?_) ⟨hltk, (fun j hj => by rcases Nat.lt_or_ge j k with h0 | h0; exact hallk j h0; rw [show j = k by omega, ← ekd]; simp [kdB, k1, k2, k3, k4]), q1, hbw⟩ (by omega)
       ·
        have hxk : k = ru.kinds.length := by omega
        have gg7 : ru.kinds.all kdB = true := all_idx (hxk ▸ hallk);refine EC.seq ?_;refine EC.seq ?_;refine EC.region ?_;refine EL.val (x_move rfl) rfl ?_;refine EL.val (fa_28_4 rfl) rfl ?_;refine EL.val (ld_26 rfl (q1.at (j := 5) rfl)) rfl ?_;refine EL.val (ln_26 rfl) rfl ?_;refine EL.val (x_lss rfl rfl (decide_eq_false (show ¬(((k : Nat) : Int) < ((ru.kinds.length : Nat) : Int)) by omega))) rfl ?_
        refine EL.nil ?_;refine EX.seq ?_;refine EC.no rfl ?_;refine EC.exit ?_;refine EX.seq_exit ?_;refine EX.seq_exit ?_;refine EX.blk_here ?_;refine EX.seq ?_;refine EC.seq ?_;refine EC.region ?_;refine EL.val (x_assign rfl) rfl ?_;refine EL.nil ?_;refine EX.seq ?_;refine EC.ret ?_;have hres : rulesB ru = true := by unfold rulesB; simp [gg1, gg2, gg3, gg4, gg5, gg6, gg7]
        exact EX.done (res1 rfl rfl) ⟨by rw [← h, hres], hbw⟩
  ·
   refine EL.valg rfl rfl (x_gtr (r := true) rfl rfl (decide_eq_true (by omega))) rfl ?_
   refine EL.val (x_pick_f rfl rfl) rfl ?_;refine EL.val (x_move rfl) rfl ?_;refine EL.skip rfl rfl rfl rfl ?_;refine EL.skip rfl rfl rfl rfl ?_;refine EL.skip rfl rfl rfl rfl ?_;refine EL.skip rfl rfl rfl rfl ?_;refine EL.val (x_pick_t rfl rfl) rfl ?_;refine EL.val (x_move rfl) rfl ?_;refine EL.skip rfl rfl rfl rfl ?_;refine EL.skip rfl rfl rfl rfl ?_;refine EL.skip rfl rfl rfl rfl ?_;refine EL.skip rfl rfl rfl rfl ?_;refine EL.skip rfl rfl rfl rfl ?_;refine EL.val (x_pick_t rfl rfl) rfl ?_;refine EL.val (x_move rfl) rfl ?_;refine EL.skip rfl rfl rfl rfl ?_;refine EL.skip rfl rfl rfl rfl ?_;refine EL.skip rfl rfl rfl rfl ?_;refine EL.skip rfl rfl rfl rfl ?_;refine EL.skip rfl rfl rfl rfl ?_;refine EL.val (x_pick_t rfl rfl) rfl ?_;refine EL.nil ?_;refine EX.seq ?_;refine EC.yes rfl ?_;refine EC.seq ?_;refine EC.region ?_;refine EL.val (x_assign rfl) rfl ?_;refine EL.nil ?_;refine EX.seq ?_;refine EC.ret ?_;refine EX.seq_ret ?_;have hres : rulesB ru = false := by unfold rulesB; simp [gg2]
   exact EX.done (res1 rfl rfl) ⟨by rw [← h, hres], hbw⟩
set_option maxHeartbeats 1000000 in
theorem History_any {ru : Rules} {ua up : List Value} {vl va vp vk : Value} {w : World} {B : Nat} (hr : RdRules w B vl va vp vk ru ua up) (hB : B ≤ w.heap.size) (hs : Short ru) {l : List Ev} {v : Value} (hl : Rd w B 2 v l.length (evsC l)) (hn : l.length ≤ 1048576) :
  Calls Try.prog 53 #[rulesV vl va vp vk ru, v] w fun e w' => e = .returned (.int .i64 (histE ru l)) ∧ Below w.heap.size w w' := by
 have hs_ := hs;obtain ⟨Al, cl, rfl, _⟩ := hr.levels.shape;obtain ⟨Aa, ca, rfl, _⟩ := hr.allow.rd.shape;obtain ⟨Ap, cp, rfl, _⟩ := hr.apart.rd.shape;obtain ⟨Ak, ck, rfl, _⟩ := hr.kinds.shape;obtain ⟨Ae, ce, rfl, _⟩ := hl.shape;obtain ⟨z1, z2, z3, z4⟩ := hs_;have hbw := Below.refl w.heap.size w
 unfold rulesV
 refine EC.enter 55 Try.func53 rfl rfl rfl ?_;refine EC.seq ?_;refine EC.region ?_;refine EL.newP (bx_28 rfl) rfl ?_;intro g1 w1 q1 hb1 hg1 hl1;have bhbw_1 := Nat.le_trans hbw.size hg1;replace hbw := Below.on hbw hb1 hbw.size;clear hb1 hg1 hl1;refine EL.val (x_assign rfl) rfl ?_;refine EL.nil ?_;refine EX.seq ?_;refine EC.seq ?_;refine EC.seq ?_;refine EC.region ?_;refine EL.val (x_move rfl) rfl ?_;refine EL.val (ln_29 rfl) rfl ?_
 by_cases hl100 : 100 < l.length
 ·
  refine EL.val (x_gtr (r := true) rfl rfl (decide_eq_true (by omega))) rfl ?_
  refine EL.nil ?_;refine EX.seq ?_;refine EC.yes rfl ?_;refine EC.seq ?_;refine EC.region ?_;refine EL.val (x_assign rfl) rfl ?_;refine EL.nil ?_;refine EX.seq ?_;refine EC.ret ?_;refine EX.seq_ret ?_;have hres : histE ru l = 5 := by unfold histE; rw [if_pos hl100]
  exact EX.done (res1 rfl rfl) ⟨by rw [hres], hbw⟩
 ·
  refine EL.val (x_gtr (r := false) rfl rfl (decide_eq_false (by omega))) rfl ?_
  refine EL.nil ?_;refine EX.seq ?_;refine EC.no rfl ?_;refine EC.skip ?_;refine EX.seq ?_;refine EC.seq ?_;refine EC.seq ?_;refine EC.region ?_;refine EL.val (x_assign rfl) rfl ?_;refine EL.nil ?_;refine EX.seq ?_;refine EC.block ?_;refine EC.loopD [4, 5, 9, 10, 11, 12, 13, 14, 15, 16, 17, 18, 19, 20, 21, 22, 23, 24, 25, 26, 27, 28, 29, 30, 31, 32, 33, 34, 35, 36, 37, 38, 39, 40, 41, 42, 43, 44, 45, 46, 47, 48, 49, 50, 51, 52, 53, 54] (fun x : Nat => [(5, .int .i64 (x : Nat))]) (fun x W => x ≤ l.length ∧ (∀ i, i < x → evB ru (l.getD i ev0) = true) ∧ Blk W g1 28 #[.slice Al ru.levels.length cl, .int .i64 ru.fade.lo, .int .i64 ru.fade.hi, .slice Aa ru.allow.length ca, .slice Ap ru.apart.length cp, .slice Ak ru.kinds.length ck] ∧ Below w.heap.size w W) (fun x => l.length - x) 0 ⟨Nat.zero_le _, fun i hi => absurd hi (by omega), q1, hbw⟩ ⟨rfl, trivial⟩ ?_
  clear q1 hbw
  rintro i wx ⟨hi, hall, q1, hbw⟩
  by_cases hlt : i < l.length
  ·
   obtain ⟨be, oe, ee, _, c0, c1⟩ := evs_cells l i hlt wx B _ _ _ (hl.below (hbw.mono hB))
   cases ee
   obtain ⟨ev, eev⟩ : ∃ z, z = l.getD i ev0 := ⟨_, rfl⟩;rw [← eev] at c0 c1
   by_cases k1 : ev.kind = 1
   ·
    cases h1 : inB 0 ((ru.levels.length : Nat) - 1 : Int) ev.number
    ·
     refine EC.seq ?_;refine EC.seq ?_;refine EC.region ?_;refine EL.val (x_move rfl) rfl ?_;refine EL.val (x_move rfl) rfl ?_;refine EL.val (ln_29 rfl) rfl ?_;refine EL.val (x_lss rfl rfl (decide_eq_true (show (((i : Nat) : Int) < ((l.length : Nat) : Int)) by omega))) rfl ?_
     refine EL.nil ?_;refine EX.seq ?_;refine EC.yes rfl ?_;refine EC.skip ?_;refine EX.seq ?_;refine EC.seq ?_;refine EC.block ?_;refine EC.seq ?_;refine EC.regionQ (by kernel_rfl) (by kernel_rfl) ?_
     refine EQ.val (fun _ hw => (x_move rfl)) rfl ?_
     refine EQ.val (fun _ hw => (x_move rfl)) rfl ?_
     refine EQ.val (fun _ hw => (ix_29 rfl rfl hlt)) rfl ?_
     refine EQ.val (fun _ hw => (fa_50_0 rfl)) rfl ?_
     refine EQ.val (fun _ hw => (ld_48 rfl (below_load hw c0))) rfl ?_
     refine EQ.val (fun _ hw => (x_eql (r := true) rfl rfl (decide_eq_true k1))) rfl ?_
     refine EQ.val (fun _ hw => (x_move rfl)) rfl ?_
     refine EQ.valg rfl rfl (fun _ hw => (x_move rfl)) rfl ?_
     refine EQ.valg rfl rfl (fun _ hw => (x_move rfl)) rfl ?_
     refine EQ.valg rfl rfl (fun _ hw => (ix_29 rfl rfl hlt)) rfl ?_
     refine EQ.valg rfl rfl (fun _ hw => (fa_50_1 rfl)) rfl ?_
     refine EQ.valg rfl rfl (fun _ hw => (ld_3 rfl (below_load hw c1))) rfl ?_
     refine EQ.valg rfl rfl (fun _ hw => (fa_28_0 rfl)) rfl ?_
     refine EQ.valg rfl rfl (fun _ hw => (ld_22 rfl (below_load hw (q1.at (j := 0) rfl)))) rfl ?_
     refine EQ.valg rfl rfl (fun _ hw => (ln_22 rfl)) rfl ?_
     refine EQ.valg rfl rfl (fun _ hw => (x_sub rfl rfl (c := (ru.levels.length : Nat) - 1) (IntWalk.i64_in _ ⟨by omega, by omega⟩))) rfl ?_
     refine EQ.callg rfl rfl (fun _ _ _ ha => cl_56 rfl rfl rfl _ ha) rfl (fun W hw => (in_to h1 W).mono fun e w' h => ⟨h.1, hw.trans (h.2.mono hw.size)⟩) ?_
     refine EQ.val (fun _ hw => (x_pick_t rfl rfl)) rfl ?_
     refine EQ.val (fun _ hw => (x_not rfl)) rfl ?_
     refine EQ.val (fun _ hw => (x_move rfl)) rfl ?_
     refine EQ.valg rfl rfl (fun _ hw => (x_move rfl)) rfl ?_
     refine EQ.valg rfl rfl (fun _ hw => (x_move rfl)) rfl ?_
     refine EQ.valg rfl rfl (fun _ hw => (ix_29 rfl rfl hlt)) rfl ?_
     refine EQ.valg rfl rfl (fun _ hw => (fa_50_0 rfl)) rfl ?_
     refine EQ.valg rfl rfl (fun _ hw => (ld_48 rfl (below_load hw c0))) rfl ?_
     refine EQ.valg rfl rfl (fun _ hw => (x_eql (r := false) rfl rfl (decide_eq_false (by omega)))) rfl ?_
     refine EQ.valg rfl rfl (fun _ hw => (x_move rfl)) rfl ?_
     refine EQ.skip rfl rfl rfl rfl ?_;refine EQ.skip rfl rfl rfl rfl ?_;refine EQ.skip rfl rfl rfl rfl ?_;refine EQ.skip rfl rfl rfl rfl ?_;refine EQ.skip rfl rfl rfl rfl ?_;refine EQ.skip rfl rfl rfl rfl ?_;refine EQ.skip rfl rfl rfl rfl ?_;refine EQ.skip rfl rfl rfl rfl ?_;refine EQ.skip rfl rfl rfl rfl ?_;refine EQ.skip rfl rfl rfl rfl ?_;refine EQ.valg rfl rfl (fun _ hw => (x_pick_f rfl rfl)) rfl ?_
     refine EQ.valg rfl rfl (fun _ hw => (x_not rfl)) rfl ?_
     refine EQ.val (fun _ hw => (x_pick_t rfl rfl)) rfl ?_
     refine EQ.fin (fun w2 hw_ => ?_)
     replace q1 := q1.below hw_ q1.lt;replace hbw := Below.on hbw hw_ hbw.size;clear hw_;refine EX.seq ?_;refine EC.yes rfl ?_;refine EC.seq ?_;refine EC.region ?_;refine EL.val (x_assign rfl) rfl ?_;refine EL.nil ?_;refine EX.seq ?_;refine EC.ret ?_;refine EX.blk_ret ?_;refine EX.seq_ret ?_;refine EX.seq_ret ?_;refine EX.blk_ret ?_;refine EX.seq_ret ?_;have hres : histE ru l = 2 := by unfold histE; rw [if_neg hl100, if_neg (fun ha => by have e := List.all_eq_true.1 ha ev (by rw [eev, getD_in hlt]; exact List.getElem_mem _); unfold evB at e; rw [h1] at e; simp at e; omega)]
     exact EX.done (res1 rfl rfl) ⟨by rw [hres], hbw⟩
    ·
     refine EC.seq ?_;refine EC.seq ?_;refine EC.region ?_;refine EL.val (x_move rfl) rfl ?_;refine EL.val (x_move rfl) rfl ?_;refine EL.val (ln_29 rfl) rfl ?_;refine EL.val (x_lss rfl rfl (decide_eq_true (show (((i : Nat) : Int) < ((l.length : Nat) : Int)) by omega))) rfl ?_
     refine EL.nil ?_;refine EX.seq ?_;refine EC.yes rfl ?_;refine EC.skip ?_;refine EX.seq ?_;refine EC.seq ?_;refine EC.block ?_;refine EC.seq ?_;refine EC.regionQ (by kernel_rfl) (by kernel_rfl) ?_
     refine EQ.val (fun _ hw => (x_move rfl)) rfl ?_
     refine EQ.val (fun _ hw => (x_move rfl)) rfl ?_
     refine EQ.val (fun _ hw => (ix_29 rfl rfl hlt)) rfl ?_
     refine EQ.val (fun _ hw => (fa_50_0 rfl)) rfl ?_
     refine EQ.val (fun _ hw => (ld_48 rfl (below_load hw c0))) rfl ?_
     refine EQ.val (fun _ hw => (x_eql (r := true) rfl rfl (decide_eq_true k1))) rfl ?_
     refine EQ.val (fun _ hw => (x_move rfl)) rfl ?_
     refine EQ.valg rfl rfl (fun _ hw => (x_move rfl)) rfl ?_
     refine EQ.valg rfl rfl (fun _ hw => (x_move rfl)) rfl ?_
     refine EQ.valg rfl rfl (fun _ hw => (ix_29 rfl rfl hlt)) rfl ?_
     refine EQ.valg rfl rfl (fun _ hw => (fa_50_1 rfl)) rfl ?_
     refine EQ.valg rfl rfl (fun _ hw => (ld_3 rfl (below_load hw c1))) rfl ?_
     refine EQ.valg rfl rfl (fun _ hw => (fa_28_0 rfl)) rfl ?_
     refine EQ.valg rfl rfl (fun _ hw => (ld_22 rfl (below_load hw (q1.at (j := 0) rfl)))) rfl ?_
     refine EQ.valg rfl rfl (fun _ hw => (ln_22 rfl)) rfl ?_
     refine EQ.valg rfl rfl (fun _ hw => (x_sub rfl rfl (c := (ru.levels.length : Nat) - 1) (IntWalk.i64_in _ ⟨by omega, by omega⟩))) rfl ?_
     refine EQ.callg rfl rfl (fun _ _ _ ha => cl_56 rfl rfl rfl _ ha) rfl (fun W hw => (in_to h1 W).mono fun e w' h => ⟨h.1, hw.trans (h.2.mono hw.size)⟩) ?_
     refine EQ.val (fun _ hw => (x_pick_t rfl rfl)) rfl ?_
     refine EQ.val (fun _ hw => (x_not rfl)) rfl ?_
     refine EQ.val (fun _ hw => (x_move rfl)) rfl ?_
     refine EQ.skip rfl rfl rfl rfl ?_;refine EQ.skip rfl rfl rfl rfl ?_;refine EQ.skip rfl rfl rfl rfl ?_;refine EQ.skip rfl rfl rfl rfl ?_;refine EQ.skip rfl rfl rfl rfl ?_;refine EQ.skip rfl rfl rfl rfl ?_;refine EQ.skip rfl rfl rfl rfl ?_;refine EQ.skip rfl rfl rfl rfl ?_;refine EQ.skip rfl rfl rfl rfl ?_;refine EQ.skip rfl rfl rfl rfl ?_;refine EQ.skip rfl rfl rfl rfl ?_;refine EQ.skip rfl rfl rfl rfl ?_;refine EQ.skip rfl rfl rfl rfl ?_;refine EQ.skip rfl rfl rfl rfl ?_;refine EQ.skip rfl rfl rfl rfl ?_;refine EQ.skip rfl rfl rfl rfl ?_;refine EQ.skip rfl rfl rfl rfl ?_;refine EQ.skip rfl rfl rfl rfl ?_;refine EQ.skip rfl rfl rfl rfl ?_;refine EQ.val (fun _ hw => (x_pick_f rfl rfl)) rfl ?_
     refine EQ.fin (fun w3 hw_ => ?_)
     replace q1 := q1.below hw_ q1.lt;replace hbw := Below.on hbw hw_ hbw.size;clear hw_;refine EX.seq ?_;refine EC.no rfl ?_;refine EC.skip ?_;refine EX.blk ?_;refine EX.seq ?_;refine EC.region ?_;refine EL.val (x_move rfl) rfl ?_;refine EL.val (x_add rfl rfl (c := ((i + 1 : Nat) : Int)) ((IntWalk.i64_in _ ⟨by first | omega | (simp only; omega), by first | omega | (simp only; omega)⟩).trans (by first | omega | (simp only; omega)))) rfl ?_
     refine EL.val (x_assign rfl) rfl ?_;refine EL.nil ?_;have hev : evB ru ev = true := by unfold evB; rw [h1, decide_eq_true k1]; rfl
     refine EX.roundD (i + 1) ⟨rfl, trivial⟩ (by repeat first | with_reducible exact Sub.refl _ | refine sub_past rfl ?_ | exact Sub.refl _ | refine sub_del rfl ?_ | refine sub_insL_nil ?_) ⟨hlt, (fun j hj => by rcases Nat.lt_or_ge j i with h0 | h0; exact hall j h0; rw [show j = i by omega, ← eev]; exact hev), q1, hbw⟩ (by omega)
   ·
    by_cases k2 : ev.kind = 2
    ·
     cases h2 : inB 0 ((ru.kinds.length : Nat) - 1 : Int) ev.number
     ·
      refine EC.seq ?_;refine EC.seq ?_;refine EC.region ?_;refine EL.val (x_move rfl) rfl ?_;refine EL.val (x_move rfl) rfl ?_;refine EL.val (ln_29 rfl) rfl ?_;refine EL.val (x_lss rfl rfl (decide_eq_true (show (((i : Nat) : Int) < ((l.length : Nat) : Int)) by omega))) rfl ?_
      refine EL.nil ?_;refine EX.seq ?_;refine EC.yes rfl ?_;refine EC.skip ?_;refine EX.seq ?_;refine EC.seq ?_;refine EC.block ?_;refine EC.seq ?_;refine EC.regionQ (by kernel_rfl) (by kernel_rfl) ?_
      refine EQ.val (fun _ hw => (x_move rfl)) rfl ?_
      refine EQ.val (fun _ hw => (x_move rfl)) rfl ?_
      refine EQ.val (fun _ hw => (ix_29 rfl rfl hlt)) rfl ?_
      refine EQ.val (fun _ hw => (fa_50_0 rfl)) rfl ?_
      refine EQ.val (fun _ hw => (ld_48 rfl (below_load hw c0))) rfl ?_
      refine EQ.val (fun _ hw => (x_eql (r := false) rfl rfl (decide_eq_false k1))) rfl ?_
      refine EQ.val (fun _ hw => (x_move rfl)) rfl ?_
      refine EQ.skip rfl rfl rfl rfl ?_;refine EQ.skip rfl rfl rfl rfl ?_;refine EQ.skip rfl rfl rfl rfl ?_;refine EQ.skip rfl rfl rfl rfl ?_;refine EQ.skip rfl rfl rfl rfl ?_;refine EQ.skip rfl rfl rfl rfl ?_;refine EQ.skip rfl rfl rfl rfl ?_;refine EQ.skip rfl rfl rfl rfl ?_;refine EQ.skip rfl rfl rfl rfl ?_;refine EQ.skip rfl rfl rfl rfl ?_;refine EQ.val (fun _ hw => (x_pick_f rfl rfl)) rfl ?_
      refine EQ.val (fun _ hw => (x_not rfl)) rfl ?_
      refine EQ.val (fun _ hw => (x_move rfl)) rfl ?_
      refine EQ.valg rfl rfl (fun _ hw => (x_move rfl)) rfl ?_
      refine EQ.valg rfl rfl (fun _ hw => (x_move rfl)) rfl ?_
      refine EQ.valg rfl rfl (fun _ hw => (ix_29 rfl rfl hlt)) rfl ?_
      refine EQ.valg rfl rfl (fun _ hw => (fa_50_0 rfl)) rfl ?_
      refine EQ.valg rfl rfl (fun _ hw => (ld_48 rfl (below_load hw c0))) rfl ?_
      refine EQ.valg rfl rfl (fun _ hw => (x_eql (r := true) rfl rfl (decide_eq_true k2))) rfl ?_
      refine EQ.valg rfl rfl (fun _ hw => (x_move rfl)) rfl ?_
      refine EQ.valg rfl rfl (fun _ hw => (x_move rfl)) rfl ?_
      refine EQ.valg rfl rfl (fun _ hw => (x_move rfl)) rfl ?_
      refine EQ.valg rfl rfl (fun _ hw => (ix_29 rfl rfl hlt)) rfl ?_
      refine EQ.valg rfl rfl (fun _ hw => (fa_50_1 rfl)) rfl ?_
      refine EQ.valg rfl rfl (fun _ hw => (ld_3 rfl (below_load hw c1))) rfl ?_
      refine EQ.valg rfl rfl (fun _ hw => (fa_28_4 rfl)) rfl ?_
      refine EQ.valg rfl rfl (fun _ hw => (ld_26 rfl (below_load hw (q1.at (j := 5) rfl)))) rfl ?_
      refine EQ.valg rfl rfl (fun _ hw => (ln_26 rfl)) rfl ?_
      refine EQ.valg rfl rfl (fun _ hw => (x_sub rfl rfl (c := (ru.kinds.length : Nat) - 1) (IntWalk.i64_in _ ⟨by omega, by omega⟩))) rfl ?_
      refine EQ.callg rfl rfl (fun _ _ _ ha => cl_56 rfl rfl rfl _ ha) rfl (fun W hw => (in_to h2 W).mono fun e w' h => ⟨h.1, hw.trans (h.2.mono hw.size)⟩) ?_
      refine EQ.valg rfl rfl (fun _ hw => (x_pick_t rfl rfl)) rfl ?_
      refine EQ.valg rfl rfl (fun _ hw => (x_not rfl)) rfl ?_
      refine EQ.val (fun _ hw => (x_pick_t rfl rfl)) rfl ?_
      refine EQ.fin (fun w4 hw_ => ?_)
      replace q1 := q1.below hw_ q1.lt;replace hbw := Below.on hbw hw_ hbw.size;clear hw_;refine EX.seq ?_;refine EC.yes rfl ?_;refine EC.seq ?_;refine EC.region ?_;refine EL.val (x_assign rfl) rfl ?_;refine EL.nil ?_;refine EX.seq ?_;refine EC.ret ?_;refine EX.blk_ret ?_;refine EX.seq_ret ?_;refine EX.seq_ret ?_;refine EX.blk_ret ?_;refine EX.seq_ret ?_;have hres : histE ru l = 2 := by unfold histE; rw [if_neg hl100, if_neg (fun ha => by have e := List.all_eq_true.1 ha ev (by rw [eev, getD_in hlt]; exact List.getElem_mem _); unfold evB at e; rw [h2] at e; simp at e; omega)]
      exact EX.done (res1 rfl rfl) ⟨by rw [hres], hbw⟩
     ·
      refine EC.seq ?_;refine EC.seq ?_;refine EC.region ?_;refine EL.val (x_move rfl) rfl ?_;refine EL.val (x_move rfl) rfl ?_;refine EL.val (ln_29 rfl) rfl ?_;refine EL.val (x_lss rfl rfl (decide_eq_true (show (((i : Nat) : Int) < ((l.length : Nat) : Int)) by omega))) rfl ?_
      refine EL.nil ?_;refine EX.seq ?_;refine EC.yes rfl ?_;refine EC.skip ?_;refine EX.seq ?_;refine EC.seq ?_;refine EC.block ?_;refine EC.seq ?_;refine EC.regionQ (by kernel_rfl) (by kernel_rfl) ?_
      refine EQ.val (fun _ hw => (x_move rfl)) rfl ?_
      refine EQ.val (fun _ hw => (x_move rfl)) rfl ?_
      refine EQ.val (fun _ hw => (ix_29 rfl rfl hlt)) rfl ?_
      refine EQ.val (fun _ hw => (fa_50_0 rfl)) rfl ?_
      refine EQ.val (fun _ hw => (ld_48 rfl (below_load hw c0))) rfl ?_
      refine EQ.val (fun _ hw => (x_eql (r := false) rfl rfl (decide_eq_false k1))) rfl ?_
      refine EQ.val (fun _ hw => (x_move rfl)) rfl ?_
      refine EQ.skip rfl rfl rfl rfl ?_;refine EQ.skip rfl rfl rfl rfl ?_;refine EQ.skip rfl rfl rfl rfl ?_;refine EQ.skip rfl rfl rfl rfl ?_;refine EQ.skip rfl rfl rfl rfl ?_;refine EQ.skip rfl rfl rfl rfl ?_;refine EQ.skip rfl rfl rfl rfl ?_;refine EQ.skip rfl rfl rfl rfl ?_;refine EQ.skip rfl rfl rfl rfl ?_;refine EQ.skip rfl rfl rfl rfl ?_;refine EQ.val (fun _ hw => (x_pick_f rfl rfl)) rfl ?_
      refine EQ.val (fun _ hw => (x_not rfl)) rfl ?_
      refine EQ.val (fun _ hw => (x_move rfl)) rfl ?_
      refine EQ.valg rfl rfl (fun _ hw => (x_move rfl)) rfl ?_
      refine EQ.valg rfl rfl (fun _ hw => (x_move rfl)) rfl ?_
      refine EQ.valg rfl rfl (fun _ hw => (ix_29 rfl rfl hlt)) rfl ?_
      refine EQ.valg rfl rfl (fun _ hw => (fa_50_0 rfl)) rfl ?_
      refine EQ.valg rfl rfl (fun _ hw => (ld_48 rfl (below_load hw c0))) rfl ?_
      refine EQ.valg rfl rfl (fun _ hw => (x_eql (r := true) rfl rfl (decide_eq_true k2))) rfl ?_
      refine EQ.valg rfl rfl (fun _ hw => (x_move rfl)) rfl ?_
      refine EQ.valg rfl rfl (fun _ hw => (x_move rfl)) rfl ?_
      refine EQ.valg rfl rfl (fun _ hw => (x_move rfl)) rfl ?_
      refine EQ.valg rfl rfl (fun _ hw => (ix_29 rfl rfl hlt)) rfl ?_
      refine EQ.valg rfl rfl (fun _ hw => (fa_50_1 rfl)) rfl ?_
      refine EQ.valg rfl rfl (fun _ hw => (ld_3 rfl (below_load hw c1))) rfl ?_
      refine EQ.valg rfl rfl (fun _ hw => (fa_28_4 rfl)) rfl ?_
      refine EQ.valg rfl rfl (fun _ hw => (ld_26 rfl (below_load hw (q1.at (j := 5) rfl)))) rfl ?_
      refine EQ.valg rfl rfl (fun _ hw => (ln_26 rfl)) rfl ?_
      refine EQ.valg rfl rfl (fun _ hw => (x_sub rfl rfl (c := (ru.kinds.length : Nat) - 1) (IntWalk.i64_in _ ⟨by omega, by omega⟩))) rfl ?_
      refine EQ.callg rfl rfl (fun _ _ _ ha => cl_56 rfl rfl rfl _ ha) rfl (fun W hw => (in_to h2 W).mono fun e w' h => ⟨h.1, hw.trans (h.2.mono hw.size)⟩) ?_
      refine EQ.valg rfl rfl (fun _ hw => (x_pick_t rfl rfl)) rfl ?_
      refine EQ.valg rfl rfl (fun _ hw => (x_not rfl)) rfl ?_
      refine EQ.val (fun _ hw => (x_pick_t rfl rfl)) rfl ?_
      refine EQ.fin (fun w5 hw_ => ?_)
      replace q1 := q1.below hw_ q1.lt;replace hbw := Below.on hbw hw_ hbw.size;clear hw_;refine EX.seq ?_;refine EC.no rfl ?_;refine EC.skip ?_;refine EX.blk ?_;refine EX.seq ?_;refine EC.region ?_;refine EL.val (x_move rfl) rfl ?_;refine EL.val (x_add rfl rfl (c := ((i + 1 : Nat) : Int)) ((IntWalk.i64_in _ ⟨by first | omega | (simp only; omega), by first | omega | (simp only; omega)⟩).trans (by first | omega | (simp only; omega)))) rfl ?_
      refine EL.val (x_assign rfl) rfl ?_;refine EL.nil ?_;have hev : evB ru ev = true := by unfold evB; rw [h2, decide_eq_true k2]; simp
      refine EX.roundD (i + 1) ⟨rfl, trivial⟩ (by repeat first | with_reducible exact Sub.refl _ | refine sub_past rfl ?_ | exact Sub.refl _ | refine sub_del rfl ?_ | refine sub_insL_nil ?_) ⟨hlt, (fun j hj => by rcases Nat.lt_or_ge j i with h0 | h0; exact hall j h0; rw [show j = i by omega, ← eev]; exact hev), q1, hbw⟩ (by omega)
    ·
     refine EC.seq ?_;refine EC.seq ?_;refine EC.region ?_;refine EL.val (x_move rfl) rfl ?_;refine EL.val (x_move rfl) rfl ?_;refine EL.val (ln_29 rfl) rfl ?_;refine EL.val (x_lss rfl rfl (decide_eq_true (show (((i : Nat) : Int) < ((l.length : Nat) : Int)) by omega))) rfl ?_
     refine EL.nil ?_;refine EX.seq ?_;refine EC.yes rfl ?_;refine EC.skip ?_;refine EX.seq ?_;refine EC.seq ?_;refine EC.block ?_;refine EC.seq ?_;refine EC.regionQ (by kernel_rfl) (by kernel_rfl) ?_
     refine EQ.val (fun _ hw => (x_move rfl)) rfl ?_
     refine EQ.val (fun _ hw => (x_move rfl)) rfl ?_
     refine EQ.val (fun _ hw => (ix_29 rfl rfl hlt)) rfl ?_
     refine EQ.val (fun _ hw => (fa_50_0 rfl)) rfl ?_
     refine EQ.val (fun _ hw => (ld_48 rfl (below_load hw c0))) rfl ?_
     refine EQ.val (fun _ hw => (x_eql (r := false) rfl rfl (decide_eq_false k1))) rfl ?_
     refine EQ.val (fun _ hw => (x_move rfl)) rfl ?_
     refine EQ.skip rfl rfl rfl rfl ?_;refine EQ.skip rfl rfl rfl rfl ?_;refine EQ.skip rfl rfl rfl rfl ?_;refine EQ.skip rfl rfl rfl rfl ?_;refine EQ.skip rfl rfl rfl rfl ?_;refine EQ.skip rfl rfl rfl rfl ?_;refine EQ.skip rfl rfl rfl rfl ?_;refine EQ.skip rfl rfl rfl rfl ?_;refine EQ.skip rfl rfl rfl rfl ?_;refine EQ.skip rfl rfl rfl rfl ?_;refine EQ.val (fun _ hw => (x_pick_f rfl rfl)) rfl ?_
     refine EQ.val (fun _ hw => (x_not rfl)) rfl ?_
     refine EQ.val (fun _ hw => (x_move rfl)) rfl ?_
     refine EQ.valg rfl rfl (fun _ hw => (x_move rfl)) rfl ?_
     refine EQ.valg rfl rfl (fun _ hw => (x_move rfl)) rfl ?_
     refine EQ.valg rfl rfl (fun _ hw => (ix_29 rfl rfl hlt)) rfl ?_
     refine EQ.valg rfl rfl (fun _ hw => (fa_50_0 rfl)) rfl ?_
     refine EQ.valg rfl rfl (fun _ hw => (ld_48 rfl (below_load hw c0))) rfl ?_
     refine EQ.valg rfl rfl (fun _ hw => (x_eql (r := false) rfl rfl (decide_eq_false (by omega)))) rfl ?_
     refine EQ.valg rfl rfl (fun _ hw => (x_move rfl)) rfl ?_
     refine EQ.skip rfl rfl rfl rfl ?_;refine EQ.skip rfl rfl rfl rfl ?_;refine EQ.skip rfl rfl rfl rfl ?_;refine EQ.skip rfl rfl rfl rfl ?_;refine EQ.skip rfl rfl rfl rfl ?_;refine EQ.skip rfl rfl rfl rfl ?_;refine EQ.skip rfl rfl rfl rfl ?_;refine EQ.skip rfl rfl rfl rfl ?_;refine EQ.skip rfl rfl rfl rfl ?_;refine EQ.skip rfl rfl rfl rfl ?_;refine EQ.valg rfl rfl (fun _ hw => (x_pick_f rfl rfl)) rfl ?_
     refine EQ.valg rfl rfl (fun _ hw => (x_not rfl)) rfl ?_
     refine EQ.val (fun _ hw => (x_pick_t rfl rfl)) rfl ?_
     refine EQ.fin (fun w6 hw_ => ?_)
     replace q1 := q1.below hw_ q1.lt;replace hbw := Below.on hbw hw_ hbw.size;clear hw_;refine EX.seq ?_;refine EC.yes rfl ?_;refine EC.seq ?_;refine EC.region ?_;refine EL.val (x_assign rfl) rfl ?_;refine EL.nil ?_;refine EX.seq ?_;refine EC.ret ?_;refine EX.blk_ret ?_;refine EX.seq_ret ?_;refine EX.seq_ret ?_;refine EX.blk_ret ?_;refine EX.seq_ret ?_;have hres : histE ru l = 2 := by unfold histE; rw [if_neg hl100, if_neg (fun ha => by have e := List.all_eq_true.1 ha ev (by rw [eev, getD_in hlt]; exact List.getElem_mem _); unfold evB at e; simp at e; omega)]
     exact EX.done (res1 rfl rfl) ⟨by rw [hres], hbw⟩
  ·
   have hxe : i = l.length := by omega
   refine EC.seq ?_;refine EC.seq ?_;refine EC.region ?_;refine EL.val (x_move rfl) rfl ?_;refine EL.val (x_move rfl) rfl ?_;refine EL.val (ln_29 rfl) rfl ?_;refine EL.val (x_lss rfl rfl (decide_eq_false (show ¬(((i : Nat) : Int) < ((l.length : Nat) : Int)) by omega))) rfl ?_
   refine EL.nil ?_;refine EX.seq ?_;refine EC.no rfl ?_;refine EC.exit ?_;refine EX.seq_exit ?_;refine EX.seq_exit ?_;refine EX.blk_here ?_;refine EX.seq ?_;refine EC.seq ?_;refine EC.region ?_;refine EL.val (x_assign rfl) rfl ?_;refine EL.nil ?_;refine EX.seq ?_;refine EC.ret ?_;have hres : histE ru l = 0 := by unfold histE; rw [if_neg hl100, if_pos (all_idx (d := ev0) (hxe ▸ hall))]
   exact EX.done (res1 rfl rfl) ⟨by rw [hres], hbw⟩
end Go.Proofs.Ytdkedhcbdbpccaa
set_option linter.unusedVariables false
set_option linter.unusedSimpArgs false
namespace Go.Proofs.Ytdkedhcbdbpccaa
open Go Go.RowKit
section
variable {n : Nat} {σ : Sg} {w : World} {dst : Option Tmp} {ty : TypeId} {pos : String} {af : Array Edge} {g : Option (Nat × Bool)} {x y z : Operand} {at' : Array TypeId}
theorem al_62 (a : Act) (_ : Env n σ a) : (execOp a.eval ⟨dst, .alloc 62, ty, pos, af, g⟩).run Try.prog w = .ok (.value (.pointer (some ⟨w.heap.size, 0, none⟩))) (w.alloc (.cells #[.slice none 0 0, .slice none 0 0] 62)) := by
 simp only [execOp]
 simp [go_sem]
theorem bd_62_    : Gives Try.prog n σ w ⟨dst, .build 62 #[], ty, pos, af, g⟩ (.agg #[.slice none 0 0, .slice none 0 0]) := fun a _ => by
 simp only [execOp, List.map_toArray, List.map_nil]
 go_simp
theorem sz_62 : (Try.prog.info? 62).map (·.size) = some 2 := by kernel_rfl
theorem fa_62_0 {b o : Nat} (hx : evS σ x = some (.pointer (some ⟨b, o, none⟩))) : Gives Try.prog n σ w ⟨dst, .fieldAddr 62 x 0, ty, pos, af, g⟩ (.pointer (some ⟨b, o, none⟩)) := fun a ha => by
 simp only [execOp, ha.eval hx]
 simp [go_sem]
theorem ld_60 {b o : Nat} {v0 : Value} (hx : evS σ x = some (.pointer (some ⟨b, o, none⟩))) (c0 : w.cell? ⟨b, o, none⟩ = some v0) : Gives Try.prog n σ w ⟨dst, .load 60 x, ty, pos, af, g⟩ (v0) := fun a ha => by
 simp only [execOp, ha.eval hx]
 simp [go_sem, c0]
theorem bd_24_    : Gives Try.prog n σ w ⟨dst, .build 24 #[], ty, pos, af, g⟩ (.agg #[.int .i64 0, .int .i64 0]) := fun a _ => by
 simp only [execOp, List.map_toArray, List.map_nil]
 go_simp
theorem fa_62_1 {b o : Nat} (hx : evS σ x = some (.pointer (some ⟨b, o, none⟩))) : Gives Try.prog n σ w ⟨dst, .fieldAddr 62 x 1, ty, pos, af, g⟩ (.pointer (some ⟨b, o + 1, none⟩)) := fun a ha => by
 simp only [execOp, ha.eval hx]
 simp [go_sem]
theorem sz_60 : (Try.prog.info? 60).map (·.size) = some 1 := by kernel_rfl
theorem sz_22 : (Try.prog.info? 22).map (·.size) = some 1 := by kernel_rfl
theorem ld_62 {b o : Nat} {v0 v1 : Value} (hx : evS σ x = some (.pointer (some ⟨b, o, none⟩))) (c0 : w.cell? ⟨b, o, none⟩ = some v0) (c1 : w.cell? ⟨b, o + 1, none⟩ = some v1) : Gives Try.prog n σ w ⟨dst, .load 62 x, ty, pos, af, g⟩ (.agg #[v0, v1]) := fun a ha => by
 simp only [execOp, ha.eval hx]
 simp [go_sem, c0, c1]
theorem lv_62 {b o : Nat} {v0 v1 : Value} (c0 : w.cell? ⟨b, o, none⟩ = some v0) (c1 : w.cell? ⟨b, o + 1, none⟩ = some v1) : (loadVar 62 ⟨b, o, none⟩).run Try.prog w = .ok (.agg #[v0, v1]) w := by
 simp [go_sem, loadVar, c0, c1]
theorem al_24 (a : Act) (_ : Env n σ a) : (execOp a.eval ⟨dst, .alloc 24, ty, pos, af, g⟩).run Try.prog w = .ok (.value (.pointer (some ⟨w.heap.size, 0, none⟩))) (w.alloc (.cells #[.int .i64 0, .int .i64 0] 24)) := by
 simp only [execOp]
 simp [go_sem]
theorem sz_24 : (Try.prog.info? 24).map (·.size) = some 2 := by kernel_rfl
theorem lv_24 {b o : Nat} {v0 v1 : Value} (c0 : w.cell? ⟨b, o, none⟩ = some v0) (c1 : w.cell? ⟨b, o + 1, none⟩ = some v1) : (loadVar 24 ⟨b, o, none⟩).run Try.prog w = .ok (.agg #[v0, v1]) w := by
 simp [go_sem, loadVar, c0, c1]
theorem bx_62 {v0 v1 : Value} (hx : evS σ x = some (.agg #[v0, v1])) (a : Act) (ha : Env n σ a) : (execOp a.eval ⟨dst, .box 62 x, ty, pos, af, g⟩).run Try.prog w = .ok (.value (.pointer (some ⟨w.heap.size, 0, none⟩))) (w.alloc (.cells #[v0, v1] 62)) := by
 simp only [execOp, ha.eval hx]
 simp [go_sem]
theorem ix_60 {b o m c k : Nat} (hx : evS σ x = some (.slice (some ⟨b, o, none⟩) m c)) (hy : evS σ y = some (.int .i64 (k : Int))) (hk : k < m) : Gives Try.prog n σ w ⟨dst, .indexAddr 60 x y, ty, pos, af, g⟩ (.pointer (some ⟨b, o + k * 2, none⟩)) := fun a ha => by
 have k0 : (0 : Int) ≤ (k : Int) := Int.natCast_nonneg _;have k1 : (k : Int) < (m : Int) := by omega
 simp only [execOp, ha.eval hx, ha.eval hy]
 simp [go_sem, k0, k1]
theorem ln_60 {A : Option Addr} {m c : Nat} (hx : evS σ x = some (.slice A m c)) : Gives Try.prog n σ w ⟨dst, .call { callee := .builtin .len, args := #[x], argTypes := #[60] }, ty, pos, af, g⟩ (.int .i64 (m : Int)) := fun a ha => by
 simp only [execOp, resolve, List.map_toArray, List.map_cons, List.map_nil, ha.eval hx]
 simp [go_sem]
theorem cl_81 {x0 x1 : Operand} {v0 v1 : Value} (h0 : evS σ x0 = some v0) (h1 : evS σ x1 = some v1) (a : Act) (ha : Env n σ a) : (execOp a.eval ⟨dst, .call { callee := .value (.func 81), args := #[x0, x1], argTypes := at' }, ty, pos, af, g⟩).run Try.prog w = .ok (.enter 81 #[v0, v1]) w := by
 simp only [execOp, resolve, List.map_toArray, List.map_cons, List.map_nil, ha.eval h0, ha.eval h1]
 simp [go_sem, Act.eval]
theorem cl_57 {x0 : Operand} {v0 : Value} (h0 : evS σ x0 = some v0) (a : Act) (ha : Env n σ a) : (execOp a.eval ⟨dst, .call { callee := .value (.func 57), args := #[x0], argTypes := at' }, ty, pos, af, g⟩).run Try.prog w = .ok (.enter 57 #[v0]) w := by
 simp only [execOp, resolve, List.map_toArray, List.map_cons, List.map_nil, ha.eval h0]
 simp [go_sem, Act.eval]
theorem cl_58 {x0 x1 x2 : Operand} {v0 v1 v2 : Value} (h0 : evS σ x0 = some v0) (h1 : evS σ x1 = some v1) (h2 : evS σ x2 = some v2) (a : Act) (ha : Env n σ a) : (execOp a.eval ⟨dst, .call { callee := .value (.func 58), args := #[x0, x1, x2], argTypes := at' }, ty, pos, af, g⟩).run Try.prog w = .ok (.enter 58 #[v0, v1, v2]) w := by
 simp only [execOp, resolve, List.map_toArray, List.map_cons, List.map_nil, ha.eval h0, ha.eval h1, ha.eval h2]
 simp [go_sem, Act.eval]
end
end Go.Proofs.Ytdkedhcbdbpccaa
