/- X36, WsLift2: what WashFleetsProof needs of them (merged by trimpack.py). -/
import Derived.Test.YtdkedhcbdbpccaaFleetsT6
set_option linter.unusedVariables false
set_option linter.unusedSimpArgs false
namespace Go.Proofs.Ytdkedhcbdbpccaa
open Go Go.RowKit
def FlP (ru : Rules) (tanks : List (List Ev)) (jobs : List Int) (st : List St) (cc : Int) : Prop :=
 (codeF ru tanks jobs = 0 → ∃ p, IsBest (compl (extY (yardOf ru tanks.length)) (jobs.map Int.toNat) (fillF ru tanks tanks.length, pl0)) p ∧ st = p.steps ∧ cc = p.cost) ∧ (codeF ru tanks jobs ≠ 0 → st = [] ∧ cc = 0)
theorem mono_rl {k : Nat} {ru : Rules} : Mono fun r w => ∃ vl va vp vk ua up, r k = rulesV vl va vp vk ru ∧ RdRules w w.heap.size vl va vp vk ru ua up := fun _ _ _ hb ⟨vl, va, vp, vk, ua, up, h1, h2⟩ => ⟨vl, va, vp, vk, ua, up, h1, (h2.below hb).more hb.size⟩
theorem rdll_go {f : Ev → List Value} {z : Nat} {w w' : World} {v : Value} {ls : List (List Ev)} {us : List Value} (h : RdLL f z w w.heap.size v ls us) (hb : Below w.heap.size w w') : RdLL f z w' w'.heap.size v ls us := ⟨h.len, h.rd.go hb, fun i hi => (h.row i hi).go hb⟩
theorem mono_le {k : Nat} {ls : List (List Ev)} : Mono fun r w => ∃ v us, r k = v ∧ RdLL evC 2 w w.heap.size v ls us := fun _ _ _ hb ⟨v, us, h1, h2⟩ => ⟨v, us, h1, rdll_go h2 hb⟩
theorem mono_ji {k n : Nat} {xs : List Value} : Mono fun r w => ∃ v, r k = v ∧ Rd w w.heap.size 1 v n xs := fun _ _ _ hb ⟨v, h1, h2⟩ => ⟨v, h1, h2.go hb⟩
theorem tupT {A A' : Option Addr} {n n' c c' : Nat} {x x' : Int} {u v : Value} (h : Value.tuple #[.slice A n c, .int .i64 x, u, v] = .tuple #[.slice A' n' c', .int .i64 x', u, v]) : Value.slice A n c = .slice A' n' c' ∧ Value.int .i64 x = .int .i64 x' := by
 simp at h
 obtain ⟨⟨rfl, rfl, rfl⟩, rfl⟩ := h
 exact ⟨rfl, rfl⟩
theorem tanksE_all {ru : Rules} : ∀ {tanks : List (List Ev)}, tanksE ru tanks = 0 → ∀ k, k < tanks.length → refE ru (tanks.getD k []) = 0
 | [], _, k, hk => absurd hk (Nat.not_lt_zero _)
 | l :: ls, h, k, hk => by
  rw [tanksE] at h
  split at h
  ·rename_i h0
   rcases k with _ | k
   ·exact h0
   ·exact tanksE_all h k (by simpa using hk)
  ·rename_i h0
   exact absurd h h0
theorem yard_all {ru : Rules} {tanks : List (List Ev)} {jobs : List Int} (h : yardE ru tanks jobs = 0) : ∀ k, k < tanks.length → refE ru (tanks.getD k []) = 0 := by
 unfold yardE at h
 split at h
 ·split at h
  ·omega
  ·split at h
   ·omega
   ·split at h
    ·rename_i h3
     exact tanksE_all h3
    ·rename_i h3
     exact absurd h h3
 ·omega
theorem simf_fleet {ru : Rules} (hro : RulesOk ru) {tanks : List (List Ev)} (h3 : tanks.length ≤ 3) (hz : ∀ k, k < tanks.length → refE ru (tanks.getD k []) = 0) : SimF ru tanks.length (fillF ru tanks tanks.length) (tanks.map (afterR ru)) := by
 refine ⟨by unfold fillF; rw [List.length_map, List.length_range]; exact h3, List.length_map _, fun i hi => ?_⟩
 obtain ⟨_, hv, _⟩ := ref_ok (hz i hi);rw [map_getD (d := []) hi]
 unfold fillF
 rw [rm_getD, if_pos (by omega), if_pos hi, show tkE ru (tanks.getD i []) = afterT ru (tanks.getD i []) from if_pos (hz i hi)]
 exact sim_after hro hv
theorem all_stp {ru : Rules} {many : Nat} {l : List Stp} (h : ∀ k, k < l.length → stB ru many (l.getD k stp0) = true) : l.all (stB ru many) = true := List.all_eq_true.2 fun x hx => by
 obtain ⟨i, hi, rfl⟩ := List.getElem_of_mem hx;rw [← getD_in (d := stp0) hi]
 exact h i hi
theorem stB_good {ru : Rules} {many : Nat} {x : Stp} (h : (0 ≤ x.tank ∧ x.tank < many) ∧ -1 ≤ x.wash ∧ x.wash < ru.kinds.length) : false = !stB ru many x := by
 have : stB ru many x = true := by unfold stB; rw [Bool.and_eq_true, inB_iff, inB_iff]; omega
 rw [this]; rfl
theorem stB_bad {ru : Rules} {many : Nat} {x : Stp} (h : ¬((0 ≤ x.tank ∧ x.tank < many) ∧ -1 ≤ x.wash ∧ x.wash < ru.kinds.length)) : true = !stB ru many x := by
 cases e : stB ru many x
 ·rfl
 ·unfold stB at e
  rw [Bool.and_eq_true, inB_iff, inB_iff] at e
  exact absurd ⟨⟨by omega, by omega⟩, by omega, by omega⟩ h
set_option maxHeartbeats 4000000 in
set_option maxRecDepth 100000 in
theorem fleets_law {ru : Rules} {ua up : List Value} {vl va vp vk : Value} {w : World} {B : Nat} (hr : RdRules w B vl va vp vk ru ua up) (hB : B ≤ w.heap.size) {tanks : List (List Ev)} {vt : Value} {ut : List Value} (ht : RdLL evC 2 w B vt tanks ut) {jobs : List Int} {vj : Value} (hv : Rd w B 1 vj jobs.length (ints jobs)) {steps : List Stp} {vs : Value} (hst : Rd w B 2 vs steps.length (stpsC steps)) :
  Calls Try.prog 8 #[rulesV vl va vp vk ru, vt, .agg #[vj, vs]] w fun e w' => e = .returned (.bool true) ∧ Below w.heap.size w w' := by
 obtain ⟨Al, cl, Aa, ca, Ap, cp, Ak, ck, rfl, rfl, rfl, rfl⟩ := hr.sh4;obtain ⟨At, ct, rfl, _⟩ := ht.rd.shape;obtain ⟨Aj, cj, rfl, hcj⟩ := hv.shape;obtain ⟨As, cs, rfl, _⟩ := hst.shape;have hbw := Below.refl w.heap.size w
 unfold rulesV
 refine EC.enter 301 Try.func8 rfl rfl rfl (EC.seq (EC.region (EL.newP (bx_28 rfl) rfl ?_)));intro g1 w1 q1 hb1 hg1 hl1;have bhbw_1 := Nat.le_trans hbw.size hg1;replace hbw := bo_ hbw hb1;clear hb1 hg1 hl1;refine EL.newP (bx_98 rfl) rfl ?_;intro g2 w2 q2 hb2 hg2 hl2;have n1_2 := q1.na hg2;have bhbw_2 := Nat.le_trans hbw.size hg2;replace q1 := q1.bl hb2;replace hbw := bo_ hbw hb2;clear hb2 hg2 hl2;refine EL.as rfl rfl (EL.nil (EX.seq (EC.seq ?_)));refine EC.cutD [25, 26, 27, 28, 29, 30, 31, 32, 33, 34, 35, 36, 37, 38, 39, 40, 41, 42, 43, 44, 45, 46, 47, 48, 49, 50, 51, 52, 53, 54, 55, 56, 57] (fun x : Bool => [(57, .bool x)]) (fun x W => (x = false → (tanks.length ≤ 5 ∧ Wee ru [] ∧ ∀ k, k < tanks.length → Wee ru (tanks.getD k [])) ∧ jobs.length ≤ 8 ∧ steps.length ≤ 10) ∧ Blk W g1 28 #[.slice Al ru.levels.length cl, .int .i64 ru.fade.lo, .int .i64 ru.fade.hi, .slice Aa ru.allow.length ca, .slice Ap ru.apart.length cp, .slice Ak ru.kinds.length ck] ∧ Blk W g2 98 #[.slice Aj jobs.length cj, .slice As steps.length cs] ∧ Below w.heap.size w W) ?_ ?_
 ·
  refine EC.region (EL.val (ld_28 rfl (q1.at (j := 0) rfl) (q1.at (j := 1) rfl) (q1.at (j := 2) rfl) (q1.at (j := 3) rfl) (q1.at (j := 4) rfl) (q1.at (j := 5) rfl)) rfl (EL.mv rfl rfl (EL.call (cA2 cF37 rfl rfl) rfl (heavy_any (hr.below (hbw.mono hB)) (Nat.le_trans hB hbw.size) (ht.below (hbw.mono hB))) ?_)))
  rintro e wB ⟨⟨bB, rfl, hgv⟩, hcB⟩
  cases bB
  ·
   have hgw := hgv rfl;refine ⟨_, rfl, ?_⟩;replace q1 := q1.bl hcB;replace q2 := q2.bl hcB;replace hbw := bo_ hbw hcB;clear hcB;refine EL.mv rfl rfl (EL.valg rfl rfl (fa_98_0 rfl) rfl (EL.valg rfl rfl (ld_22 rfl (q2.at (j := 0) rfl)) rfl (EL.valg rfl rfl (ln_22 rfl) rfl ?_)))
   by_cases hj8 : 8 < jobs.length
   ·
    refine EL.valg rfl rfl (x_gtr (r := true) rfl rfl (decide_eq_true (by omega))) rfl ?_
    refine EL.pf rfl rfl rfl (EL.mv rfl rfl (EL.skip rfl rfl rfl rfl (EL.skip rfl rfl rfl rfl (EL.skip rfl rfl rfl rfl (EL.skip rfl rfl rfl rfl (EL.pt rfl rfl rfl (EL.mv rfl rfl (EL.skip rfl rfl rfl rfl (EL.skip rfl rfl rfl rfl ?_)))))))));refine EL.skip rfl rfl rfl rfl (EL.skip rfl rfl rfl rfl (EL.skip rfl rfl rfl rfl (EL.skip rfl rfl rfl rfl (EL.skip rfl rfl rfl rfl (EL.skip rfl rfl rfl rfl (EL.skip rfl rfl rfl rfl (EL.skip rfl rfl rfl rfl (EL.skip rfl rfl rfl rfl (EL.skip rfl rfl rfl rfl ?_)))))))));refine EL.skip rfl rfl rfl rfl (EL.skip rfl rfl rfl rfl (EL.skip rfl rfl rfl rfl (EL.skip rfl rfl rfl rfl (EL.pt rfl rfl rfl (EL.nil ?_)))))
    exact EX.cutE true ⟨rfl, trivial⟩ (by repeat first | with_reducible exact (Sub.refl _).del _ | refine sp_ rfl ?_ | exact (Sub.refl _).del _ | refine sd_ rfl ?_ | refine sn_ ?_) ⟨(fun h => by cases h), q1, q2, hbw⟩
   ·
    refine EL.valg rfl rfl (x_gtr (r := false) rfl rfl (decide_eq_false (by omega))) rfl ?_
    refine EL.pf rfl rfl rfl (EL.mv rfl rfl (EL.valg rfl rfl (fa_98_1 rfl) rfl (EL.valg rfl rfl (ld_65 rfl (q2.at (j := 1) rfl)) rfl (EL.valg rfl rfl (ln_65 rfl) rfl ?_))))
    by_cases hs10 : 10 < steps.length
    ·
     refine EL.valg rfl rfl (x_gtr (r := true) rfl rfl (decide_eq_true (by omega))) rfl ?_
     refine EL.pf rfl rfl rfl (EL.mv rfl rfl (EL.skip rfl rfl rfl rfl (EL.skip rfl rfl rfl rfl (EL.skip rfl rfl rfl rfl (EL.skip rfl rfl rfl rfl (EL.skip rfl rfl rfl rfl (EL.skip rfl rfl rfl rfl (EL.skip rfl rfl rfl rfl (EL.skip rfl rfl rfl rfl ?_)))))))));refine EL.skip rfl rfl rfl rfl (EL.skip rfl rfl rfl rfl (EL.skip rfl rfl rfl rfl (EL.skip rfl rfl rfl rfl (EL.skip rfl rfl rfl rfl (EL.skip rfl rfl rfl rfl (EL.skip rfl rfl rfl rfl (EL.skip rfl rfl rfl rfl (EL.pt rfl rfl rfl (EL.nil ?_)))))))))
     exact EX.cutE true ⟨rfl, trivial⟩ (by repeat first | with_reducible exact (Sub.refl _).del _ | refine sp_ rfl ?_ | exact (Sub.refl _).del _ | refine sd_ rfl ?_ | refine sn_ ?_) ⟨(fun h => by cases h), q1, q2, hbw⟩
    ·
     refine EL.valg rfl rfl (x_gtr (r := false) rfl rfl (decide_eq_false (by omega))) rfl ?_
     refine EL.pf rfl rfl rfl (EL.mv rfl rfl (EL.valg rfl rfl (fa_98_0 rfl) rfl (EL.valg rfl rfl (ld_22 rfl (q2.at (j := 0) rfl)) rfl (EL.valg rfl rfl (ln_22 rfl) rfl ?_))))
     by_cases hj6 : jobs.length ≤ 6
     ·
      refine EL.valg rfl rfl (x_leq (r := true) rfl rfl (decide_eq_true (by omega))) rfl ?_
      refine EL.mg rfl rfl rfl rfl (EL.mg rfl rfl rfl rfl (EL.valg rfl rfl (ln_96 rfl) rfl (EL.valg rfl rfl (fa_28_4 rfl) rfl (EL.valg rfl rfl (ld_26 rfl (q1.at (j := 5) rfl)) rfl (EL.valg rfl rfl (ln_26 rfl) rfl (EL.valg rfl rfl (fa_98_0 rfl) rfl (EL.valg rfl rfl (ld_22 rfl (q2.at (j := 0) rfl)) rfl (EL.valg rfl rfl (ln_22 rfl) rfl ?_))))))));refine EL.callg rfl rfl (cA3 cF22 rfl rfl rfl) rfl (many_any (((tanks.length : Nat) : Int)) (kn := ((ru.kinds.length : Nat) : Int)) (by omega) (by have := hgw.2.1.k; omega) (by omega) _) ?_
      rintro e w3 ⟨⟨vm, rfl⟩, hc3⟩
      refine ⟨_, rfl, ?_⟩;replace q1 := q1.bl hc3;replace q2 := q2.bl hc3;replace hbw := bo_ hbw hc3;clear hc3
      by_cases hvm : 60000 < vm
      ·
       refine EL.valg rfl rfl (x_gtr (r := true) rfl rfl (decide_eq_true (by omega))) rfl ?_
       refine EL.valg rfl rfl (x_pick_t rfl rfl) rfl (EL.pf rfl rfl rfl (EL.nil ?_))
       exact EX.cutE true ⟨rfl, trivial⟩ (by repeat first | with_reducible exact (Sub.refl _).del _ | refine sp_ rfl ?_ | exact (Sub.refl _).del _ | refine sd_ rfl ?_ | refine sn_ ?_) ⟨(fun h => by cases h), q1, q2, hbw⟩
      ·
       refine EL.valg rfl rfl (x_gtr (r := false) rfl rfl (decide_eq_false (by omega))) rfl ?_
       refine EL.valg rfl rfl (x_pick_t rfl rfl) rfl (EL.pf rfl rfl rfl (EL.nil ?_))
       exact EX.cutE false ⟨rfl, trivial⟩ (by repeat first | with_reducible exact (Sub.refl _).del _ | refine sp_ rfl ?_ | exact (Sub.refl _).del _ | refine sd_ rfl ?_ | refine sn_ ?_) ⟨fun _ => ⟨hgw, by omega, by omega⟩, q1, q2, hbw⟩
     ·
      refine EL.valg rfl rfl (x_leq (r := false) rfl rfl (decide_eq_false (by omega))) rfl ?_
      refine EL.mg rfl rfl rfl rfl (EL.skip rfl rfl rfl rfl (EL.skip rfl rfl rfl rfl (EL.skip rfl rfl rfl rfl (EL.skip rfl rfl rfl rfl (EL.skip rfl rfl rfl rfl (EL.skip rfl rfl rfl rfl (EL.skip rfl rfl rfl rfl (EL.skip rfl rfl rfl rfl (EL.skip rfl rfl rfl rfl ?_)))))))));refine EL.skip rfl rfl rfl rfl (EL.valg rfl rfl (x_pick_f rfl rfl) rfl (EL.pf rfl rfl rfl (EL.nil ?_)))
      exact EX.cutE false ⟨rfl, trivial⟩ (by repeat first | with_reducible exact (Sub.refl _).del _ | refine sp_ rfl ?_ | exact (Sub.refl _).del _ | refine sd_ rfl ?_ | refine sn_ ?_) ⟨fun _ => ⟨hgw, by omega, by omega⟩, q1, q2, hbw⟩
  ·
   refine ⟨_, rfl, ?_⟩;replace q1 := q1.bl hcB;replace q2 := q2.bl hcB;replace hbw := bo_ hbw hcB;clear hcB;refine EL.mv rfl rfl (EL.skip rfl rfl rfl rfl (EL.skip rfl rfl rfl rfl (EL.skip rfl rfl rfl rfl (EL.skip rfl rfl rfl rfl (EL.pt rfl rfl rfl (EL.mv rfl rfl (EL.skip rfl rfl rfl rfl (EL.skip rfl rfl rfl rfl (EL.skip rfl rfl rfl rfl ?_)))))))));refine EL.skip rfl rfl rfl rfl (EL.pt rfl rfl rfl (EL.mv rfl rfl (EL.skip rfl rfl rfl rfl (EL.skip rfl rfl rfl rfl (EL.skip rfl rfl rfl rfl (EL.skip rfl rfl rfl rfl (EL.skip rfl rfl rfl rfl (EL.skip rfl rfl rfl rfl (EL.skip rfl rfl rfl rfl ?_)))))))));refine EL.skip rfl rfl rfl rfl (EL.skip rfl rfl rfl rfl (EL.skip rfl rfl rfl rfl (EL.skip rfl rfl rfl rfl (EL.skip rfl rfl rfl rfl (EL.skip rfl rfl rfl rfl (EL.skip rfl rfl rfl rfl (EL.skip rfl rfl rfl rfl (EL.skip rfl rfl rfl rfl (EL.pt rfl rfl rfl ?_)))))))));refine EL.nil ?_
   exact EX.cutE true ⟨rfl, trivial⟩ (by repeat first | with_reducible exact (Sub.refl _).del _ | refine sp_ rfl ?_ | exact (Sub.refl _).del _ | refine sd_ rfl ?_ | refine sn_ ?_) ⟨(fun h => by cases h), q1, q2, hbw⟩
 ·
  clear q1 q2 hbw
  rintro x W1 ⟨hx, q1, q2, hbw⟩
  cases x
  ·
   obtain ⟨⟨ht5, hwe, hwt⟩, hj8, hs10⟩ := hx rfl;have hs := hwe.short;have htr : ∀ k, k < tanks.length → (tanks.getD k []).length ≤ 1048576 := fun k hk => by have := (hwt k hk).l; omega
   refine EC.no rfl (EC.skip (EX.seq (EC.seq (EC.region (EL.newS (bs_65_0) rfl ?_)))));intro g4 w4 q4 hb4 hg4 hl4;have n1_4 := q1.na hg4;have n2_4 := q2.na hg4;have bhbw_4 := Nat.le_trans hbw.size hg4;replace q1 := q1.bl hb4;replace q2 := q2.bl hb4;replace hbw := bo_ hbw hb4;clear hb4 hg4 hl4;have hemp := own_empty (base := 0) 2 q4 (Nat.zero_le _);refine EL.val (fa_98_1 rfl) rfl (EL.val (ld_65 rfl (q2.at (j := 1) rfl)) rfl ?_);refine EL.push st_elem rfl rfl hemp (hst.below (hbw.mono hB)) (stpsC_one _) (by omega) rfl (Nat.zero_le _) rfl ?_
   intro v7 w5 hS7 hgr _ hat;replace q1 := q1.gr hgr n1_4;replace q2 := q2.gr hgr n2_4;replace hbw := below_store hbw hgr bhbw_4;rw [Nat.zero_add, List.nil_append] at hS7;obtain ⟨A7, c7, rfl, _⟩ := (Rd.of_own hS7).shape;clear hemp hgr hat;refine EL.as rfl rfl (EL.nil (EX.seq (EC.seq ?_)));have lt_1 := q1.lt;have lt_2 := q2.lt;refine EC.regionP [[], [0], [], [0, 1, 2], [], [4], [0, 1, 2, 3, 4, 5], [0, 1, 2, 3, 4, 5, 6], [0, 1, 2, 3, 4, 5, 6, 7], [0, 1, 2, 3, 4, 5, 6, 7, 8], [0, 1, 2, 3, 4, 5, 6, 7, 8], [0, 1, 2, 3, 4, 5, 6, 7, 8], [0, 1, 2, 3, 4, 5, 6, 7, 8], [0, 1, 2, 3, 4, 5, 6, 7, 8, 9], [0, 1, 2, 3, 4, 5, 6, 7, 8, 9, 10, 13], [0, 1, 2, 3, 4, 5, 6, 7, 8, 9, 10, 11, 13, 14], [0, 1, 2, 3, 4, 5, 6, 7, 8, 9, 10, 11, 12, 13, 14, 15]] 16 [] (phi (fun i_ r => match i_ with | 0 => r 0 = .agg #[.slice Al ru.levels.length cl, .int .i64 ru.fade.lo, .int .i64 ru.fade.hi, .slice Aa ru.allow.length ca, .slice Ap ru.apart.length cp, .slice Ak ru.kinds.length ck] | 2 => r 2 = .slice At tanks.length ct | 4 => r 4 = .pointer (some ⟨g2, 0, none⟩) | 5 => r 5 = .slice Aj jobs.length cj | 11 => r 11 = .int .i64 ((atF ru tanks jobs) : Nat) | 12 => r 12 = .int .i64 (codeF ru tanks jobs) | 15 => r 15 = .int .i64 ((atF ru tanks jobs) : Nat) | _ => True) [(1, fun r w_ => ∃ vl va vp vk ua up, r 1 = rulesV vl va vp vk ru ∧ RdRules w_ w_.heap.size vl va vp vk ru ua up), (3, fun r w_ => ∃ v us, r 3 = v ∧ RdLL evC 2 w_ w_.heap.size v tanks us), (6, fun r w_ => ∃ v, r 6 = v ∧ Rd w_ w_.heap.size 1 v jobs.length (ints jobs)), (7, fun r w_ => ∃ (A : Option Addr) (c : Nat) (st : List St) (cc : Int), r 7 = .tuple #[.slice A st.length c, .int .i64 cc, .int .i64 ((atF ru tanks jobs) : Nat), .int .i64 (codeF ru tanks jobs)] ∧ w_.ownsRow 0 70 2 (.slice A st.length c) st.length (stsC st) ∧ FlP ru tanks jobs st cc), (8, fun r w_ => ∃ (A : Option Addr) (c : Nat) (st : List St) (cc : Int), r 7 = .tuple #[.slice A st.length c, .int .i64 cc, .int .i64 ((atF ru tanks jobs) : Nat), .int .i64 (codeF ru tanks jobs)] ∧ r 8 = .tuple #[.slice A st.length c, .int .i64 cc, .int .i64 ((atF ru tanks jobs) : Nat), .int .i64 (codeF ru tanks jobs)]), (9, fun r w_ => ∃ (A : Option Addr) (c : Nat) (st : List St) (cc : Int), r 7 = .tuple #[.slice A st.length c, .int .i64 cc, .int .i64 ((atF ru tanks jobs) : Nat), .int .i64 (codeF ru tanks jobs)] ∧ r 9 = .slice A st.length c), (10, fun r w_ => ∃ (A : Option Addr) (c : Nat) (st : List St) (cc : Int), r 7 = .tuple #[.slice A st.length c, .int .i64 cc, .int .i64 ((atF ru tanks jobs) : Nat), .int .i64 (codeF ru tanks jobs)] ∧ r 10 = .int .i64 cc), (13, fun r w_ => ∃ (A : Option Addr) (c : Nat) (st : List St) (cc : Int), r 7 = .tuple #[.slice A st.length c, .int .i64 cc, .int .i64 ((atF ru tanks jobs) : Nat), .int .i64 (codeF ru tanks jobs)] ∧ r 13 = .slice A st.length c), (14, fun r w_ => ∃ (A : Option Addr) (c : Nat) (st : List St) (cc : Int), r 7 = .tuple #[.slice A st.length c, .int .i64 cc, .int .i64 ((atF ru tanks jobs) : Nat), .int .i64 (codeF ru tanks jobs)] ∧ r 14 = .int .i64 cc)]) (by kernel_rfl) rfl rfl (phi_cons mono_rl (phi_cons mono_le (phi_cons mono_ji (phi_cons (fun _ _ _ hb ⟨A, c, st, cc, h1, h2, h3⟩ => ⟨A, c, st, cc, h1, own_below h2 hb (Nat.le_refl _), h3⟩) (phi_cons (fun _ _ _ _ h => h) (phi_cons (fun _ _ _ _ h => h) (phi_cons (fun _ _ _ _ h => h) (phi_cons (fun _ _ _ _ h => h) (phi_cons (fun _ _ _ _ h => h) (phi_nil)))))))))) (fun i_ hi_ => ?_) ?_
   ·match i_, hi_ with
    | 0, _ =>
     intro val w1 a hb ha hd;have ha := ha.s0 (d := 3) rfl
     exact hs_val ha rfl rfl (ld_28 rfl ((q1.below hb q1.lt).at (j := 0) rfl) ((q1.below hb q1.lt).at (j := 1) rfl) ((q1.below hb q1.lt).at (j := 2) rfl) ((q1.below hb q1.lt).at (j := 3) rfl) ((q1.below hb q1.lt).at (j := 4) rfl) ((q1.below hb q1.lt).at (j := 5) rfl)) rfl rfl
    | 1, _ =>
     intro val w1 a hb ha hd;have e0 : val 0 = _ := hd 0 (memB_mem.1 rfl);have ha := ha.s1 (d := 64) rfl e0;have hbz := (hbw.trans (hb.mono hbw.size));refine hs_call ha rfl rfl (cA1 cF14 rfl) (own_any (hr.below (hbz.mono hB)) (Nat.le_trans hB hbz.size) hwe) rfl ?_
     rintro e w' ⟨⟨vl2, va2, vp2, vk2, ua2, up2, rfl, hR2⟩, hb'⟩
     exact ⟨_, rfl, hb', ⟨vl2, va2, vp2, vk2, ua2, up2, rfl, hR2⟩⟩
    | 2, _ =>
     intro val w1 a hb ha hd;have ha := ha.s0 (d := 1) rfl
     exact hs_val ha rfl rfl (x_move rfl) rfl rfl
    | 3, _ =>
     intro val w1 a hb ha hd;have e2 : val 2 = _ := hd 2 (memB_mem.1 rfl);have ha := ha.s1 (d := 66) rfl e2;have hbz := (hbw.trans (hb.mono hbw.size));refine hs_call ha rfl rfl (cA1 cF39 rfl) (all_any (ht.below (hbz.mono hB)) (Nat.le_trans hB hbz.size) (by omega) htr) rfl ?_
     rintro e w' ⟨⟨v2, us2, rfl, hL⟩, hb'⟩
     exact ⟨_, rfl, hb', ⟨v2, us2, rfl, hL⟩⟩
    | 4, _ =>
     intro val w1 a hb ha hd;have ha := ha.s0 (d := 5) rfl
     exact hs_val ha rfl rfl (fa_98_0 rfl) rfl rfl
    | 5, _ =>
     intro val w1 a hb ha hd;have e4 : val 4 = _ := hd 4 (memB_mem.1 rfl);have ha := ha.s1 (d := 68) rfl e4
     exact hs_val ha rfl rfl (ld_22 rfl ((q2.below hb q2.lt).at (j := 0) rfl)) rfl rfl
    | 6, _ =>
     intro val w1 a hb ha hd;have e5 : val 5 = _ := hd 5 (memB_mem.1 rfl);have ha := ha.s1 (d := 69) rfl e5;have hbz := (hbw.trans (hb.mono hbw.size));refine hs_call ha rfl rfl (cA1 cF23 rfl) (numbers_any (hv.below (hbz.mono hB)) (Nat.le_trans hB hbz.size) (by omega)) rfl ?_
     rintro e w' ⟨⟨v2, rfl, hJ⟩, hb'⟩
     exact ⟨_, rfl, hb', ⟨v2, rfl, Rd.of_own hJ⟩⟩
    | 7, _ =>
     intro val w1 a hb ha hd;obtain ⟨vl1_, va1_, vp1_, vk1_, ua1_, up1_, e1, hR1_⟩ := hd 1 (memB_mem.1 rfl);obtain ⟨v3_, us3_, e3, hL3_⟩ := hd 3 (memB_mem.1 rfl);obtain ⟨v6_, e6, hJ6_⟩ := hd 6 (memB_mem.1 rfl);have ha := ha.sub (Sub.ins (d := 70) (Sub.ins (d := 67) (Sub.ins (d := 65) (Sub.nil _) (dep_get rfl e1)) (dep_get rfl e3)) (dep_get rfl e6));refine hs_call ha rfl rfl (cA3 cF38 rfl rfl rfl) (Fleet_any hR1_ (Nat.le_refl _) hs hL3_ htr (by omega) hJ6_ (by omega)) rfl ?_
     rintro e w' ⟨⟨v8, st, cc, rfl, ho, h1, h2⟩, hb'⟩
     obtain ⟨A, c, rfl, _⟩ := (Rd.of_own ho).shape
     exact ⟨_, rfl, hb', ⟨A, c, st, cc, rfl, own_less ho (Nat.zero_le _), ⟨h1, h2⟩⟩⟩
    | 8, _ =>
     intro val w1 a hb ha hd;obtain ⟨A8, c8, st, cc, e7, hP, hfp⟩ := hd 7 (memB_mem.1 rfl);have ha := ha.s1 (d := 71) rfl e7
     exact hs_val ha rfl rfl (x_move rfl) ⟨_, _, _, _, e7, rfl⟩ rfl
    | 9, _ =>
     intro val w1 a hb ha hd;obtain ⟨A8_, c8_, st8_, cc8_, x8_, e8⟩ := hd 8 (memB_mem.1 rfl);have ha := ha.s1 (d := 63) rfl e8
     exact hs_val ha rfl rfl (x_extract rfl rfl) ⟨_, _, _, _, x8_, rfl⟩ rfl
    | 10, _ =>
     intro val w1 a hb ha hd;obtain ⟨A8_, c8_, st8_, cc8_, x8_, e8⟩ := hd 8 (memB_mem.1 rfl);have ha := ha.s1 (d := 63) rfl e8
     exact hs_val ha rfl rfl (x_extract rfl rfl) ⟨_, _, _, _, x8_, rfl⟩ rfl
    | 11, _ =>
     intro val w1 a hb ha hd;obtain ⟨A8_, c8_, st8_, cc8_, x8_, e8⟩ := hd 8 (memB_mem.1 rfl);have ha := ha.s1 (d := 63) rfl e8
     exact hs_val ha rfl rfl (x_extract rfl rfl) rfl rfl
    | 12, _ =>
     intro val w1 a hb ha hd;obtain ⟨A8_, c8_, st8_, cc8_, x8_, e8⟩ := hd 8 (memB_mem.1 rfl);have ha := ha.s1 (d := 63) rfl e8
     exact hs_val ha rfl rfl (x_extract rfl rfl) rfl rfl
    | 13, _ =>
     intro val w1 a hb ha hd;obtain ⟨A9_, c9_, st9_, cc9_, x9_, e9⟩ := hd 9 (memB_mem.1 rfl);have ha := ha.s1 (d := 72) rfl e9
     exact hs_val ha rfl rfl (x_assign rfl) ⟨_, _, _, _, x9_, rfl⟩ rfl
    | 14, _ =>
     intro val w1 a hb ha hd;obtain ⟨A10_, c10_, st10_, cc10_, x10_, e10⟩ := hd 10 (memB_mem.1 rfl);have ha := ha.s1 (d := 73) rfl e10
     exact hs_val ha rfl rfl (x_assign rfl) ⟨_, _, _, _, x10_, rfl⟩ rfl
    | 15, _ =>
     intro val w1 a hb ha hd;have e11 : val 11 = _ := hd 11 (memB_mem.1 rfl);have ha := ha.s1 (d := 74) rfl e11
     exact hs_val ha rfl rfl (x_assign rfl) rfl rfl
    | k + 16, h => exact absurd h (by omega)
   ·intro val wR4 hb halc hd
    have e0 : val 0 = _ := hd 0 (by omega)
    obtain ⟨vl1_, va1_, vp1_, vk1_, ua1_, up1_, e1, hR1_⟩ := hd 1 (by omega)
    have e2 : val 2 = _ := hd 2 (by omega)
    obtain ⟨v3_, us3_, e3, hL3_⟩ := hd 3 (by omega)
    have e4 : val 4 = _ := hd 4 (by omega)
    have e5 : val 5 = _ := hd 5 (by omega)
    obtain ⟨v6_, e6, hJ6_⟩ := hd 6 (by omega)
    obtain ⟨A8, c8, st, cc, e7, hP, hfp⟩ := hd 7 (by omega)
    obtain ⟨A8_, c8_, st8_, cc8_, x8_, e8⟩ := hd 8 (by omega)
    obtain ⟨A9_, c9_, st9_, cc9_, x9_, e9⟩ := hd 9 (by omega)
    obtain ⟨A10_, c10_, st10_, cc10_, x10_, e10⟩ := hd 10 (by omega)
    have e11 : val 11 = _ := hd 11 (by omega)
    have e12 : val 12 = _ := hd 12 (by omega)
    obtain ⟨A13_, c13_, st13_, cc13_, x13_, e13⟩ := hd 13 (by omega)
    obtain ⟨A14_, c14_, st14_, cc14_, x14_, e14⟩ := hd 14 (by omega)
    have e15 : val 15 = _ := hd 15 (by omega)
    have y8_ := tupT (e7.symm.trans x8_);rw [← y8_.1, ← y8_.2] at e8;have y9_ := tupT (e7.symm.trans x9_);rw [← y9_.1] at e9;have y10_ := tupT (e7.symm.trans x10_);rw [← y10_.2] at e10;have y13_ := tupT (e7.symm.trans x13_);rw [← y13_.1] at e13;have y14_ := tupT (e7.symm.trans x14_);rw [← y14_.2] at e14;refine EL.ends (cs := [_, _, _, _, _, _, _, _, _, _, _, _, _, _, _, _]) ⟨e0, e1, e2, e3, e4, e5, e6, e7, e8, e9, e10, e11, e12, e13, e14, e15, trivial⟩ rfl ?_;replace q1 := q1.bl hb;replace q2 := q2.bl hb;replace hS7 := own_below hS7 hb (Nat.le_refl _);replace hbw := bo_ hbw hb;clear hb;clear hR1_ hL3_ hJ6_;refine EL.as rfl rfl (EL.nil (EX.seq (EC.seq ?_)));have lt_1 := q1.lt;have lt_2 := q2.lt;refine EC.regionP [[], [0], [], [0, 1, 2], [], [4], [0, 1, 2, 3, 4, 5], [], [0, 1, 2, 3, 4, 5, 6, 7], [0, 1, 2, 3, 4, 5, 6, 7, 8], [0, 1, 2, 3, 4, 5, 6, 7, 8, 9], [0, 1, 2, 3, 4, 5, 6, 7, 8, 9], [0, 1, 2, 3, 4, 5, 6, 7, 8, 9], [0, 1, 2, 3, 4, 5, 6, 7, 8, 9], [0, 1, 2, 3, 4, 5, 6, 7, 8, 9, 10], [0, 1, 2, 3, 4, 5, 6, 7, 8, 9, 10, 11, 14], [0, 1, 2, 3, 4, 5, 6, 7, 8, 9, 10, 11, 12, 14, 15], [0, 1, 2, 3, 4, 5, 6, 7, 8, 9, 10, 11, 12, 13, 14, 15, 16]] 17 [] (phi (fun i_ r => match i_ with | 0 => r 0 = .agg #[.slice Al ru.levels.length cl, .int .i64 ru.fade.lo, .int .i64 ru.fade.hi, .slice Aa ru.allow.length ca, .slice Ap ru.apart.length cp, .slice Ak ru.kinds.length ck] | 2 => r 2 = .slice At tanks.length ct | 4 => r 4 = .pointer (some ⟨g2, 0, none⟩) | 5 => r 5 = .slice Aj jobs.length cj | 7 => r 7 = .slice A7 steps.length c7 | 8 => r 8 = .tuple #[.int .i64 (verT ru tanks jobs steps).1, .int .i64 (verT ru tanks jobs steps).2.1, .int .i64 (verT ru tanks jobs steps).2.2, .int .i64 (verE ru tanks jobs steps)] | 9 => r 9 = .tuple #[.int .i64 (verT ru tanks jobs steps).1, .int .i64 (verT ru tanks jobs steps).2.1, .int .i64 (verT ru tanks jobs steps).2.2, .int .i64 (verE ru tanks jobs steps)] | 10 => r 10 = .int .i64 (verT ru tanks jobs steps).1 | 11 => r 11 = .int .i64 (verT ru tanks jobs steps).2.1 | 12 => r 12 = .int .i64 (verT ru tanks jobs steps).2.2 | 13 => r 13 = .int .i64 (verE ru tanks jobs steps) | 14 => r 14 = .int .i64 (verT ru tanks jobs steps).1 | 15 => r 15 = .int .i64 (verT ru tanks jobs steps).2.1 | 16 => r 16 = .int .i64 (verT ru tanks jobs steps).2.2 | _ => True) [(1, fun r w_ => ∃ vl va vp vk ua up, r 1 = rulesV vl va vp vk ru ∧ RdRules w_ w_.heap.size vl va vp vk ru ua up), (3, fun r w_ => ∃ v us, r 3 = v ∧ RdLL evC 2 w_ w_.heap.size v tanks us), (6, fun r w_ => ∃ v, r 6 = v ∧ Rd w_ w_.heap.size 1 v jobs.length (ints jobs))]) (by kernel_rfl) rfl rfl (phi_cons mono_rl (phi_cons mono_le (phi_cons mono_ji (phi_nil)))) (fun i_ hi_ => ?_) ?_
    ·match i_, hi_ with
     | 0, _ =>
      intro val w1 a hb ha hd;have ha := ha.s0 (d := 3) rfl
      exact hs_val ha rfl rfl (ld_28 rfl ((q1.below hb q1.lt).at (j := 0) rfl) ((q1.below hb q1.lt).at (j := 1) rfl) ((q1.below hb q1.lt).at (j := 2) rfl) ((q1.below hb q1.lt).at (j := 3) rfl) ((q1.below hb q1.lt).at (j := 4) rfl) ((q1.below hb q1.lt).at (j := 5) rfl)) rfl rfl
     | 1, _ =>
      intro val w1 a hb ha hd;have e0 : val 0 = _ := hd 0 (memB_mem.1 rfl);have ha := ha.s1 (d := 77) rfl e0;have hbz := (hbw.trans (hb.mono hbw.size));refine hs_call ha rfl rfl (cA1 cF14 rfl) (own_any (hr.below (hbz.mono hB)) (Nat.le_trans hB hbz.size) hwe) rfl ?_
      rintro e w' ⟨⟨vl2, va2, vp2, vk2, ua2, up2, rfl, hR2⟩, hb'⟩
      exact ⟨_, rfl, hb', ⟨vl2, va2, vp2, vk2, ua2, up2, rfl, hR2⟩⟩
     | 2, _ =>
      intro val w1 a hb ha hd;have ha := ha.s0 (d := 1) rfl
      exact hs_val ha rfl rfl (x_move rfl) rfl rfl
     | 3, _ =>
      intro val w1 a hb ha hd;have e2 : val 2 = _ := hd 2 (memB_mem.1 rfl);have ha := ha.s1 (d := 79) rfl e2;have hbz := (hbw.trans (hb.mono hbw.size));refine hs_call ha rfl rfl (cA1 cF39 rfl) (all_any (ht.below (hbz.mono hB)) (Nat.le_trans hB hbz.size) (by omega) htr) rfl ?_
      rintro e w' ⟨⟨v2, us2, rfl, hL⟩, hb'⟩
      exact ⟨_, rfl, hb', ⟨v2, us2, rfl, hL⟩⟩
     | 4, _ =>
      intro val w1 a hb ha hd;have ha := ha.s0 (d := 5) rfl
      exact hs_val ha rfl rfl (fa_98_0 rfl) rfl rfl
     | 5, _ =>
      intro val w1 a hb ha hd;have e4 : val 4 = _ := hd 4 (memB_mem.1 rfl);have ha := ha.s1 (d := 81) rfl e4
      exact hs_val ha rfl rfl (ld_22 rfl ((q2.below hb q2.lt).at (j := 0) rfl)) rfl rfl
     | 6, _ =>
      intro val w1 a hb ha hd;have e5 : val 5 = _ := hd 5 (memB_mem.1 rfl);have ha := ha.s1 (d := 82) rfl e5;have hbz := (hbw.trans (hb.mono hbw.size));refine hs_call ha rfl rfl (cA1 cF23 rfl) (numbers_any (hv.below (hbz.mono hB)) (Nat.le_trans hB hbz.size) (by omega)) rfl ?_
      rintro e w' ⟨⟨v2, rfl, hJ⟩, hb'⟩
      exact ⟨_, rfl, hb', ⟨v2, rfl, Rd.of_own hJ⟩⟩
     | 7, _ =>
      intro val w1 a hb ha hd;have ha := ha.s0 (d := 7) rfl
      exact hs_val ha rfl rfl (x_move rfl) rfl rfl
     | 8, _ =>
      intro val w1 a hb ha hd;obtain ⟨vl1_, va1_, vp1_, vk1_, ua1_, up1_, e1, hR1_⟩ := hd 1 (memB_mem.1 rfl);obtain ⟨v3_, us3_, e3, hL3_⟩ := hd 3 (memB_mem.1 rfl);obtain ⟨v6_, e6, hJ6_⟩ := hd 6 (memB_mem.1 rfl);have e7 : val 7 = _ := hd 7 (memB_mem.1 rfl);have ha := ha.sub (Sub.ins (d := 84) (Sub.ins (d := 83) (Sub.ins (d := 80) (Sub.ins (d := 78) (Sub.nil _) (dep_get rfl e1)) (dep_get rfl e3)) (dep_get rfl e6)) (dep_get rfl e7));refine hs_call ha rfl rfl (cA4 cF40 rfl rfl rfl rfl) (Verify_any hR1_ (Nat.le_refl _) hs hL3_ htr (by omega) hJ6_ (by omega) (Rd.of_own (own_below hS7 hb (Nat.le_refl _))) (by omega)) rfl ?_
      rintro e w' ⟨rfl, hb'⟩
      exact ⟨_, rfl, hb', rfl⟩
     | 9, _ =>
      intro val w1 a hb ha hd;have e8 : val 8 = _ := hd 8 (memB_mem.1 rfl);have ha := ha.s1 (d := 85) rfl e8
      exact hs_val ha rfl rfl (x_move rfl) rfl rfl
     | 10, _ =>
      intro val w1 a hb ha hd;have e9 : val 9 = _ := hd 9 (memB_mem.1 rfl);have ha := ha.s1 (d := 76) rfl e9
      exact hs_val ha rfl rfl (x_extract rfl rfl) rfl rfl
     | 11, _ =>
      intro val w1 a hb ha hd;have e9 : val 9 = _ := hd 9 (memB_mem.1 rfl);have ha := ha.s1 (d := 76) rfl e9
      exact hs_val ha rfl rfl (x_extract rfl rfl) rfl rfl
     | 12, _ =>
      intro val w1 a hb ha hd;have e9 : val 9 = _ := hd 9 (memB_mem.1 rfl);have ha := ha.s1 (d := 76) rfl e9
      exact hs_val ha rfl rfl (x_extract rfl rfl) rfl rfl
     | 13, _ =>
      intro val w1 a hb ha hd;have e9 : val 9 = _ := hd 9 (memB_mem.1 rfl);have ha := ha.s1 (d := 76) rfl e9
      exact hs_val ha rfl rfl (x_extract rfl rfl) rfl rfl
     | 14, _ =>
      intro val w1 a hb ha hd;have e10 : val 10 = _ := hd 10 (memB_mem.1 rfl);have ha := ha.s1 (d := 86) rfl e10
      exact hs_val ha rfl rfl (x_assign rfl) rfl rfl
     | 15, _ =>
      intro val w1 a hb ha hd;have e11 : val 11 = _ := hd 11 (memB_mem.1 rfl);have ha := ha.s1 (d := 87) rfl e11
      exact hs_val ha rfl rfl (x_assign rfl) rfl rfl
     | 16, _ =>
      intro val w1 a hb ha hd;have e12 : val 12 = _ := hd 12 (memB_mem.1 rfl);have ha := ha.s1 (d := 88) rfl e12
      exact hs_val ha rfl rfl (x_assign rfl) rfl rfl
     | k + 17, h => exact absurd h (by omega)
    ·intro val wR5 hb halc hd
     have e0 : val 0 = _ := hd 0 (by omega)
     obtain ⟨vl1_, va1_, vp1_, vk1_, ua1_, up1_, e1, hR1_⟩ := hd 1 (by omega)
     have e2 : val 2 = _ := hd 2 (by omega)
     obtain ⟨v3_, us3_, e3, hL3_⟩ := hd 3 (by omega)
     have e4 : val 4 = _ := hd 4 (by omega)
     have e5 : val 5 = _ := hd 5 (by omega)
     obtain ⟨v6_, e6, hJ6_⟩ := hd 6 (by omega)
     have e7 : val 7 = _ := hd 7 (by omega)
     have e8 : val 8 = _ := hd 8 (by omega)
     have e9 : val 9 = _ := hd 9 (by omega)
     have e10 : val 10 = _ := hd 10 (by omega)
     have e11 : val 11 = _ := hd 11 (by omega)
     have e12 : val 12 = _ := hd 12 (by omega)
     have e13 : val 13 = _ := hd 13 (by omega)
     have e14 : val 14 = _ := hd 14 (by omega)
     have e15 : val 15 = _ := hd 15 (by omega)
     have e16 : val 16 = _ := hd 16 (by omega)
     refine EL.ends (cs := [_, _, _, _, _, _, _, _, _, _, _, _, _, _, _, _, _]) ⟨e0, e1, e2, e3, e4, e5, e6, e7, e8, e9, e10, e11, e12, e13, e14, e15, e16, trivial⟩ rfl ?_;replace q1 := q1.bl hb;replace q2 := q2.bl hb;replace hS7 := own_below hS7 hb (Nat.le_refl _);replace hP := own_below hP hb (Nat.le_refl _);replace hbw := bo_ hbw hb;clear hb;clear hR1_ hL3_ hJ6_;refine EL.as rfl rfl (EL.nil (EX.seq (EC.seq (EC.seq (EC.region (EL.as rfl rfl (EL.nil (EX.seq (EC.block ?_)))))))));have hcl := Below.refl wR5.heap.size wR5;refine EC.loopD [6, 16, 90, 91, 92, 93, 94, 95, 96, 97, 98, 99, 100, 101, 102, 103, 104, 105] (fun x : Nat => [(16, .int .i64 (x : Nat))]) (fun x W => x ≤ steps.length ∧ Below wR5.heap.size wR5 W) (fun x => steps.length - x) 0 ⟨Nat.zero_le _, hcl⟩ ⟨rfl, trivial⟩ ?_
     clear hcl
     rintro i wx ⟨hi, hb0⟩
     replace q1 := q1.bl hb0;replace q2 := q2.bl hb0;replace hS7 := own_below hS7 hb0 (Nat.le_refl _);replace hP := own_below hP hb0 (Nat.le_refl _);replace hbw := hbw.trans (hb0.mono hbw.size)
     by_cases hlt : i < steps.length
     ·
      obtain ⟨b1, o1, eb1, _, x0, x1⟩ := stps_cells steps i hlt wx wx.heap.size _ _ _ (Rd.of_own hS7);obtain ⟨b2, o2, eb2, _, y0, y1⟩ := stps_cells steps i hlt w B _ _ _ hst;refine EC.seq (EC.seq (EC.region (EL.mv rfl rfl (EL.mv rfl rfl (EL.val (ln_65 rfl) rfl ?_)))));refine EL.val (x_lss rfl rfl (decide_eq_true (show (((i : Nat) : Int) < ((steps.length : Nat) : Int)) by omega))) rfl ?_
      refine EL.nil (EX.seq (EC.yes rfl (EC.skip (EX.seq (EC.seq (EC.block (EC.seq ?_)))))));refine EC.regionQ (by kernel_rfl) (by kernel_rfl) ?_
      refine EQ.mv rfl rfl (EQ.mv rfl rfl ?_);refine EQ.val (fun _ hw => (ix_65 (by show some (Value.slice A7 _ _) = _; rw [eb1]) rfl hlt)) rfl ?_
      refine EQ.val (fun _ hw => (ld_70 rfl (below_load hw x0) (below_load hw x1))) rfl ?_
      refine EQ.val (fun _ hw => (fa_98_1 rfl)) rfl ?_
      refine EQ.val (fun _ hw => (ld_65 rfl (below_load hw (q2.at (j := 1) rfl)))) rfl ?_
      refine EQ.mv rfl rfl ?_;refine EQ.val (fun _ hw => (ix_65 (by show some (Value.slice As _ _) = _; rw [eb2]) rfl hlt)) rfl ?_
      refine EQ.val (fun _ hw => (ld_70 rfl (below_load hw (below_load hbw y0)) (below_load hw (below_load hbw y1)))) rfl ?_
      refine EQ.val (fun _ hw => (neq_70 (r := false) rfl rfl (by simp))) rfl ?_
      refine EQ.fin (fun w6 hw_ => ?_)
      replace q1 := q1.bl hw_;replace q2 := q2.bl hw_;replace hS7 := own_below hS7 hw_ (Nat.le_refl _);replace hP := own_below hP hw_ (Nat.le_refl _);replace hbw := bo_ hbw hw_;replace hb0 := bo_ hb0 hw_;clear hw_;refine EX.seq (EC.no rfl (EC.skip (EX.blk (EX.seq (EC.region (EL.mv rfl rfl ?_))))));refine EL.val (x_add rfl rfl (c := ((i + 1 : Nat) : Int)) ((IntWalk.i64_in _ ⟨by first | omega | (simp only; omega), by first | omega | (simp only; omega)⟩).trans (by first | omega | (simp only; omega)))) rfl ?_
      refine EL.as rfl rfl (EL.nil ?_);refine EX.roundD (i + 1) ⟨rfl, trivial⟩ (by repeat first | with_reducible exact .refl _ | refine sp_ rfl ?_ | exact .refl _ | refine sd_ rfl ?_ | refine sn_ ?_) ⟨hlt, hb0⟩ (by omega)
     ·
      refine EC.seq (EC.seq (EC.region (EL.mv rfl rfl (EL.mv rfl rfl (EL.val (ln_65 rfl) rfl ?_)))));refine EL.val (x_lss rfl rfl (decide_eq_false (show ¬(((i : Nat) : Int) < ((steps.length : Nat) : Int)) by omega))) rfl ?_
      refine EL.nil (EX.seq (EC.no rfl (EC.exit (EX.seq_exit (EX.seq_exit (EX.blk_here (EX.seq (EC.seq (EC.region ?_)))))))));refine EL.val (ld_28 rfl (q1.at (j := 0) rfl) (q1.at (j := 1) rfl) (q1.at (j := 2) rfl) (q1.at (j := 3) rfl) (q1.at (j := 4) rfl) (q1.at (j := 5) rfl)) rfl (EL.mv rfl rfl (EL.val (fa_98_0 rfl) rfl (EL.val (ld_22 rfl (q2.at (j := 0) rfl)) rfl ?_)));refine EL.call (cA3 cF41 rfl rfl rfl) rfl (fleet_any (hr.below (hbw.mono hB)) (Nat.le_trans hB hbw.size) hs (ht.below (hbw.mono hB)) htr (by omega) (hv.below (hbw.mono hB)) (by omega)) ?_
      rintro e w7 ⟨⟨v17, rfl, hft⟩, hc7⟩
      refine ⟨_, rfl, ?_⟩;replace q1 := q1.bl hc7;replace q2 := q2.bl hc7;replace hS7 := own_below hS7 hc7 (Nat.le_refl _);replace hP := own_below hP hc7 (Nat.le_refl _);replace hbw := bo_ hbw hc7;have hcf : codeF ru tanks jobs = if yardE ru tanks jobs = 0 then (if depF ru tanks jobs < jobs.length then 7 else 0) else yardE ru tanks jobs := rfl
      by_cases hy : yardE ru tanks jobs = 0
      ·
       obtain ⟨ts, hT, hmp, hok⟩ := hft hy;obtain ⟨AT, cT, rfl, _⟩ := (Rd.of_own hT.own).shape;clear hc7 hft;obtain ⟨hrb, ht3, ht0, hjz⟩ := yard_okV hy;have hro := rules_ok hrb;obtain ⟨hj1, hj2, hj3⟩ := jobs_ok hjz;obtain ⟨js, ejs⟩ : ∃ z, z = jobs.map Int.toNat := ⟨_, rfl⟩;have hjl : js.length = jobs.length := by rw [ejs, List.length_map]
       rw [← ejs] at hj1 hj2 hj3;have hjm : ∀ c ∈ js, c < ru.levels.length := fun c hc => by obtain ⟨i, hi, rfl⟩ := List.getElem_of_mem hc; rw [← getD_in (d := 0) hi]; exact hj2 i hi
       have hvj : Rd w B 1 (.slice Aj jobs.length cj) js.length (ints (jsI js)) := by rw [hj1, hjl]; exact hv
       have htl : ts.length = tanks.length := by have h_ := congrArg List.length hmp; rwa [List.length_map, List.length_map] at h_
       have hsf : SimF ru tanks.length (fillF ru tanks tanks.length) (ts.map (·.1)) := by rw [hmp]; exact simf_fleet hro ht3 (yard_all hy)
       have hum : (ts.map (·.1)).length = ts.length := List.length_map _;have hdd : depF ru tanks jobs = depthR (extY (yardOf ru tanks.length)) js (fillF ru tanks tanks.length, pl0) := by unfold depF; rw [ejs]
       obtain ⟨hf1, hf2⟩ := hfp;rw [← ejs] at hf1;refine EL.mv rfl rfl (EL.xt rfl rfl rfl (EL.xt rfl rfl rfl (EL.as rfl rfl (EL.as rfl rfl (EL.nil (EX.seq (EC.seq (EC.seq (EC.region ?_)))))))));refine EL.mv rfl rfl ?_;refine EL.val (x_neq (r := false) rfl rfl (decide_eq_false (fun h => h hy))) rfl ?_
       refine EL.nil (EX.seq (EC.no rfl (EC.skip (EX.seq (EC.seq (EC.region (EL.val (ld_28 rfl (q1.at (j := 0) rfl) (q1.at (j := 1) rfl) (q1.at (j := 2) rfl) (q1.at (j := 3) rfl) (q1.at (j := 4) rfl) (q1.at (j := 5) rfl)) rfl (EL.mv rfl rfl (EL.val (fa_98_0 rfl) rfl ?_)))))))));refine EL.val (ld_22 rfl (q2.at (j := 0) rfl)) rfl ?_;have hca := rFleet_any (hr.below (hbw.mono hB)) (Nat.le_trans hB hbw.size) hro hj2 (by omega) hT (by omega) hok (by decide) (hvj.below (hbw.mono hB))
       obtain ⟨bv, ebv⟩ : ∃ z, z = bestR ru js (ts.map (·.1)) := ⟨_, rfl⟩;rw [← ebv] at hca;refine EL.call (cA3 cF28 rfl rfl rfl) rfl hca ?_
       rintro e w8 ⟨⟨AS, cS, rfl, hst2⟩, hc8⟩
       refine ⟨_, rfl, ?_⟩;replace q1 := q1.bl hc8;replace q2 := q2.bl hc8;replace hS7 := own_below hS7 hc8 (Nat.le_refl _);replace hP := own_below hP hc8 (Nat.le_refl _);replace hT := hT.below hc8;replace hbw := bo_ hbw hc8;clear hc8 hca;refine EL.newP al_67 rfl ?_;intro g9 w9 q9 hb9 hg9 hl9;have n1_9 := q1.na hg9;have n2_9 := q2.na hg9;have bhbw_9 := Nat.le_trans hbw.size hg9;replace q1 := q1.bl hb9;replace q2 := q2.bl hb9;replace hS7 := own_below hS7 hb9 (Nat.le_refl _);replace hP := own_below hP hb9 (Nat.le_refl _);replace hT := hT.below hb9;replace hst2 := own_below hst2 hb9 (Nat.le_refl _);replace hbw := bo_ hbw hb9;clear hb9 hg9 hl9;refine EL.store rfl rfl q9 sz_67 rfl rfl rfl rfl ?_;intro w10 hq10 hg10;replace q1 := q1.gr hg10 n1_9;replace q2 := q2.gr hg10 n2_9;replace hS7 := own_type hS7 q9 rfl hg10;replace hP := own_type hP q9 rfl hg10;replace hT := hT.type q9 rfl rfl rfl hg10;replace hst2 := own_type hst2 q9 rfl hg10;replace hbw := below_store hbw hg10 bhbw_9;replace q9 := hq10;clear hg10 hq10;refine EL.nil (EX.seq ?_);refine EC.cutD [6, 157, 158, 159, 160, 161, 162, 163, 164, 165, 166, 167, 168, 169, 170, 171, 172, 173, 174, 175, 176, 177, 178, 179, 180, 181, 182, 183, 184, 185, 186, 187, 188, 189, 190, 191, 192, 193, 194, 195] (fun _ : Unit => []) (fun _ W => Blk W g1 28 #[.slice Al ru.levels.length cl, .int .i64 ru.fade.lo, .int .i64 ru.fade.hi, .slice Aa ru.allow.length ca, .slice Ap ru.apart.length cp, .slice Ak ru.kinds.length ck] ∧ Blk W g2 98 #[.slice Aj jobs.length cj, .slice As steps.length cs] ∧ OwnTs W ru.levels.length (.slice AT ts.length cT) ts ∧ Below w.heap.size w W) ?_ ?_
       ·
        by_cases hd : depF ru tanks jobs < jobs.length
        ·
         rw [if_pos hy, if_pos hd] at hcf;have hat : atF ru tanks jobs = depF ru tanks jobs := by unfold atF; rw [if_pos hy, if_pos hd]
         have hcn : codeF ru tanks jobs ≠ 0 := by rw [hcf]; decide
         obtain ⟨rfl, hcc⟩ := hf2 hcn;have hbn := best_none (us := ts.map (·.1)) hro hjm (by rw [hum, htl]; exact hsf) (by rw [hum, htl, ← hdd, hjl]; exact hd)
         rw [hum, htl, ← hdd, ← ebv] at hbn;subst hbn;refine EC.seq (EC.region (EL.val (fa_67_0 rfl) rfl (EL.val (ld_4 rfl (q9.at (j := 0) rfl)) rfl (EL.val (x_not rfl) rfl (EL.nil (EX.seq (EC.yes rfl (EC.seq (EC.region ?_)))))))));refine EL.mv rfl rfl ?_;refine EL.val (x_neq (r := false) rfl rfl (decide_eq_false (fun h => h hcf))) rfl ?_
         refine EL.mv rfl rfl (EL.mg rfl rfl rfl rfl (EL.valg rfl rfl (fa_67_4 rfl) rfl (EL.valg rfl rfl (ld_3 rfl (q9.at (j := 4) rfl)) rfl ?_)));refine EL.valg rfl rfl (x_neq (r := false) rfl rfl (decide_eq_false (fun h => h (by rw [hat])))) rfl ?_
         refine EL.pf rfl rfl rfl (EL.mv rfl rfl (EL.mg rfl rfl rfl rfl (EL.valg rfl rfl (ln_65 rfl) rfl ?_)));refine EL.valg rfl rfl (x_neq (r := false) rfl rfl (decide_eq_false (fun h => h rfl))) rfl ?_
         refine EL.pf rfl rfl rfl (EL.mv rfl rfl (EL.mg rfl rfl rfl rfl ?_));refine EL.valg rfl rfl (x_neq (r := false) rfl rfl (decide_eq_false (fun h => h hcc))) rfl ?_
         refine EL.pf rfl rfl rfl (EL.nil (EX.seq (EC.no rfl (EC.skip ?_))))
         exact EX.cutE () trivial (by repeat first | with_reducible exact (Sub.refl _).del _ | refine sp_ rfl ?_ | exact (Sub.refl _).del _ | refine sd_ rfl ?_ | refine sn_ ?_) ⟨q1, q2, hT, hbw⟩
        ·
         rw [if_pos hy, if_neg hd] at hcf;have hat : atF ru tanks jobs = 0 := by unfold atF; rw [if_pos hy, if_neg hd]
         obtain ⟨p, hbp, rfl, ec⟩ := hf1 hcf;have hb1 := best_some (us := ts.map (·.1)) hro hjm (by rw [hum, htl]; exact hsf) (by rw [hum, htl]; exact hbp)
         rw [← ebv] at hb1;obtain ⟨bo, up⟩ := bv
         dsimp only at hb1
         subst hb1;have hpl := best_len hro hbp;refine EC.seq (EC.region (EL.val (fa_67_0 rfl) rfl (EL.val (ld_4 rfl (q9.at (j := 0) rfl)) rfl (EL.val (x_not rfl) rfl (EL.nil (EX.seq (EC.no rfl (EC.seq (EC.region ?_)))))))));refine EL.mv rfl rfl ?_;refine EL.val (x_neq (r := false) rfl rfl (decide_eq_false (fun h => h hcf))) rfl ?_
         refine EL.mv rfl rfl (EL.mg rfl rfl rfl rfl ?_);refine EL.valg rfl rfl (x_neq (r := false) rfl rfl (decide_eq_false (fun h => h (by rw [hat]; rfl)))) rfl ?_
         refine EL.pf rfl rfl rfl (EL.mv rfl rfl (EL.mg rfl rfl rfl rfl (EL.valg rfl rfl (fa_67_3 rfl) rfl (EL.valg rfl rfl (ld_3 rfl (q9.at (j := 3) rfl)) rfl ?_))));refine EL.valg rfl rfl (x_neq (r := false) rfl rfl (decide_eq_false (fun h => h ec))) rfl ?_
         refine EL.pf rfl rfl rfl (EL.mv rfl rfl (EL.mg rfl rfl rfl rfl (EL.valg rfl rfl (fa_67_1 rfl) rfl (EL.valg rfl rfl (ld_65 rfl (q9.at (j := 1) rfl)) rfl ?_))));refine EL.callg rfl rfl (cA2 cF42 rfl rfl) rfl (same_any (l := p.steps) (Rd.of_own hP) (Rd.of_own hst2) (by omega)) ?_
         rintro e w11 ⟨rfl, hc11⟩
         refine ⟨_, rfl, ?_⟩;replace q1 := q1.bl hc11;replace q2 := q2.bl hc11;replace q9 := q9.bl hc11;replace hS7 := own_below hS7 hc11 (Nat.le_refl _);replace hP := own_below hP hc11 (Nat.le_refl _);replace hT := hT.below hc11;replace hst2 := own_below hst2 hc11 (Nat.le_refl _);replace hbw := bo_ hbw hc11;clear hc11;refine EL.valg rfl rfl (x_not rfl) rfl (EL.pf rfl rfl rfl (EL.nil (EX.seq (EC.no rfl (EC.skip ?_)))))
         exact EX.cutE () trivial (by repeat first | with_reducible exact (Sub.refl _).del _ | refine sp_ rfl ?_ | exact (Sub.refl _).del _ | refine sd_ rfl ?_ | refine sn_ ?_) ⟨q1, q2, hT, hbw⟩
       ·
        clear q1 q2 hT hbw hP hst2
        rintro ⟨⟩ W5 ⟨q1, q2, hT, hbw⟩
        refine EC.seq (EC.seq (EC.region (EL.mv rfl rfl (EL.val (ln_65 rfl) rfl (EL.val (fa_98_0 rfl) rfl (EL.val (ld_22 rfl (q2.at (j := 0) rfl)) rfl (EL.val (ln_22 rfl) rfl ?_)))))))
        by_cases hll : steps.length = jobs.length
        ·
         refine EL.val (x_neq (r := false) rfl rfl (decide_eq_false (by omega))) rfl ?_
         refine EL.nil (EX.seq (EC.no rfl (EC.skip (EX.seq (EC.seq (EC.seq (EC.region (EL.as rfl rfl (EL.nil ?_)))))))));refine EX.seq (EC.block ?_);refine EC.loopD [6, 20, 21, 219, 220, 221, 222, 223, 224, 225, 226, 227, 228, 229, 230, 231, 232, 233, 234, 235, 236, 237, 238, 239, 240, 241, 242, 243, 244, 245, 246, 247, 248, 249, 250, 251, 252, 253, 254, 255, 256, 257, 258, 259, 260, 261, 262, 263, 264, 265, 266, 267, 268, 269] (fun x : Nat => [(20, .int .i64 (x : Nat))]) (fun x W => x ≤ steps.length ∧ (∀ k, k < x → stB ru tanks.length (steps.getD k stp0) = true) ∧ Blk W g1 28 #[.slice Al ru.levels.length cl, .int .i64 ru.fade.lo, .int .i64 ru.fade.hi, .slice Aa ru.allow.length ca, .slice Ap ru.apart.length cp, .slice Ak ru.kinds.length ck] ∧ Blk W g2 98 #[.slice Aj jobs.length cj, .slice As steps.length cs] ∧ OwnTs W ru.levels.length (.slice AT ts.length cT) ts ∧ Below w.heap.size w W) (fun x => steps.length - x) 0 ⟨Nat.zero_le _, (fun k hk => absurd hk (Nat.not_lt_zero _)), q1, q2, hT, hbw⟩ ⟨rfl, trivial⟩ ?_
         clear q1 q2 hT hbw
         rintro i wx ⟨hi, hall, q1, q2, hT, hbw⟩
         by_cases hlt : i < steps.length
         ·
          obtain ⟨b2, o2, eb2, _, y0, y1⟩ := stps_cells steps i hlt w B _ _ _ hst;obtain ⟨x, ex⟩ : ∃ z, z = steps.getD i stp0 := ⟨_, rfl⟩;rw [← ex] at y0 y1;refine EC.seq (EC.seq (EC.region (EL.mv rfl rfl (EL.mv rfl rfl (EL.val (ln_65 rfl) rfl ?_)))));refine EL.val (x_lss rfl rfl (decide_eq_true (show (((i : Nat) : Int) < ((steps.length : Nat) : Int)) by omega))) rfl ?_
          refine EL.nil (EX.seq (EC.yes rfl (EC.skip (EX.seq (EC.seq (EC.block (EC.seq (EC.region (EL.val (fa_98_1 rfl) rfl ?_)))))))));refine EL.val (ld_65 rfl (q2.at (j := 1) rfl)) rfl (EL.mv rfl rfl ?_);refine EL.val (ix_65 (by show some (Value.slice As _ _) = _; rw [eb2]) rfl hlt) rfl ?_
          refine EL.val (ld_70 rfl (below_load hbw y0) (below_load hbw y1)) rfl (EL.newP al_70 rfl ?_);intro g12 w12 q12 hb12 hg12 hl12;have n1_12 := q1.na hg12;have n2_12 := q2.na hg12;have bhbw_12 := Nat.le_trans hbw.size hg12;replace q1 := q1.bl hb12;replace q2 := q2.bl hb12;replace hT := hT.below hb12;replace hbw := bo_ hbw hb12;clear hb12 hg12 hl12;refine EL.store rfl rfl q12 sz_70 rfl rfl rfl rfl ?_;intro w13 hq13 hg13;replace q1 := q1.gr hg13 n1_12;replace q2 := q2.gr hg13 n2_12;replace hT := hT.type q12 rfl rfl rfl hg13;replace hbw := below_store hbw hg13 bhbw_12;replace q12 := hq13;clear hg13 hq13;refine EL.nil (EX.seq ?_);refine EC.cutD [230, 231, 232, 233, 234, 235, 236, 237, 238, 239, 240, 241, 242, 243, 244, 245, 246, 247, 248, 249, 250, 251, 252] (fun y : Bool => [(252, .bool y)]) (fun y W => y = !stB ru tanks.length x ∧ Blk W g1 28 #[.slice Al ru.levels.length cl, .int .i64 ru.fade.lo, .int .i64 ru.fade.hi, .slice Aa ru.allow.length ca, .slice Ap ru.apart.length cp, .slice Ak ru.kinds.length ck] ∧ Blk W g2 98 #[.slice Aj jobs.length cj, .slice As steps.length cs] ∧ OwnTs W ru.levels.length (.slice AT ts.length cT) ts ∧ Below w.heap.size w W) ?_ ?_
          ·
           refine EC.region (EL.val (fa_70_0 rfl) rfl (EL.val (ld_3 rfl (q12.at (j := 0) rfl)) rfl ?_))
           by_cases k1 : x.tank < 0
           ·
            refine EL.val (x_lss (r := true) rfl rfl (decide_eq_true (by omega))) rfl ?_
            refine EL.mv rfl rfl (EL.skip rfl rfl rfl rfl (EL.skip rfl rfl rfl rfl (EL.skip rfl rfl rfl rfl (EL.skip rfl rfl rfl rfl (EL.skip rfl rfl rfl rfl (EL.pt rfl rfl rfl (EL.mv rfl rfl (EL.skip rfl rfl rfl rfl (EL.skip rfl rfl rfl rfl ?_)))))))));refine EL.skip rfl rfl rfl rfl (EL.pt rfl rfl rfl (EL.mv rfl rfl (EL.skip rfl rfl rfl rfl (EL.skip rfl rfl rfl rfl (EL.skip rfl rfl rfl rfl (EL.skip rfl rfl rfl rfl (EL.skip rfl rfl rfl rfl (EL.skip rfl rfl rfl rfl (EL.pt rfl rfl rfl ?_)))))))));refine EL.nil ?_
            exact EX.cutE true ⟨rfl, trivial⟩ (by repeat first | with_reducible exact (Sub.refl _).del _ | refine sp_ rfl ?_ | exact (Sub.refl _).del _ | refine sd_ rfl ?_ | refine sn_ ?_) ⟨stB_bad (by omega), q1, q2, hT, hbw⟩
           ·
            refine EL.val (x_lss (r := false) rfl rfl (decide_eq_false (by omega))) rfl ?_
            refine EL.mv rfl rfl (EL.valg rfl rfl (fa_70_0 rfl) rfl (EL.valg rfl rfl (ld_3 rfl (q12.at (j := 0) rfl)) rfl (EL.mg rfl rfl rfl rfl (EL.valg rfl rfl (ln_96 rfl) rfl ?_))))
            by_cases k2 : ((tanks.length : Nat) : Int) ≤ x.tank
            ·
             refine EL.valg rfl rfl (x_geq (r := true) rfl rfl (decide_eq_true (by omega))) rfl ?_
             refine EL.pf rfl rfl rfl (EL.mv rfl rfl (EL.skip rfl rfl rfl rfl (EL.skip rfl rfl rfl rfl (EL.skip rfl rfl rfl rfl (EL.pt rfl rfl rfl (EL.mv rfl rfl (EL.skip rfl rfl rfl rfl (EL.skip rfl rfl rfl rfl (EL.skip rfl rfl rfl rfl ?_)))))))));refine EL.skip rfl rfl rfl rfl (EL.skip rfl rfl rfl rfl (EL.skip rfl rfl rfl rfl (EL.pt rfl rfl rfl (EL.nil ?_))))
             exact EX.cutE true ⟨rfl, trivial⟩ (by repeat first | with_reducible exact (Sub.refl _).del _ | refine sp_ rfl ?_ | exact (Sub.refl _).del _ | refine sd_ rfl ?_ | refine sn_ ?_) ⟨stB_bad (by omega), q1, q2, hT, hbw⟩
            ·
             refine EL.valg rfl rfl (x_geq (r := false) rfl rfl (decide_eq_false (by omega))) rfl ?_
             refine EL.pf rfl rfl rfl (EL.mv rfl rfl (EL.valg rfl rfl (fa_70_1 rfl) rfl (EL.valg rfl rfl (ld_3 rfl (q12.at (j := 1) rfl)) rfl ?_)))
             by_cases k3 : x.wash < -1
             ·
              refine EL.valg rfl rfl (x_lss (r := true) rfl rfl (decide_eq_true (by omega))) rfl ?_
              refine EL.pf rfl rfl rfl (EL.mv rfl rfl (EL.skip rfl rfl rfl rfl (EL.skip rfl rfl rfl rfl (EL.skip rfl rfl rfl rfl (EL.skip rfl rfl rfl rfl (EL.skip rfl rfl rfl rfl (EL.skip rfl rfl rfl rfl (EL.pt rfl rfl rfl (EL.nil ?_)))))))))
              exact EX.cutE true ⟨rfl, trivial⟩ (by repeat first | with_reducible exact (Sub.refl _).del _ | refine sp_ rfl ?_ | exact (Sub.refl _).del _ | refine sd_ rfl ?_ | refine sn_ ?_) ⟨stB_bad (by omega), q1, q2, hT, hbw⟩
             ·
              refine EL.valg rfl rfl (x_lss (r := false) rfl rfl (decide_eq_false (by omega))) rfl ?_
              refine EL.pf rfl rfl rfl (EL.mv rfl rfl (EL.valg rfl rfl (fa_70_1 rfl) rfl (EL.valg rfl rfl (ld_3 rfl (q12.at (j := 1) rfl)) rfl (EL.valg rfl rfl (fa_28_4 rfl) rfl (EL.valg rfl rfl (ld_26 rfl (q1.at (j := 5) rfl)) rfl (EL.valg rfl rfl (ln_26 rfl) rfl ?_))))))
              by_cases k4 : ((ru.kinds.length : Nat) : Int) ≤ x.wash
              ·
               refine EL.valg rfl rfl (x_geq (r := true) rfl rfl (decide_eq_true (by omega))) rfl ?_
               refine EL.pf rfl rfl rfl (EL.nil ?_)
               exact EX.cutE true ⟨rfl, trivial⟩ (by repeat first | with_reducible exact (Sub.refl _).del _ | refine sp_ rfl ?_ | exact (Sub.refl _).del _ | refine sd_ rfl ?_ | refine sn_ ?_) ⟨stB_bad (by omega), q1, q2, hT, hbw⟩
              ·
               refine EL.valg rfl rfl (x_geq (r := false) rfl rfl (decide_eq_false (by omega))) rfl ?_
               refine EL.pf rfl rfl rfl (EL.nil ?_)
               exact EX.cutE false ⟨rfl, trivial⟩ (by repeat first | with_reducible exact (Sub.refl _).del _ | refine sp_ rfl ?_ | exact (Sub.refl _).del _ | refine sd_ rfl ?_ | refine sn_ ?_) ⟨stB_good (by omega), q1, q2, hT, hbw⟩
          ·
           clear q1 q2 q12 hT hbw
           rintro y W6 ⟨hyx, q1, q2, hT, hbw⟩
           cases y
           ·
            have hxb : stB ru tanks.length x = true := by cases h : stB ru tanks.length x <;> rw [h] at hyx <;> first | rfl | cases hyx
            refine EC.no rfl (EC.skip (EX.blk (EX.seq (EC.region (EL.mv rfl rfl ?_)))));refine EL.val (x_add rfl rfl (c := ((i + 1 : Nat) : Int)) ((IntWalk.i64_in _ ⟨by first | omega | (simp only; omega), by first | omega | (simp only; omega)⟩).trans (by first | omega | (simp only; omega)))) rfl ?_
            refine EL.as rfl rfl (EL.nil ?_);refine EX.roundD (i + 1) ⟨rfl, trivial⟩ (by repeat first | with_reducible exact .refl _ | refine sp_ rfl ?_ | exact .refl _ | refine sd_ rfl ?_ | refine sn_ ?_) ⟨hlt, (fun k hk => by rcases Nat.lt_or_ge k i with h0 | h0; exact hall k h0; rw [show k = i by omega, ← ex]; exact hxb), q1, q2, hT, hbw⟩ (by omega)
           ·
            have hxb : stB ru tanks.length x = false := by cases h : stB ru tanks.length x <;> rw [h] at hyx <;> first | rfl | cases hyx
            have hve : verE ru tanks jobs steps = 2 := by rw [verE, if_neg (fun h => h hy), if_neg (fun h => h hll), if_neg (fun h => by have h2 := all_getD2 h hlt; rw [← ex, hxb] at h2; cases h2)]
            have hvt : verT ru tanks jobs steps = (0, 0, 0) := by rw [verT, if_neg (by rw [hve]; decide)]
            refine EC.yes rfl (EC.seq (EC.region (EL.mv rfl rfl (EL.val (x_eql (r := true) rfl rfl (decide_eq_true hve)) rfl (EL.mv rfl rfl (EL.mg rfl rfl rfl rfl ?_))))));refine EL.valg rfl rfl (x_eql (r := true) rfl rfl (decide_eq_true (by rw [hvt]))) rfl ?_
            refine EL.pt rfl rfl rfl (EL.mv rfl rfl (EL.mg rfl rfl rfl rfl ?_));refine EL.valg rfl rfl (x_eql (r := true) rfl rfl (decide_eq_true (by rw [hvt]))) rfl ?_
            refine EL.pt rfl rfl rfl (EL.mv rfl rfl (EL.mg rfl rfl rfl rfl ?_));refine EL.valg rfl rfl (x_eql (r := true) rfl rfl (decide_eq_true (by rw [hvt]))) rfl ?_
            refine EL.pt rfl rfl rfl (EL.mv rfl rfl (EL.callg rfl rfl (cA0 cF12) rfl (known_any _) ?_))
            rintro e w14 ⟨rfl, hc14⟩
            refine ⟨_, rfl, ?_⟩;replace q1 := q1.bl hc14;replace q2 := q2.bl hc14;replace hT := hT.below hc14;replace hbw := bo_ hbw hc14;clear hc14;refine EL.pt rfl rfl rfl (EL.as rfl rfl (EL.nil (EX.seq (EC.ret (EX.blk_ret (EX.seq_ret (EX.seq_ret (EX.blk_ret (EX.seq_ret ?_)))))))))
            exact EX.done (res1 rfl rfl) ⟨rfl, hbw⟩
         ·
          have hxe : i = steps.length := by omega
          have hal : steps.all (stB ru tanks.length) = true := all_stp (hxe ▸ hall);have hve : verE ru tanks jobs steps = 0 := by rw [verE, if_neg (fun h => h hy), if_neg (fun h => h hll), if_pos hal]
          have hvv : verG (goR ru) (kcost ru) js steps 0 (ts.map (·.1)) 0 0 = verT ru tanks jobs steps := by rw [verT, if_pos hve, ← ejs]; exact (ver_sim hro js steps hjm hal 0 _ _ 0 0 hsf).symm
          refine EC.seq (EC.seq (EC.region (EL.mv rfl rfl (EL.mv rfl rfl (EL.val (ln_65 rfl) rfl ?_)))));refine EL.val (x_lss rfl rfl (decide_eq_false (show ¬(((i : Nat) : Int) < ((steps.length : Nat) : Int)) by omega))) rfl ?_
          refine EL.nil (EX.seq (EC.no rfl (EC.exit (EX.seq_exit (EX.seq_exit (EX.blk_here (EX.seq (EC.seq (EC.region ?_)))))))));refine EL.val (ld_28 rfl (q1.at (j := 0) rfl) (q1.at (j := 1) rfl) (q1.at (j := 2) rfl) (q1.at (j := 3) rfl) (q1.at (j := 4) rfl) (q1.at (j := 5) rfl)) rfl (EL.mv rfl rfl (EL.val (fa_98_0 rfl) rfl (EL.val (ld_22 rfl (q2.at (j := 0) rfl)) rfl (EL.val (fa_98_1 rfl) rfl (EL.val (ld_65 rfl (q2.at (j := 1) rfl)) rfl ?_)))));have hca := rVerify_any (hr.below (hbw.mono hB)) (Nat.le_trans hB hbw.size) hro hj2 (by omega) hT (by omega) (by omega) hok (by decide) (hvj.below (hbw.mono hB)) (hst.below (hbw.mono hB)) (by omega) (by rw [htl]; exact hal)
          rw [hvv] at hca;refine EL.call (cA4 cF43 rfl rfl rfl rfl) rfl (hca) ?_
          rintro e w15 ⟨rfl, hc15⟩
          refine ⟨_, rfl, ?_⟩;replace q1 := q1.bl hc15;replace q2 := q2.bl hc15;replace hT := hT.below hc15;replace hbw := bo_ hbw hc15;clear hc15;clear hca;refine EL.mv rfl rfl (EL.xt rfl rfl rfl (EL.xt rfl rfl rfl (EL.xt rfl rfl rfl (EL.as rfl rfl (EL.as rfl rfl (EL.as rfl rfl (EL.nil (EX.seq (EC.seq ?_)))))))));refine EC.region (EL.mv rfl rfl (EL.val (x_eql (r := true) rfl rfl (decide_eq_true hve)) rfl (EL.mv rfl rfl (EL.mg rfl rfl rfl rfl (EL.mg rfl rfl rfl rfl (EL.valg rfl rfl (x_eql (r := true) rfl rfl (decide_eq_true rfl)) rfl (EL.pt rfl rfl rfl (EL.mv rfl rfl (EL.mg rfl rfl rfl rfl ?_)))))))));refine EL.mg rfl rfl rfl rfl (EL.valg rfl rfl (x_eql (r := true) rfl rfl (decide_eq_true rfl)) rfl (EL.pt rfl rfl rfl (EL.mv rfl rfl (EL.mg rfl rfl rfl rfl (EL.mg rfl rfl rfl rfl (EL.valg rfl rfl (x_eql (r := true) rfl rfl (decide_eq_true rfl)) rfl (EL.pt rfl rfl rfl (EL.mv rfl rfl (EL.callg rfl rfl (cA0 cF12) rfl (known_any _) ?_)))))))))
          rintro e w16 ⟨rfl, hc16⟩
          refine ⟨_, rfl, ?_⟩;replace q1 := q1.bl hc16;replace q2 := q2.bl hc16;replace hT := hT.below hc16;replace hbw := bo_ hbw hc16;clear hc16;refine EL.pt rfl rfl rfl (EL.as rfl rfl (EL.nil (EX.seq (EC.ret ?_))))
          exact EX.done (res1 rfl rfl) ⟨rfl, hbw⟩
        ·
         have hve : verE ru tanks jobs steps = 4 := by rw [verE, if_neg (fun h => h hy), if_pos hll]
         have hvt : verT ru tanks jobs steps = (0, 0, 0) := by rw [verT, if_neg (by rw [hve]; decide)]
         refine EL.val (x_neq (r := true) rfl rfl (decide_eq_true (by omega))) rfl ?_
         refine EL.nil (EX.seq (EC.yes rfl (EC.seq (EC.region (EL.mv rfl rfl (EL.val (x_eql (r := true) rfl rfl (decide_eq_true hve)) rfl (EL.mv rfl rfl (EL.mg rfl rfl rfl rfl ?_))))))));refine EL.valg rfl rfl (x_eql (r := true) rfl rfl (decide_eq_true (by rw [hvt]))) rfl ?_
         refine EL.pt rfl rfl rfl (EL.mv rfl rfl (EL.mg rfl rfl rfl rfl ?_));refine EL.valg rfl rfl (x_eql (r := true) rfl rfl (decide_eq_true (by rw [hvt]))) rfl ?_
         refine EL.pt rfl rfl rfl (EL.mv rfl rfl (EL.mg rfl rfl rfl rfl ?_));refine EL.valg rfl rfl (x_eql (r := true) rfl rfl (decide_eq_true (by rw [hvt]))) rfl ?_
         refine EL.pt rfl rfl rfl (EL.mv rfl rfl (EL.callg rfl rfl (cA0 cF12) rfl (known_any _) ?_))
         rintro e w17 ⟨rfl, hc17⟩
         refine ⟨_, rfl, ?_⟩;replace q1 := q1.bl hc17;replace q2 := q2.bl hc17;replace hT := hT.below hc17;replace hbw := bo_ hbw hc17;clear hc17;refine EL.pt rfl rfl rfl (EL.as rfl rfl (EL.nil (EX.seq (EC.ret (EX.seq_ret ?_)))))
         exact EX.done (res1 rfl rfl) ⟨rfl, hbw⟩
      ·
       clear hc7 hft;obtain ⟨hf1, hf2⟩ := hfp;rw [if_neg hy] at hcf;have hcn : codeF ru tanks jobs ≠ 0 := by rw [hcf]; exact hy
       obtain ⟨rfl, hcc⟩ := hf2 hcn;have hat : atF ru tanks jobs = 0 := if_neg hy;have hve : verE ru tanks jobs steps = yardE ru tanks jobs := by rw [verE, if_pos hy]
       have hvt : verT ru tanks jobs steps = (0, 0, 0) := by rw [verT, if_neg (by rw [hve]; exact hy)]
       refine EL.mv rfl rfl (EL.xt rfl rfl rfl (EL.xt rfl rfl rfl (EL.as rfl rfl (EL.as rfl rfl (EL.nil (EX.seq (EC.seq (EC.seq (EC.region ?_)))))))));refine EL.mv rfl rfl (EL.val (x_neq (r := true) rfl rfl (decide_eq_true hy)) rfl (EL.nil (EX.seq (EC.yes rfl (EC.seq (EC.region (EL.mv rfl rfl (EL.mv rfl rfl (EL.val (x_eql (r := true) rfl rfl (decide_eq_true hcf)) rfl ?_)))))))));refine EL.mv rfl rfl (EL.mg rfl rfl rfl rfl (EL.mg rfl rfl rfl rfl (EL.valg rfl rfl (x_eql (r := true) rfl rfl (decide_eq_true hve)) rfl (EL.pt rfl rfl rfl (EL.mv rfl rfl (EL.mg rfl rfl rfl rfl (EL.valg rfl rfl (ln_65 rfl) rfl (EL.valg rfl rfl (x_eql (r := true) rfl rfl (decide_eq_true rfl)) rfl (EL.pt rfl rfl rfl ?_)))))))));refine EL.mv rfl rfl (EL.mg rfl rfl rfl rfl (EL.valg rfl rfl (x_eql (r := true) rfl rfl (decide_eq_true hcc)) rfl (EL.pt rfl rfl rfl (EL.mv rfl rfl (EL.mg rfl rfl rfl rfl ?_)))));refine EL.valg rfl rfl (x_eql (r := true) rfl rfl (decide_eq_true (by rw [hat]; rfl))) rfl ?_
       refine EL.pt rfl rfl rfl (EL.mv rfl rfl (EL.mg rfl rfl rfl rfl ?_));refine EL.valg rfl rfl (x_eql (r := true) rfl rfl (decide_eq_true (by rw [hvt]))) rfl ?_
       refine EL.pt rfl rfl rfl (EL.mv rfl rfl (EL.mg rfl rfl rfl rfl ?_));refine EL.valg rfl rfl (x_eql (r := true) rfl rfl (decide_eq_true (by rw [hvt]))) rfl ?_
       refine EL.pt rfl rfl rfl (EL.mv rfl rfl (EL.mg rfl rfl rfl rfl ?_));refine EL.valg rfl rfl (x_eql (r := true) rfl rfl (decide_eq_true (by rw [hvt]))) rfl ?_
       refine EL.pt rfl rfl rfl (EL.mv rfl rfl (EL.callg rfl rfl (cA0 cF12) rfl (known_any _) ?_))
       rintro e w18 ⟨rfl, hc18⟩
       refine ⟨_, rfl, ?_⟩;replace q1 := q1.bl hc18;replace q2 := q2.bl hc18;replace hS7 := own_below hS7 hc18 (Nat.le_refl _);replace hP := own_below hP hc18 (Nat.le_refl _);replace hbw := bo_ hbw hc18;clear hc18;refine EL.pt rfl rfl rfl (EL.as rfl rfl (EL.nil (EX.seq (EC.ret (EX.seq_ret ?_)))))
       exact EX.done (res1 rfl rfl) ⟨rfl, hbw⟩
  ·
   refine EC.yes rfl (EC.seq (EC.region (EL.call (cA0 cF12) rfl (known_any _) ?_)))
   rintro e w19 ⟨rfl, hc19⟩
   refine ⟨_, rfl, ?_⟩;replace q1 := q1.bl hc19;replace q2 := q2.bl hc19;replace hbw := bo_ hbw hc19;clear hc19;refine EL.as rfl rfl (EL.nil (EX.seq (EC.ret (EX.seq_ret ?_))))
   exact EX.done (res1 rfl rfl) ⟨rfl, hbw⟩
end Go.Proofs.Ytdkedhcbdbpccaa
namespace Go.Proofs.Ytdkedhcbdbpccaa
open Go Go.ChangeShapes Go.WideShapes Go.Deep Go.RowKit Go.Joins
section
variable {H : Type} {enc : TypeId × Value → H} {w : World} {base : Nat} {spare : Nat → Bool} {held : Bool}
set_option maxRecDepth 100000 in
theorem cells_70 {fuel : Nat} {cs : List Value} {x : DataW H × List MemPlace} (hl : cs.length = 2) (h : DataW.trod enc Try.prog w base spare held fuel 70 cs = some x) : ∃ (z0 : Int) (z1 : Int), cs = [.int .i64 z0, .int .i64 z1] := by
 obtain ⟨ys, n, _, _, _, hyl, hf⟩ := DataW.trod_struct Try.underlying70 h
 match cs, hl with
 | [u0, u1], _ =>
  match ys, hyl with
  | [y0, y1], _ =>
   have q0 : DataW.trod enc Try.prog w base spare held n 3 [u0] = some y0 := fld_of hf (j := 0) rfl rfl rfl co_3;obtain ⟨z0, hz0, _, _⟩ := DataW.trod_int Try.underlying3 q0
   injection hz0 with hz0
   subst hz0;have q1 : DataW.trod enc Try.prog w base spare held n 3 [u1] = some y1 := fld_of hf (j := 1) rfl rfl rfl co_3;obtain ⟨z1, hz1, _, _⟩ := DataW.trod_int Try.underlying3 q1
   injection hz1 with hz1
   subst hz1
   exact ⟨z0, z1, rfl⟩
theorem co_70 : Try.prog.cellsOf 70 = 2 := by kernel_rfl
theorem co_65 : Try.prog.cellsOf 65 = 1 := by kernel_rfl
set_option maxRecDepth 100000 in
theorem cells_98 {fuel : Nat} {cs : List Value} {x : DataW H × List MemPlace} (hl : cs.length = 2) (h : DataW.trod enc Try.prog w base spare held fuel 98 cs = some x) : ∃ (v0 : Value) (v1 : Value), cs = [v0, v1] ∧ (∃ n x, DataW.trod enc Try.prog w base spare held n 22 [v0] = some x) ∧ (∃ n x, DataW.trod enc Try.prog w base spare held n 65 [v1] = some x) := by
 obtain ⟨ys, n, _, _, _, hyl, hf⟩ := DataW.trod_struct Try.underlying98 h
 match cs, hl with
 | [u0, u1], _ =>
  match ys, hyl with
  | [y0, y1], _ =>
   have q0 : DataW.trod enc Try.prog w base spare held n 22 [u0] = some y0 := fld_of hf (j := 0) rfl rfl rfl co_22;have q1 : DataW.trod enc Try.prog w base spare held n 65 [u1] = some y1 := fld_of hf (j := 1) rfl rfl rfl co_65
   exact ⟨u0, u1, rfl, ⟨_, _, q0⟩, ⟨_, _, q1⟩⟩
theorem co_98 : Try.prog.cellsOf 98 = 2 := by kernel_rfl
theorem cells_len_98 {fuel : Nat} {v : Value} {x : DataW H × List MemPlace} (h : DataW.trod enc Try.prog w base spare held fuel 98 v.cells.toList = some x) : v.cells.toList.length = 2 := by
 obtain ⟨_, _, _, _, hlen, _, _⟩ := DataW.trod_struct Try.underlying98 h;rw [hlen]
 exact co_98
instance : Inhabited Stp := ⟨stp0⟩
instance : Inhabited (List Ev × Value) := ⟨([], .slice none 0 0)⟩
theorem rd_stps {fuel : Nat} {v : Value} {x : DataW H × List MemPlace} (h : DataW.trod enc Try.prog w base spare held fuel 65 [v] = some x) : ∃ l : List Stp, Rd w w.heap.size 2 v l.length (stpsC l) ∧ l.length ≤ maxLen := by
 obtain ⟨l, h1, _, h2⟩ := rd_list (f := stpC) (Good := fun _ => True) stpC_len (by omega) Try.underlying65 co_70 (fun _ cs _ hl ht => by
  obtain ⟨a, b, rfl⟩ := cells_70 hl ht
  exact ⟨⟨a, b⟩, rfl, trivial⟩) h
 exact ⟨l, h1, h2⟩
theorem rd_les {fuel : Nat} {v : Value} {x : DataW H × List MemPlace} (h : DataW.trod enc Try.prog w base spare held fuel 96 [v] = some x) : ∃ (l : List (List Ev)) (vs : List Value), RdLL evC 2 w w.heap.size v l vs ∧ l.length ≤ maxLen := by
 obtain ⟨l, h1, h3, h2⟩ := rd_list (α := List Ev × Value) (s := 1) (f := fun p => [p.2]) (Good := fun p => Rd w w.heap.size 2 p.2 p.1.length (evsC p.1) ∧ p.1.length ≤ maxLen) (fun _ => rfl) (by omega) Try.underlying96 co_29 (fun _ cs _ hl ht => by
  match cs, hl with
  | [u], _ =>
   obtain ⟨l, h1, h2⟩ := rd_evs ht
   exact ⟨(l, u), rfl, h1, h2⟩) h
 rw [flat_snd] at h1;refine ⟨l.map Prod.fst, l.map Prod.snd, ⟨by simp, by simpa using h1, fun i hi => ?_⟩, by simpa using h2⟩
 have hi' : i < l.length := by simpa using hi
 have e1 : (l.map Prod.fst).getD i [] = l[i].1 := by simp [hi']
 have e2 : (l.map Prod.snd).getD i undef = l[i].2 := by simp [hi']
 rw [e1, e2]
 exact (h3 _ (List.getElem_mem hi')).1
theorem carried_of {v : Value} {d : DataW H} {p : List MemPlace} (h : DataW.Trod enc Try.prog w base spare held 98 v d p) : ∃ (jobs : List Int) (steps : List Stp) (vj vs : Value), v = .agg #[vj, vs] ∧ Rd w w.heap.size 1 vj jobs.length (ints jobs) ∧ Rd w w.heap.size 2 vs steps.length (stpsC steps) := by
 obtain ⟨fuel, hf⟩ := h;obtain ⟨a, b, he, ⟨_, _, ha⟩, ⟨_, _, hb⟩⟩ := cells_98 (cells_len_98 hf) hf;obtain ⟨l, h1, _⟩ := rd_ints ha;obtain ⟨m, h3, _⟩ := rd_stps hb;refine ⟨l, m, a, b, ?_, h1, h3⟩
 cases v with
  | agg cs =>
   have : cs = #[a, b] := by
    apply Array.ext'
    simpa [Value.cells] using he
   rw [this]
  | _ => simp [Value.cells] at he
end
end Go.Proofs.Ytdkedhcbdbpccaa
