/- W33: what RiverTruthsProof needs of them (merged by trimpack.py). -/
import Derived.Test.YtncnlhkmdljgpaaTruthsT2
set_option linter.unusedVariables false
set_option linter.unusedSimpArgs false
namespace Go.Proofs.Ytncnlhkmdljgpaa
open Go Go.RowKit
theorem bed_bd {rv : River} {sides : List (List Bd)} (hS : StartOk rv sides) {p t : Int} (hp1 : 0 ≤ p) (hp2 : p < placesOf rv.reaches) (ht1 : 0 ≤ t) (ht2 : t < (sides.getD 0 []).length) :
    (-20000 ≤ (bedAt rv p t).lo ∧ (bedAt rv p t).lo ≤ 30000) ∧ -20000 ≤ (bedAt rv p t).hi ∧ (bedAt rv p t).hi ≤ 30000 := by
  have hlt := reachOf_lt rv.reaches p hp1 hp2
  have hx := hS.river.reach _ hlt
  have hhr := hS.hours
  exact topOf_bd (N := placesOf rv.reaches) (fun j hj => by
    have hm : (shoalsAt rv.shoals p).getD j shoal0 ∈ rv.shoals := (List.mem_filter.1 (show _ ∈ rv.shoals.filter _ from getD_mem hj)).1
    obtain ⟨k, hk, e⟩ := List.getElem_of_mem hm
    have := hS.river.shoal k hk
    rwa [show rv.shoals.getD k shoal0 = (shoalsAt rv.shoals p).getD j shoal0 by simp [hk, e]] at this) (by omega) (by omega) (by have := hx.bottom; omega) (by have := hx.bottom; omega)
theorem reach_good {r : River} (h : riverB r = true) {i : Nat} (hi : i < r.reaches.length) : reachB (r.reaches.getD i reach0) = true := by
  simp only [riverB, Bool.and_eq_true] at h
  exact List.all_eq_true.1 h.2.2.1 _ (getD_mem hi)
theorem EC.cutD {P : Program} {n : Nat} {Q : Exit → Act → World → Prop} {σ : Sg} {w : World} {x y : Code} {ι : Type} (ds : List Nat) (vs : ι → List (Nat × Value)) (I : ι → World → Prop)
    (h : EC P n x (Exit.then (fun a' w' => ∃ i, Env n (insL (del σ ds) (vs i)) a' ∧ I i w') Q) σ w)
    (k : ∀ i w', I i w' → EC P n y Q (insL (del σ ds) (vs i)) w') : EC P n (.seq x y) Q σ w := fun a ha =>
  wp_seq (wp_mono (h a ha) fun e a' w' hq => by
    cases e with
    | normal =>
      obtain ⟨i, h1, h2⟩ := hq
      exact k i w' h2 a' h1
    | _ => exact hq)
theorem EX.cutE {n : Nat} {Q : Exit → Act → World → Prop} {σ : Sg} {w : World} {ι : Type} {σ0 : Sg} {ds : List Nat} {vs : ι → List (Nat × Value)} {I : ι → World → Prop} (i : ι) (hv : AgreeS σ (vs i)) (hd : Sub (del σ0 ds) σ) (hI : I i w) : EX n (Exit.then (fun a' w' => ∃ i, Env n (insL (del σ0 ds) (vs i)) a' ∧ I i w') Q) .normal σ w :=
  fun _ ha => ⟨i, ha.sub (sub_insL hd hv), hI⟩
theorem agree_of {σ : Sg} {t : Nat} {a b : Int} (h : a = b) (hs : σ t = some (.int .i64 a)) : σ t = some (.int .i64 b) := by rw [hs, h]
set_option maxHeartbeats 3000000 in
set_option maxRecDepth 100000 in
theorem truths_law (rv : River) (sides : List (List Bd)) (v u s : Value) (vs ss : List Value) (bs zs es gs : List Int) (vb v2 ve vg : Value) (tx : Int) (l : List Pass) (vl : Value) (w : World) (B : Nat) (hr : RdRiver w B v u rv vs) (hs : RdSides w B s sides ss) (hB : B ≤ w.heap.size) (hw1 : Rd w B 1 vb bs.length (u8s bs)) (hw2 : Rd w B 1 v2 zs.length (u8s zs)) (hw3 : Rd w B 1 ve es.length (u8s es)) (hw4 : Rd w B 1 vg gs.length (u8s gs)) (hv1 : ∀ y ∈ bs, 0 ≤ y ∧ y ≤ 255) (hv2 : ∀ y ∈ zs, 0 ≤ y ∧ y ≤ 255) (hv3 : ∀ y ∈ es, 0 ≤ y ∧ y ≤ 255) (hv4 : ∀ y ∈ gs, 0 ≤ y ∧ y ≤ 255) (hn1 : bs.length ≤ 9223372036854775807) (hn2 : zs.length ≤ 9223372036854775807) (hn3 : es.length ≤ 9223372036854775807) (hn4 : gs.length ≤ 9223372036854775807) (hwy : Rd w B 3 vl l.length (passesC l)) :
    Calls Try.prog 15 #[.agg #[v, u, s], .agg #[vb, v2, ve, vg, .int .u8 tx], vl] w fun e w' => e = .returned (.bool true) ∧ Below w.heap.size w w' := by
  obtain ⟨Aw, cw, rfl, _⟩ := hwy.shape
  obtain ⟨A, c, rfl, _⟩ := hr.reaches.shape
  obtain ⟨A', c', rfl, _⟩ := hr.shoals.shape
  obtain ⟨D, d, rfl, _⟩ := hs.rd.shape
  have hbw := Below.refl w.heap.size w
  obtain ⟨Ab, cb, rfl, _⟩ := hw1.shape
  obtain ⟨As2, cs2, rfl, _⟩ := hw2.shape
  obtain ⟨Ae, ce, rfl, _⟩ := hw3.shape
  obtain ⟨Ag, cg, rfl, _⟩ := hw4.shape
  refine EC.enter 498 Try.func15 rfl rfl rfl ?_
  refine EC.seq ?_
  refine EC.region ?_
  refine EL.newP (bx_54 rfl) rfl ?_
  intro g1 w1 q1 hb1 hg1 hl1
  have bhbw_1 := Nat.le_trans hbw.size hg1
  replace hbw := Below.on hbw hb1 hbw.size
  clear hb1 hg1 hl1
  refine EL.newP (bx_40 rfl) rfl ?_
  intro g2 w2 q2 hb2 hg2 hl2
  have n1_2 : g1 ≠ g2 := Nat.ne_of_lt (Nat.lt_of_lt_of_le q1.lt hg2)
  have bhbw_2 := Nat.le_trans hbw.size hg2
  replace q1 := q1.below hb2 q1.lt
  replace hbw := Below.on hbw hb2 hbw.size
  clear hb2 hg2 hl2
  refine EL.val (x_assign rfl) rfl ?_
  refine EL.nil ?_
  refine EX.seq ?_
  refine EC.seq ?_
  refine EC.seq ?_
  refine EC.region ?_
  refine EL.val (ld_54 rfl (q1.at (j := 0) rfl) (q1.at (j := 1) rfl) (q1.at (j := 2) rfl)) rfl ?_
  refine EL.call (cl_44 rfl) rfl (valid_any rv sides _ _ _ vs ss _ _ (hr.below (hbw.mono hB)) (hs.below (hbw.mono hB)) (Nat.le_trans hB hbw.size)) ?_
  rintro e w_l ⟨rfl | ⟨rfl, hfine, hst⟩, hc_⟩
  ·
    refine ⟨_, rfl, ?_⟩
    replace q1 := q1.below hc_ q1.lt
    replace q2 := q2.below hc_ q2.lt
    replace hbw := Below.on hbw hc_ hbw.size
    clear hc_
    refine EL.val (x_not rfl) rfl ?_
    refine EL.val (x_move rfl) rfl ?_
    refine EL.skip rfl rfl rfl rfl ?_
    refine EL.skip rfl rfl rfl rfl ?_
    refine EL.skip rfl rfl rfl rfl ?_
    refine EL.val (x_pick_t rfl rfl) rfl ?_
    refine EL.nil ?_
    refine EX.seq ?_
    refine EC.yes rfl ?_
    refine EC.seq ?_
    refine EC.region ?_
    refine EL.call cl_16 rfl (known_any _) ?_
    rintro e w3 ⟨rfl, hc3⟩
    refine ⟨_, rfl, ?_⟩
    replace q1 := q1.below hc3 q1.lt
    replace q2 := q2.below hc3 q2.lt
    replace hbw := Below.on hbw hc3 hbw.size
    clear hc3
    refine EL.val (x_assign rfl) rfl ?_
    refine EL.nil ?_
    refine EX.seq ?_
    refine EC.ret ?_
    refine EX.seq_ret ?_
    exact EX.done (res1 rfl rfl) ⟨rfl, hbw⟩
  ·
    have f1 := hfine.nreaches
    have f2 := hfine.nshoals
    have f3 := hfine.curves
    have f4 := hfine.sidesB
    have f5 := hfine.nsides
    have hS := (startErr_ok hst).2
    have hok := (startErr_ok hst).1
    have hhr := hS.hours
    have hmany := hS.many
    have hsm := hS.river.some
    obtain ⟨bR, oR, rfl, _, _⟩ := reaches_cells hr.reaches 0 (by omega)
    obtain ⟨bS, oS, rfl, _, hsc⟩ := sides_all hs (by omega)
    have hs0 := hs.side 0 (by omega)
    obtain ⟨A0, ca0, e0, _⟩ := hs0.shape
    have c0 := hsc 0 (by omega)
    rw [e0] at c0
    have t10 : (((sides.getD 0 []).length : Nat) : Int).tdiv 10 = (((sides.getD 0 []).length / 10 : Nat) : Int) := Int.ofNat_tdiv _ 10
    refine ⟨_, rfl, ?_⟩
    replace q1 := q1.below hc_ q1.lt
    replace q2 := q2.below hc_ q2.lt
    replace hbw := Below.on hbw hc_ hbw.size
    clear hc_
    refine EL.val (x_not rfl) rfl ?_
    refine EL.val (x_move rfl) rfl ?_
    refine EL.valg rfl rfl (x_move rfl) rfl ?_
    refine EL.valg rfl rfl (ln_99 rfl) rfl ?_
    by_cases h20 : 20 < l.length
    ·
      refine EL.valg rfl rfl (x_gtr rfl rfl (by first | assumption | exact decide_eq_true (by omega))) rfl ?_
      refine EL.val (x_pick_f rfl rfl) rfl ?_
      refine EL.nil ?_
      refine EX.seq ?_
      refine EC.yes rfl ?_
      refine EC.seq ?_
      refine EC.region ?_
      refine EL.call cl_16 rfl (known_any _) ?_
      rintro e w4 ⟨rfl, hc4⟩
      refine ⟨_, rfl, ?_⟩
      replace q1 := q1.below hc4 q1.lt
      replace q2 := q2.below hc4 q2.lt
      replace hbw := Below.on hbw hc4 hbw.size
      clear hc4
      refine EL.val (x_assign rfl) rfl ?_
      refine EL.nil ?_
      refine EX.seq ?_
      refine EC.ret ?_
      refine EX.seq_ret ?_
      exact EX.done (res1 rfl rfl) ⟨rfl, hbw⟩
    ·
      refine EL.valg rfl rfl (x_gtr rfl rfl (by first | assumption | exact decide_eq_false (by omega))) rfl ?_
      refine EL.val (x_pick_f rfl rfl) rfl ?_
      refine EL.nil ?_
      refine EX.seq ?_
      refine EC.no rfl ?_
      refine EC.skip ?_
      refine EX.seq ?_
      refine EC.seq ?_
      have lt_1 := q1.lt
      have lt_2 := q2.lt
      refine EC.regionP [[], [0], [0, 1], [], [3], [0, 1, 2, 3, 4], [0, 1, 2, 3, 4, 5], [0, 1, 2, 3, 4, 5, 6], [0, 1, 2, 3, 4, 5, 6, 7], [0, 1, 2, 3, 4, 5, 6, 7], [0, 1, 2, 3, 4, 5, 6, 7, 8], [0, 1, 2, 3, 4, 5, 6, 7, 8, 9, 10]] 11 [] (phi (fun i_ r => match i_ with | 0 => r 0 = .pointer (some ⟨g1, 0, none⟩) | 1 => r 1 = .agg #[.slice (some ⟨bR, oR, none⟩) rv.reaches.length c, .slice A' rv.shoals.length c'] | 3 => r 3 = .pointer (some ⟨g1, 2, none⟩) | 4 => r 4 = .slice (some ⟨bS, oS, none⟩) sides.length d | 9 => r 9 = .int .i64 0 | _ => True) [(2, fun r w_ => ∃ a b vs, r 2 = .agg #[a, b] ∧ RdRiver w_ w_.heap.size a b rv vs), (5, fun r w_ => ∃ v ss, r 5 = v ∧ RdSides w_ w_.heap.size v sides ss), (6, fun r w_ => ∃ A_ c_ ss_, r 6 = .tuple #[.slice A_ sides.length c_, .int .i64 0] ∧ RdSides w_ w_.heap.size (.slice A_ sides.length c_) (flowsUp rv.reaches sides sides.length) ss_), (7, fun r w_ => ∃ A_ c_ ss_, r 7 = .tuple #[.slice A_ sides.length c_, .int .i64 0] ∧ RdSides w_ w_.heap.size (.slice A_ sides.length c_) (flowsUp rv.reaches sides sides.length) ss_), (8, fun r w_ => ∃ A_ c_ ss_, r 8 = .slice A_ sides.length c_ ∧ RdSides w_ w_.heap.size (.slice A_ sides.length c_) (flowsUp rv.reaches sides sides.length) ss_), (10, fun r w_ => ∃ A_ c_ ss_, r 10 = .slice A_ sides.length c_ ∧ RdSides w_ w_.heap.size (.slice A_ sides.length c_) (flowsUp rv.reaches sides sides.length) ss_)]) (by kernel_rfl) rfl rfl (phi_cons mono_riv (phi_cons mono_sid (phi_cons mono_stup (phi_cons mono_stup (phi_cons mono_sslc (phi_cons mono_sslc (phi_nil))))))) (fun i_ hi_ => ?_) ?_
      · match i_, hi_ with
        | 0, _ =>
          intro val w1 a hb ha hd
          have ha := ha.sub (Sub.ins (d := 3) (Sub.nil _) rfl)
          exact hs_val ha rfl rfl (fa_54_0 rfl) rfl rfl
        | 1, _ =>
          intro val w1 a hb ha hd
          have e0 : val 0 = .pointer (some ⟨g1, 0, none⟩) := hd 0 (memB_mem.1 rfl)
          have ha := ha.sub (Sub.ins (d := 48) (Sub.nil _) (dep_get rfl e0))
          exact hs_val ha rfl rfl (ld_47 rfl ((q1.below hb q1.lt).at (j := 0) rfl) ((q1.below hb q1.lt).at (j := 1) rfl)) rfl rfl
        | 2, _ =>
          intro val w1 a hb ha hd
          have e1 : val 1 = .agg #[.slice (some ⟨bR, oR, none⟩) rv.reaches.length c, .slice A' rv.shoals.length c'] := hd 1 (memB_mem.1 rfl)
          have ha := ha.sub (Sub.ins (d := 49) (Sub.nil _) (dep_get rfl e1))
          refine hs_call ha rfl rfl (cl_24 rfl) (copied_any rv _ _ vs _ B (hr.below ((Below.on hbw hb hbw.size).mono hB)) (Nat.le_trans hB (Below.on hbw hb hbw.size).size) (by omega) (by omega) f3) rfl ?_
          rintro e w' ⟨⟨v1, u1, vs1, rfl, hcp⟩, hb'⟩
          exact ⟨_, rfl, hb', ⟨_, _, _, rfl, hcp⟩⟩
        | 3, _ =>
          intro val w1 a hb ha hd
          have ha := ha.sub (Sub.ins (d := 3) (Sub.nil _) rfl)
          exact hs_val ha rfl rfl (fa_54_1 rfl) rfl rfl
        | 4, _ =>
          intro val w1 a hb ha hd
          have e3 : val 3 = .pointer (some ⟨g1, 2, none⟩) := hd 3 (memB_mem.1 rfl)
          have ha := ha.sub (Sub.ins (d := 51) (Sub.nil _) (dep_get rfl e3))
          exact hs_val ha rfl rfl (ld_52 rfl ((q1.below hb q1.lt).at (j := 2) rfl)) rfl rfl
        | 5, _ =>
          intro val w1 a hb ha hd
          have e4 : val 4 = .slice (some ⟨bS, oS, none⟩) sides.length d := hd 4 (memB_mem.1 rfl)
          have ha := ha.sub (Sub.ins (d := 52) (Sub.nil _) (dep_get rfl e4))
          refine hs_call ha rfl rfl (cl_34 rfl) (forecast_any sides _ ss _ B (hs.below ((Below.on hbw hb hbw.size).mono hB)) (Nat.le_trans hB (Below.on hbw hb hbw.size).size) (by omega) f4) rfl ?_
          rintro e w' ⟨⟨v1, ss1, rfl, hcp⟩, hb'⟩
          exact ⟨_, rfl, hb', ⟨_, _, rfl, hcp⟩⟩
        | 6, _ =>
          intro val w1 a hb ha hd
          obtain ⟨a2_, b2_, vs2_, e2, q2_⟩ := hd 2 (memB_mem.1 rfl)
          obtain ⟨v5_, ss5_, e5, q5_⟩ := hd 5 (memB_mem.1 rfl)
          have ha := ha.sub (Sub.ins (d := 53) (Sub.ins (d := 50) (Sub.nil _) (dep_get rfl e2)) (dep_get rfl e5))
          refine hs_call ha rfl rfl (cl_40 rfl rfl) (flows_ok rv sides _ _ _ _ _ w1 _ q2_ q5_ (Nat.le_refl _) (by omega) (by omega) f3 (by omega) f4 hst) rfl ?_
          rintro e w' ⟨⟨A_, c_, f_, rfl, ho⟩, hb'⟩
          exact ⟨_, rfl, hb', ⟨_, _, _, rfl, ho⟩⟩
        | 7, _ =>
          intro val w1 a hb ha hd
          obtain ⟨A6F, c6F, s6F, e6, q6F⟩ := hd 6 (memB_mem.1 rfl)
          have ha := ha.sub (Sub.ins (d := 54) (Sub.nil _) (dep_get rfl e6))
          exact hs_val ha rfl rfl (x_move rfl) ⟨_, _, _, rfl, q6F⟩ rfl
        | 8, _ =>
          intro val w1 a hb ha hd
          obtain ⟨A7F, c7F, s7F, e7, q7F⟩ := hd 7 (memB_mem.1 rfl)
          have ha := ha.sub (Sub.ins (d := 47) (Sub.nil _) (dep_get rfl e7))
          exact hs_val ha rfl rfl (x_extract rfl rfl) ⟨_, _, _, rfl, q7F⟩ rfl
        | 9, _ =>
          intro val w1 a hb ha hd
          obtain ⟨A7F, c7F, s7F, e7, q7F⟩ := hd 7 (memB_mem.1 rfl)
          have ha := ha.sub (Sub.ins (d := 47) (Sub.nil _) (dep_get rfl e7))
          exact hs_val ha rfl rfl (x_extract rfl rfl) rfl rfl
        | 10, _ =>
          intro val w1 a hb ha hd
          obtain ⟨A8F, c8F, s8F, e8, q8F⟩ := hd 8 (memB_mem.1 rfl)
          have ha := ha.sub (Sub.ins (d := 55) (Sub.nil _) (dep_get rfl e8))
          exact hs_val ha rfl rfl (x_assign rfl) ⟨_, _, _, rfl, q8F⟩ rfl
        | k + 11, h => exact absurd h (by omega)
      · intro val wR3 hb halc hd
        have e0 : val 0 = .pointer (some ⟨g1, 0, none⟩) := hd 0 (by omega)
        have e1 : val 1 = .agg #[.slice (some ⟨bR, oR, none⟩) rv.reaches.length c, .slice A' rv.shoals.length c'] := hd 1 (by omega)
        obtain ⟨a2_, b2_, vs2_, e2, q2_⟩ := hd 2 (by omega)
        have e3 : val 3 = .pointer (some ⟨g1, 2, none⟩) := hd 3 (by omega)
        have e4 : val 4 = .slice (some ⟨bS, oS, none⟩) sides.length d := hd 4 (by omega)
        obtain ⟨v5_, ss5_, e5, q5_⟩ := hd 5 (by omega)
        obtain ⟨A6F, c6F, s6F, e6, q6F⟩ := hd 6 (by omega)
        obtain ⟨A7F, c7F, s7F, e7, q7F⟩ := hd 7 (by omega)
        obtain ⟨A8F, c8F, s8F, e8, q8F⟩ := hd 8 (by omega)
        have e9 : val 9 = .int .i64 0 := hd 9 (by omega)
        obtain ⟨A10F, c10F, s10F, e10, q10F⟩ := hd 10 (by omega)
        refine EL.ends (cs := [.pointer (some ⟨g1, 0, none⟩), .agg #[.slice (some ⟨bR, oR, none⟩) rv.reaches.length c, .slice A' rv.shoals.length c'], .agg #[a2_, b2_], .pointer (some ⟨g1, 2, none⟩), .slice (some ⟨bS, oS, none⟩) sides.length d, v5_, .tuple #[.slice A6F sides.length c6F, .int .i64 0], .tuple #[.slice A7F sides.length c7F, .int .i64 0], .slice A8F sides.length c8F, .int .i64 0, .slice A10F sides.length c10F]) ⟨e0, e1, e2, e3, e4, e5, e6, e7, e8, e9, e10, trivial⟩ rfl ?_
        replace q1 := q1.below hb q1.lt
        replace q2 := q2.below hb q2.lt
        replace hbw := Below.on hbw hb hbw.size
        clear hb
        have dF := q10F
        have bF := Below.refl wR3.heap.size wR3
        clear q2_ q5_ q6F q7F q8F q10F
        refine EL.val (x_assign rfl) rfl ?_
        refine EL.nil ?_
        refine EX.seq ?_
        refine EC.seq ?_
        have lt_1 := q1.lt
        have lt_2 := q2.lt
        refine EC.regionP [[], [0], [0, 1], [], [3], [0, 1, 2, 3, 4], [0, 1, 2, 3, 4, 5], [0, 1, 2, 3, 4, 5, 6], [0, 1, 2, 3, 4, 5, 6, 7], [0, 1, 2, 3, 4, 5, 6, 7], [0, 1, 2, 3, 4, 5, 6, 7, 8], [0, 1, 2, 3, 4, 5, 6, 7, 8, 9, 10]] 11 [] (phi (fun i_ r => match i_ with | 0 => r 0 = .pointer (some ⟨g1, 0, none⟩) | 1 => r 1 = .agg #[.slice (some ⟨bR, oR, none⟩) rv.reaches.length c, .slice A' rv.shoals.length c'] | 3 => r 3 = .pointer (some ⟨g1, 2, none⟩) | 4 => r 4 = .slice (some ⟨bS, oS, none⟩) sides.length d | 9 => r 9 = .int .i64 0 | _ => True) [(2, fun r w_ => ∃ a b vs, r 2 = .agg #[a, b] ∧ RdRiver w_ w_.heap.size a b rv vs), (5, fun r w_ => ∃ v ss, r 5 = v ∧ RdSides w_ w_.heap.size v sides ss), (6, fun r w_ => ∃ A_ c_ ss_, r 6 = .tuple #[.slice A_ sides.length c_, .int .i64 0] ∧ RdSides w_ w_.heap.size (.slice A_ sides.length c_) (lvUp rv sides) ss_), (7, fun r w_ => ∃ A_ c_ ss_, r 7 = .tuple #[.slice A_ sides.length c_, .int .i64 0] ∧ RdSides w_ w_.heap.size (.slice A_ sides.length c_) (lvUp rv sides) ss_), (8, fun r w_ => ∃ A_ c_ ss_, r 8 = .slice A_ sides.length c_ ∧ RdSides w_ w_.heap.size (.slice A_ sides.length c_) (lvUp rv sides) ss_), (10, fun r w_ => ∃ A_ c_ ss_, r 10 = .slice A_ sides.length c_ ∧ RdSides w_ w_.heap.size (.slice A_ sides.length c_) (lvUp rv sides) ss_)]) (by kernel_rfl) rfl rfl (phi_cons mono_riv (phi_cons mono_sid (phi_cons mono_stup (phi_cons mono_stup (phi_cons mono_sslc (phi_cons mono_sslc (phi_nil))))))) (fun i_ hi_ => ?_) ?_
        · match i_, hi_ with
          | 0, _ =>
            intro val w1 a hb ha hd
            have ha := ha.sub (Sub.ins (d := 3) (Sub.nil _) rfl)
            exact hs_val ha rfl rfl (fa_54_0 rfl) rfl rfl
          | 1, _ =>
            intro val w1 a hb ha hd
            have e0 : val 0 = .pointer (some ⟨g1, 0, none⟩) := hd 0 (memB_mem.1 rfl)
            have ha := ha.sub (Sub.ins (d := 58) (Sub.nil _) (dep_get rfl e0))
            exact hs_val ha rfl rfl (ld_47 rfl ((q1.below hb q1.lt).at (j := 0) rfl) ((q1.below hb q1.lt).at (j := 1) rfl)) rfl rfl
          | 2, _ =>
            intro val w1 a hb ha hd
            have e1 : val 1 = .agg #[.slice (some ⟨bR, oR, none⟩) rv.reaches.length c, .slice A' rv.shoals.length c'] := hd 1 (memB_mem.1 rfl)
            have ha := ha.sub (Sub.ins (d := 59) (Sub.nil _) (dep_get rfl e1))
            refine hs_call ha rfl rfl (cl_24 rfl) (copied_any rv _ _ vs _ B (hr.below ((Below.on hbw hb hbw.size).mono hB)) (Nat.le_trans hB (Below.on hbw hb hbw.size).size) (by omega) (by omega) f3) rfl ?_
            rintro e w' ⟨⟨v1, u1, vs1, rfl, hcp⟩, hb'⟩
            exact ⟨_, rfl, hb', ⟨_, _, _, rfl, hcp⟩⟩
          | 3, _ =>
            intro val w1 a hb ha hd
            have ha := ha.sub (Sub.ins (d := 3) (Sub.nil _) rfl)
            exact hs_val ha rfl rfl (fa_54_1 rfl) rfl rfl
          | 4, _ =>
            intro val w1 a hb ha hd
            have e3 : val 3 = .pointer (some ⟨g1, 2, none⟩) := hd 3 (memB_mem.1 rfl)
            have ha := ha.sub (Sub.ins (d := 61) (Sub.nil _) (dep_get rfl e3))
            exact hs_val ha rfl rfl (ld_52 rfl ((q1.below hb q1.lt).at (j := 2) rfl)) rfl rfl
          | 5, _ =>
            intro val w1 a hb ha hd
            have e4 : val 4 = .slice (some ⟨bS, oS, none⟩) sides.length d := hd 4 (memB_mem.1 rfl)
            have ha := ha.sub (Sub.ins (d := 62) (Sub.nil _) (dep_get rfl e4))
            refine hs_call ha rfl rfl (cl_34 rfl) (forecast_any sides _ ss _ B (hs.below ((Below.on hbw hb hbw.size).mono hB)) (Nat.le_trans hB (Below.on hbw hb hbw.size).size) (by omega) f4) rfl ?_
            rintro e w' ⟨⟨v1, ss1, rfl, hcp⟩, hb'⟩
            exact ⟨_, rfl, hb', ⟨_, _, rfl, hcp⟩⟩
          | 6, _ =>
            intro val w1 a hb ha hd
            obtain ⟨a2_, b2_, vs2_, e2, q2_⟩ := hd 2 (memB_mem.1 rfl)
            obtain ⟨v5_, ss5_, e5, q5_⟩ := hd 5 (memB_mem.1 rfl)
            have ha := ha.sub (Sub.ins (d := 63) (Sub.ins (d := 60) (Sub.nil _) (dep_get rfl e2)) (dep_get rfl e5))
            refine hs_call ha rfl rfl (cl_41 rfl rfl) (levels_ok rv sides _ _ _ _ _ w1 _ q2_ q5_ (Nat.le_refl _) (by omega) (by omega) f3 (by omega) f4 hst) rfl ?_
            rintro e w' ⟨⟨A_, c_, f_, rfl, ho⟩, hb'⟩
            exact ⟨_, rfl, hb', ⟨_, _, _, rfl, ho⟩⟩
          | 7, _ =>
            intro val w1 a hb ha hd
            obtain ⟨A6L, c6L, s6L, e6, q6L⟩ := hd 6 (memB_mem.1 rfl)
            have ha := ha.sub (Sub.ins (d := 64) (Sub.nil _) (dep_get rfl e6))
            exact hs_val ha rfl rfl (x_move rfl) ⟨_, _, _, rfl, q6L⟩ rfl
          | 8, _ =>
            intro val w1 a hb ha hd
            obtain ⟨A7L, c7L, s7L, e7, q7L⟩ := hd 7 (memB_mem.1 rfl)
            have ha := ha.sub (Sub.ins (d := 57) (Sub.nil _) (dep_get rfl e7))
            exact hs_val ha rfl rfl (x_extract rfl rfl) ⟨_, _, _, rfl, q7L⟩ rfl
          | 9, _ =>
            intro val w1 a hb ha hd
            obtain ⟨A7L, c7L, s7L, e7, q7L⟩ := hd 7 (memB_mem.1 rfl)
            have ha := ha.sub (Sub.ins (d := 57) (Sub.nil _) (dep_get rfl e7))
            exact hs_val ha rfl rfl (x_extract rfl rfl) rfl rfl
          | 10, _ =>
            intro val w1 a hb ha hd
            obtain ⟨A8L, c8L, s8L, e8, q8L⟩ := hd 8 (memB_mem.1 rfl)
            have ha := ha.sub (Sub.ins (d := 65) (Sub.nil _) (dep_get rfl e8))
            exact hs_val ha rfl rfl (x_assign rfl) ⟨_, _, _, rfl, q8L⟩ rfl
          | k + 11, h => exact absurd h (by omega)
        · intro val wR4 hb halc hd
          have e0 : val 0 = .pointer (some ⟨g1, 0, none⟩) := hd 0 (by omega)
          have e1 : val 1 = .agg #[.slice (some ⟨bR, oR, none⟩) rv.reaches.length c, .slice A' rv.shoals.length c'] := hd 1 (by omega)
          obtain ⟨a2_, b2_, vs2_, e2, q2_⟩ := hd 2 (by omega)
          have e3 : val 3 = .pointer (some ⟨g1, 2, none⟩) := hd 3 (by omega)
          have e4 : val 4 = .slice (some ⟨bS, oS, none⟩) sides.length d := hd 4 (by omega)
          obtain ⟨v5_, ss5_, e5, q5_⟩ := hd 5 (by omega)
          obtain ⟨A6L, c6L, s6L, e6, q6L⟩ := hd 6 (by omega)
          obtain ⟨A7L, c7L, s7L, e7, q7L⟩ := hd 7 (by omega)
          obtain ⟨A8L, c8L, s8L, e8, q8L⟩ := hd 8 (by omega)
          have e9 : val 9 = .int .i64 0 := hd 9 (by omega)
          obtain ⟨A10L, c10L, s10L, e10, q10L⟩ := hd 10 (by omega)
          refine EL.ends (cs := [.pointer (some ⟨g1, 0, none⟩), .agg #[.slice (some ⟨bR, oR, none⟩) rv.reaches.length c, .slice A' rv.shoals.length c'], .agg #[a2_, b2_], .pointer (some ⟨g1, 2, none⟩), .slice (some ⟨bS, oS, none⟩) sides.length d, v5_, .tuple #[.slice A6L sides.length c6L, .int .i64 0], .tuple #[.slice A7L sides.length c7L, .int .i64 0], .slice A8L sides.length c8L, .int .i64 0, .slice A10L sides.length c10L]) ⟨e0, e1, e2, e3, e4, e5, e6, e7, e8, e9, e10, trivial⟩ rfl ?_
          replace q1 := q1.below hb q1.lt
          replace q2 := q2.below hb q2.lt
          replace hbw := Below.on hbw hb hbw.size
          replace bF := Below.on bF hb bF.size
          clear hb
          have dL := q10L
          have bL := Below.refl wR4.heap.size wR4
          clear q2_ q5_ q6L q7L q8L q10L
          refine EL.val (x_assign rfl) rfl ?_
          refine EL.nil ?_
          refine EX.seq ?_
          refine EC.seq ?_
          refine EC.seq ?_
          refine EC.region ?_
          refine EL.val (x_move rfl) rfl ?_
          refine EL.val (x_neq rfl rfl (by first | assumption | exact decide_eq_false (by omega))) rfl ?_
          refine EL.val (x_move rfl) rfl ?_
          refine EL.valg rfl rfl (x_move rfl) rfl ?_
          refine EL.valg rfl rfl (x_neq rfl rfl (by first | assumption | exact decide_eq_false (by omega))) rfl ?_
          refine EL.val (x_pick_f rfl rfl) rfl ?_
          refine EL.val (x_move rfl) rfl ?_
          refine EL.valg rfl rfl (x_move rfl) rfl ?_
          refine EL.valg rfl rfl (ln_52 rfl) rfl ?_
          refine EL.valg rfl rfl (fa_54_1 rfl) rfl ?_
          refine EL.valg rfl rfl (ld_52 rfl (q1.at (j := 2) rfl)) rfl ?_
          refine EL.valg rfl rfl (ln_52 rfl) rfl ?_
          refine EL.valg rfl rfl (x_neq rfl rfl (by first | assumption | exact decide_eq_false (by omega))) rfl ?_
          refine EL.val (x_pick_f rfl rfl) rfl ?_
          refine EL.val (x_move rfl) rfl ?_
          refine EL.valg rfl rfl (x_move rfl) rfl ?_
          refine EL.valg rfl rfl (ln_52 rfl) rfl ?_
          refine EL.valg rfl rfl (fa_54_1 rfl) rfl ?_
          refine EL.valg rfl rfl (ld_52 rfl (q1.at (j := 2) rfl)) rfl ?_
          refine EL.valg rfl rfl (ln_52 rfl) rfl ?_
          refine EL.valg rfl rfl (x_neq rfl rfl (by first | assumption | exact decide_eq_false (by omega))) rfl ?_
          refine EL.val (x_pick_f rfl rfl) rfl ?_
          refine EL.nil ?_
          refine EX.seq ?_
          refine EC.no rfl ?_
          refine EC.skip ?_
          refine EX.seq ?_
          refine EC.seq ?_
          refine EC.seq ?_
          refine EC.region ?_
          refine EL.val (x_assign rfl) rfl ?_
          refine EL.nil ?_
          refine EX.seq ?_
          refine EC.block ?_
          refine EC.loopD [6, 11, 12, 13, 14, 15, 89, 90, 91, 92, 93, 94, 95, 96, 97, 98, 99, 100, 101, 102, 103, 104, 105, 106, 107, 108, 109, 110, 111, 112, 113, 114, 115, 116, 117, 118, 119, 120, 121, 122, 123, 124, 125, 126, 127, 128, 129, 130, 131, 132, 133, 134, 135, 136, 137, 138, 139, 140, 141, 142, 143, 144, 145, 146, 147, 148, 149, 150, 151, 152, 153, 154, 155, 156, 157, 158, 159, 160, 161, 162, 163, 164, 165, 166, 167, 168, 169, 170, 171, 172, 173, 174, 175, 176, 177, 178, 179, 180, 181, 182, 183, 184, 185, 186, 187, 188, 189, 190, 191, 192, 193, 194, 195, 196, 197, 198, 199, 200, 201, 202, 203, 204, 205, 206, 207, 208, 209, 210, 211, 212, 213] (fun x : Nat => [(11, .int .i64 (x : Nat))]) (fun x W => x ≤ sides.length ∧ Blk W g1 54 #[.slice (some ⟨bR, oR, none⟩) rv.reaches.length c, .slice A' rv.shoals.length c', .slice (some ⟨bS, oS, none⟩) sides.length d] ∧ Blk W g2 40 #[.slice Ab bs.length cb, .slice As2 zs.length cs2, .slice Ae es.length ce, .slice Ag gs.length cg, .int .u8 tx] ∧ Below w.heap.size w W ∧ Below wR3.heap.size wR3 W ∧ Below wR4.heap.size wR4 W) (fun x => sides.length - x) 0 ⟨Nat.zero_le _, q1, q2, hbw, bF, bL⟩ ⟨rfl, trivial⟩ ?_
          clear q1 q2 hbw bF bL
          rintro i wi ⟨hi, q1, q2, hbw, bF, bL⟩
          by_cases hlt : i < sides.length
          ·
            obtain ⟨bF0, oF0, rfl, _, xF⟩ := sides_cell dF i (by first | rw [flowsUp_len]; omega | rw [lvUp_len]; omega)
            have rF := dF.side i (by first | rw [flowsUp_len]; omega | rw [lvUp_len]; omega)
            rw [flowsUp_at _ _ (by omega), flowsOf_len] at rF
            obtain ⟨AF0, cF0, eF0, _⟩ := rF.shape
            rw [eF0] at xF rF
            obtain ⟨bL0, oL0, rfl, _, xL⟩ := sides_cell dL i (by first | rw [flowsUp_len]; omega | rw [lvUp_len]; omega)
            have rL := dL.side i (by first | rw [flowsUp_len]; omega | rw [lvUp_len]; omega)
            rw [lvUp_at _ _ (by omega), lvOf_len] at rL
            obtain ⟨AL0, cL0, eL0, _⟩ := rL.shape
            rw [eL0] at xL rL
            obtain ⟨br_, or_, eo_, _, cc⟩ := reaches_cells hr.reaches i (by omega)
            injection eo_ with eo_
            injection eo_ with eo1 eo2
            subst eo1
            subst eo2
            refine EC.seq ?_
            refine EC.seq ?_
            refine EC.region ?_
            refine EL.val (x_move rfl) rfl ?_
            refine EL.val (x_move rfl) rfl ?_
            refine EL.val (ln_52 rfl) rfl ?_
            refine EL.val (x_lss rfl rfl (by first | assumption | exact decide_eq_true (by omega))) rfl ?_
            refine EL.nil ?_
            refine EX.seq ?_
            refine EC.yes rfl ?_
            refine EC.skip ?_
            refine EX.seq ?_
            refine EC.seq ?_
            refine EC.block ?_
            refine EC.seq ?_
            refine EC.seq ?_
            refine EC.regionQ (by kernel_rfl) (by kernel_rfl) ?_
            refine EQ.val (fun _ hw => (x_move rfl)) rfl ?_
            refine EQ.val (fun _ hw => (x_move rfl)) rfl ?_
            refine EQ.val (fun _ hw => (ix_52 rfl rfl (by omega))) rfl ?_
            refine EQ.val (fun _ hw => (ld_28 rfl (below_load hw (below_load bF xF)))) rfl ?_
            refine EQ.val (fun _ hw => (ln_28 rfl)) rfl ?_
            refine EQ.val (fun _ hw => (fa_54_1 rfl)) rfl ?_
            refine EQ.val (fun _ hw => (ld_52 rfl (below_load hw (q1.at (j := 2) rfl)))) rfl ?_
            refine EQ.val (fun _ hw => (ix_52 (k := 0) rfl rfl (by omega))) rfl ?_
            refine EQ.val (fun _ hw => (ld_28 rfl (below_load hw (below_load hbw c0)))) rfl ?_
            refine EQ.val (fun _ hw => (ln_28 rfl)) rfl ?_
            refine EQ.val (fun _ hw => (x_neq rfl rfl (by first | assumption | exact decide_eq_false (by omega)))) rfl ?_
            refine EQ.val (fun _ hw => (x_move rfl)) rfl ?_
            refine EQ.valg rfl rfl (fun _ hw => (x_move rfl)) rfl ?_
            refine EQ.valg rfl rfl (fun _ hw => (x_move rfl)) rfl ?_
            refine EQ.valg rfl rfl (fun _ hw => (ix_52 rfl rfl (by omega))) rfl ?_
            refine EQ.valg rfl rfl (fun _ hw => (ld_28 rfl (below_load hw (below_load bL xL)))) rfl ?_
            refine EQ.valg rfl rfl (fun _ hw => (ln_28 rfl)) rfl ?_
            refine EQ.valg rfl rfl (fun _ hw => (x_move rfl)) rfl ?_
            refine EQ.valg rfl rfl (fun _ hw => (x_move rfl)) rfl ?_
            refine EQ.valg rfl rfl (fun _ hw => (ix_52 rfl rfl (by omega))) rfl ?_
            refine EQ.valg rfl rfl (fun _ hw => (ld_28 rfl (below_load hw (below_load bF xF)))) rfl ?_
            refine EQ.valg rfl rfl (fun _ hw => (ln_28 rfl)) rfl ?_
            refine EQ.valg rfl rfl (fun _ hw => (x_neq rfl rfl (by first | assumption | exact decide_eq_false (by omega)))) rfl ?_
            refine EQ.val (fun _ hw => (x_pick_f rfl rfl)) rfl ?_
            refine EQ.fin (fun w5 hw_ => ?_)
            replace q1 := q1.below hw_ q1.lt
            replace q2 := q2.below hw_ q2.lt
            replace hbw := Below.on hbw hw_ hbw.size
            replace bF := Below.on bF hw_ bF.size
            replace bL := Below.on bL hw_ bL.size
            clear hw_
            refine EX.seq ?_
            refine EC.no rfl ?_
            refine EC.skip ?_
            refine EX.seq ?_
            refine EC.seq ?_
            refine EC.region ?_
            refine EL.val (x_assign rfl) rfl ?_
            refine EL.nil ?_
            refine EX.seq ?_
            refine EC.block ?_
            refine EC.loopD [6, 12, 13, 14, 15, 119, 120, 121, 122, 123, 124, 125, 126, 127, 128, 129, 130, 131, 132, 133, 134, 135, 136, 137, 138, 139, 140, 141, 142, 143, 144, 145, 146, 147, 148, 149, 150, 151, 152, 153, 154, 155, 156, 157, 158, 159, 160, 161, 162, 163, 164, 165, 166, 167, 168, 169, 170, 171, 172, 173, 174, 175, 176, 177, 178, 179, 180, 181, 182, 183, 184, 185, 186, 187, 188, 189, 190, 191, 192, 193, 194, 195, 196, 197, 198, 199, 200, 201, 202, 203, 204, 205, 206, 207, 208, 209, 210, 211, 212, 213] (fun x : Nat => [(12, .int .i64 (x : Nat))]) (fun x W => Blk W g1 54 #[.slice (some ⟨bR, oR, none⟩) rv.reaches.length c, .slice A' rv.shoals.length c', .slice (some ⟨bS, oS, none⟩) sides.length d] ∧ Blk W g2 40 #[.slice Ab bs.length cb, .slice As2 zs.length cs2, .slice Ae es.length ce, .slice Ag gs.length cg, .int .u8 tx] ∧ Below w.heap.size w W ∧ Below wR3.heap.size wR3 W ∧ Below wR4.heap.size wR4 W) (fun x => (sides.getD 0 []).length - x) 0 ⟨q1, q2, hbw, bF, bL⟩ ⟨rfl, trivial⟩ ?_
            clear q1 q2 hbw bF bL
            rintro j wj ⟨q1, q2, hbw, bF, bL⟩
            by_cases hjl : j < (sides.getD 0 []).length
            ·
              obtain ⟨bF1, oF1, rfl, _, yF, zF⟩ := bds_cells _ j (by rw [flowsOf_len]; omega) _ _ _ _ _ rF
              rw [flowsOf_at _ _ (by omega)] at yF zF
              obtain ⟨bL1, oL1, rfl, _, yL, zL⟩ := bds_cells _ j (by rw [lvOf_len]; omega) _ _ _ _ _ rL
              rw [lvOf_at _ _ (by omega)] at yL zL
              unfold lvIn at yL zL
              have hin := trF_bd hS hv1 hv2 i (j : Int) (by omega) (by omega)
              have hsmall := flowIn_small hS i (j : Int) (by omega) (by omega)
              have hlv := level_in (hS.river.reach i (by omega)) hin.1 hin.2
              have hlb := levelAt_bd (hS.river.reach i (by omega)) ⟨(trF rv.reaches sides bs zs i (j : Int)), (trF rv.reaches sides bs zs i (j : Int))⟩
              refine EC.seq ?_
              refine EC.seq ?_
              refine EC.region ?_
              refine EL.val (x_move rfl) rfl ?_
              refine EL.val (x_move rfl) rfl ?_
              refine EL.val (x_move rfl) rfl ?_
              refine EL.val (ix_52 rfl rfl (by omega)) rfl ?_
              refine EL.val (ld_28 rfl (below_load bF xF)) rfl ?_
              refine EL.val (ln_28 rfl) rfl ?_
              refine EL.val (x_lss rfl rfl (by first | assumption | exact decide_eq_true (by omega))) rfl ?_
              refine EL.nil ?_
              refine EX.seq ?_
              refine EC.yes rfl ?_
              refine EC.skip ?_
              refine EX.seq ?_
              refine EC.seq ?_
              refine EC.block ?_
              refine EC.seq ?_
              refine EC.region ?_
              refine EL.val (ld_54 rfl (q1.at (j := 0) rfl) (q1.at (j := 1) rfl) (q1.at (j := 2) rfl)) rfl ?_
              refine EL.val (ld_40 rfl (q2.at (j := 0) rfl) (q2.at (j := 1) rfl) (q2.at (j := 2) rfl) (q2.at (j := 3) rfl) (q2.at (j := 4) rfl)) rfl ?_
              refine EL.val (x_move rfl) rfl ?_
              refine EL.val (x_move rfl) rfl ?_
              refine EL.call (cl_55 rfl rfl rfl rfl) rfl (truly_any rv sides _ _ _ vs ss bs zs es gs _ _ _ _ tx i (j : Int) _ B (hr.below (hbw.mono hB)) (hs.below (hbw.mono hB)) (Nat.le_trans hB hbw.size) (hw1.below (hbw.mono hB)) (hw2.below (hbw.mono hB)) (hw3.below (hbw.mono hB)) (hw4.below (hbw.mono hB)) hv1 hv2 hn1 hn2 hS (by omega) (by omega) (by omega)) ?_
              rintro e w6 ⟨rfl, hc6⟩
              refine ⟨_, rfl, ?_⟩
              replace q1 := q1.below hc6 q1.lt
              replace q2 := q2.below hc6 q2.lt
              replace hbw := Below.on hbw hc6 hbw.size
              replace bF := Below.on bF hc6 bF.size
              replace bL := Below.on bL hc6 bL.size
              clear hc6
              refine EL.val (x_assign rfl) rfl ?_
              refine EL.nil ?_
              refine EX.seq ?_
              refine EC.seq ?_
              refine EC.region ?_
              refine EL.val (fa_54_0 rfl) rfl ?_
              refine EL.val (ld_47 rfl (q1.at (j := 0) rfl) (q1.at (j := 1) rfl)) rfl ?_
              refine EL.call (cl_24 rfl) rfl (copied_any rv _ _ vs _ B (hr.below (hbw.mono hB)) (Nat.le_trans hB hbw.size) (by omega) (by omega) f3) ?_
              rintro e wC ⟨⟨aC, uC, vsC, rfl, hRC⟩, hcC⟩
              refine ⟨_, rfl, ?_⟩
              replace q1 := q1.below hcC q1.lt
              replace q2 := q2.below hcC q2.lt
              replace hbw := Below.on hbw hcC hbw.size
              replace bF := Below.on bF hcC bF.size
              replace bL := Below.on bL hcC bL.size
              clear hcC
              have bC := Below.refl wC.heap.size wC
              obtain ⟨AC, cC, rfl, _⟩ := hRC.reaches.shape
              obtain ⟨AC2, cC2, rfl, _⟩ := hRC.shoals.shape
              obtain ⟨bC0, oC0, rfl, _, kC⟩ := reaches_cells hRC.reaches i (by omega)
              have rC := hRC.reaches.curve i (by omega)
              obtain ⟨AsC, csC, esC, _⟩ := rC.shape
              rw [esC] at kC rC
              refine EL.val (fd_47_0 rfl) rfl ?_
              refine EL.val (x_move rfl) rfl ?_
              refine EL.val (ix_44 rfl rfl (by omega)) rfl ?_
              refine EL.val (ld_50 rfl (below_load bC kC.c0) (below_load bC kC.c1) (below_load bC kC.c2) (below_load bC kC.c3) (below_load bC kC.c4) (below_load bC kC.c5) (below_load bC kC.c6) (below_load bC kC.c7) (below_load bC kC.c8)) rfl ?_
              refine EL.val (x_move rfl) rfl ?_
              refine EL.val (x_move rfl) rfl ?_
              refine EL.val (bd_23_0_1 rfl rfl) rfl ?_
              refine EL.call (cl_28 rfl rfl) rfl (lev_ok (rv.reaches.getD i reach0) _ ⟨(trF rv.reaches sides bs zs i (j : Int)), (trF rv.reaches sides bs zs i (j : Int))⟩ _ _ (rC.below bC) bC.size (f3 i (by omega)) (reach_good hok (by omega)) (bdOk_iff.2 ⟨by first | omega | (simp only; omega), by first | omega | (simp only; omega), by first | omega | (simp only; omega)⟩)) ?_
              rintro e w7 ⟨rfl, hc7⟩
              refine ⟨_, rfl, ?_⟩
              replace q1 := q1.below hc7 q1.lt
              replace q2 := q2.below hc7 q2.lt
              replace hbw := Below.on hbw hc7 hbw.size
              replace bF := Below.on bF hc7 bF.size
              replace bL := Below.on bL hc7 bL.size
              replace bC := Below.on bC hc7 bC.size
              clear hc7
              refine EL.val (x_move rfl) rfl ?_
              refine EL.val (x_extract rfl rfl) rfl ?_
              refine EL.val (x_extract rfl rfl) rfl ?_
              refine EL.newP al_23 rfl ?_
              intro g8 w8 q8 hb8 hg8 hl8
              have n1_8 : g1 ≠ g8 := Nat.ne_of_lt (Nat.lt_of_lt_of_le q1.lt hg8)
              have n2_8 : g2 ≠ g8 := Nat.ne_of_lt (Nat.lt_of_lt_of_le q2.lt hg8)
              have bhbw_8 := Nat.le_trans hbw.size hg8
              have bbF_8 := Nat.le_trans bF.size hg8
              have bbL_8 := Nat.le_trans bL.size hg8
              have bbC_8 := Nat.le_trans bC.size hg8
              replace q1 := q1.below hb8 q1.lt
              replace q2 := q2.below hb8 q2.lt
              replace hbw := Below.on hbw hb8 hbw.size
              replace bF := Below.on bF hb8 bF.size
              replace bL := Below.on bL hb8 bL.size
              replace bC := Below.on bC hb8 bC.size
              clear hb8 hg8 hl8
              refine EL.store rfl rfl q8 sz_23 rfl rfl rfl rfl ?_
              intro w9 hq9 hg9
              replace q1 := q1.grown hg9 (fun h => n1_8 (Option.some.inj h))
              replace q2 := q2.grown hg9 (fun h => n2_8 (Option.some.inj h))
              replace hbw := below_store hbw hg9 bhbw_8
              replace bF := below_store bF hg9 bbF_8
              replace bL := below_store bL hg9 bbL_8
              replace bC := below_store bC hg9 bbC_8
              replace q8 := hq9
              clear hg9 hq9
              refine EL.val (x_assign rfl) rfl ?_
              refine EL.nil ?_
              refine EX.seq ?_
              refine EC.seq ?_
              refine EC.regionQ (by kernel_rfl) (by kernel_rfl) ?_
              refine EQ.val (fun _ hw => (x_move rfl)) rfl ?_
              refine EQ.val (fun _ hw => (x_neq rfl rfl (by first | assumption | exact decide_eq_false (by omega)))) rfl ?_
              refine EQ.val (fun _ hw => (x_move rfl)) rfl ?_
              refine EQ.valg rfl rfl (fun _ hw => (x_move rfl)) rfl ?_
              refine EQ.valg rfl rfl (fun _ hw => (x_move rfl)) rfl ?_
              refine EQ.valg rfl rfl (fun _ hw => (ix_52 rfl rfl (by omega))) rfl ?_
              refine EQ.valg rfl rfl (fun _ hw => (ld_28 rfl (below_load hw (below_load bF xF)))) rfl ?_
              refine EQ.valg rfl rfl (fun _ hw => (x_move rfl)) rfl ?_
              refine EQ.valg rfl rfl (fun _ hw => (ix_28 rfl rfl hjl)) rfl ?_
              refine EQ.valg rfl rfl (fun _ hw => (ld_23 rfl (below_load hw (below_load bF yF)) (below_load hw (below_load bF zF)))) rfl ?_
              refine EQ.valg rfl rfl (fun _ hw => (x_move rfl)) rfl ?_
              refine EQ.callg rfl rfl (fun _ _ _ ha => cl_54 rfl rfl _ ha) rfl (fun W hw => (in_true (flowIn rv.reaches sides i (j : Int)) (trF rv.reaches sides bs zs i (j : Int)) W hin.1 hin.2).mono fun e w' h => ⟨h.1, hw.trans (h.2.mono hw.size)⟩) ?_
              refine EQ.valg rfl rfl (fun _ hw => (x_not rfl)) rfl ?_
              refine EQ.val (fun _ hw => (x_pick_f rfl rfl)) rfl ?_
              refine EQ.val (fun _ hw => (x_move rfl)) rfl ?_
              refine EQ.valg rfl rfl (fun _ hw => (fa_23_0 rfl)) rfl ?_
              refine EQ.valg rfl rfl (fun _ hw => (ld_3 rfl (below_load hw (q8.at (j := 0) rfl)))) rfl ?_
              refine EQ.valg rfl rfl (fun _ hw => (x_move rfl)) rfl ?_
              refine EQ.valg rfl rfl (fun _ hw => (x_move rfl)) rfl ?_
              refine EQ.valg rfl rfl (fun _ hw => (ix_52 rfl rfl (by omega))) rfl ?_
              refine EQ.valg rfl rfl (fun _ hw => (ld_28 rfl (below_load hw (below_load bL xL)))) rfl ?_
              refine EQ.valg rfl rfl (fun _ hw => (x_move rfl)) rfl ?_
              refine EQ.valg rfl rfl (fun _ hw => (ix_28 rfl rfl hjl)) rfl ?_
              refine EQ.valg rfl rfl (fun _ hw => (fa_23_0 rfl)) rfl ?_
              refine EQ.valg rfl rfl (fun _ hw => (ld_3 rfl (below_load hw (below_load bL yL)))) rfl ?_
              refine EQ.valg rfl rfl (fun _ hw => (x_lss rfl rfl (by first | assumption | exact decide_eq_false (by omega)))) rfl ?_
              refine EQ.val (fun _ hw => (x_pick_f rfl rfl)) rfl ?_
              refine EQ.val (fun _ hw => (x_move rfl)) rfl ?_
              refine EQ.valg rfl rfl (fun _ hw => (fa_23_1 rfl)) rfl ?_
              refine EQ.valg rfl rfl (fun _ hw => (ld_3 rfl (below_load hw (q8.at (j := 1) rfl)))) rfl ?_
              refine EQ.valg rfl rfl (fun _ hw => (x_move rfl)) rfl ?_
              refine EQ.valg rfl rfl (fun _ hw => (x_move rfl)) rfl ?_
              refine EQ.valg rfl rfl (fun _ hw => (ix_52 rfl rfl (by omega))) rfl ?_
              refine EQ.valg rfl rfl (fun _ hw => (ld_28 rfl (below_load hw (below_load bL xL)))) rfl ?_
              refine EQ.valg rfl rfl (fun _ hw => (x_move rfl)) rfl ?_
              refine EQ.valg rfl rfl (fun _ hw => (ix_28 rfl rfl hjl)) rfl ?_
              refine EQ.valg rfl rfl (fun _ hw => (fa_23_1 rfl)) rfl ?_
              refine EQ.valg rfl rfl (fun _ hw => (ld_3 rfl (below_load hw (below_load bL zL)))) rfl ?_
              refine EQ.valg rfl rfl (fun _ hw => (x_gtr rfl rfl (by first | assumption | exact decide_eq_false (by omega)))) rfl ?_
              refine EQ.val (fun _ hw => (x_pick_f rfl rfl)) rfl ?_
              refine EQ.val (fun _ hw => (x_move rfl)) rfl ?_
              refine EQ.valg rfl rfl (fun _ hw => (fa_23_1 rfl)) rfl ?_
              refine EQ.valg rfl rfl (fun _ hw => (ld_3 rfl (below_load hw (q8.at (j := 1) rfl)))) rfl ?_
              refine EQ.valg rfl rfl (fun _ hw => (fa_23_0 rfl)) rfl ?_
              refine EQ.valg rfl rfl (fun _ hw => (ld_3 rfl (below_load hw (q8.at (j := 0) rfl)))) rfl ?_
              refine EQ.valg rfl rfl (fun _ hw => (x_sub rfl rfl (IntWalk.i64_in _ ⟨by first | omega | (simp only; omega), by first | omega | (simp only; omega)⟩))) rfl ?_
              refine EQ.valg rfl rfl (fun _ hw => (x_gtr rfl rfl (by first | assumption | exact decide_eq_false (by omega)))) rfl ?_
              refine EQ.val (fun _ hw => (x_pick_f rfl rfl)) rfl ?_
              refine EQ.val (fun _ hw => (x_move rfl)) rfl ?_
              refine EQ.valg rfl rfl (fun _ hw => (fa_23_0 rfl)) rfl ?_
              refine EQ.valg rfl rfl (fun _ hw => (ld_3 rfl (below_load hw (q8.at (j := 0) rfl)))) rfl ?_
              refine EQ.valg rfl rfl (fun _ hw => (fa_54_0 rfl)) rfl ?_
              refine EQ.valg rfl rfl (fun _ hw => (fa_47_0 rfl)) rfl ?_
              refine EQ.valg rfl rfl (fun _ hw => (ld_44 rfl (below_load hw (q1.at (j := 0) rfl)))) rfl ?_
              refine EQ.valg rfl rfl (fun _ hw => (x_move rfl)) rfl ?_
              refine EQ.valg rfl rfl (fun _ hw => (ix_44 rfl rfl (by omega))) rfl ?_
              refine EQ.valg rfl rfl (fun _ hw => (fa_50_4 rfl)) rfl ?_
              refine EQ.valg rfl rfl (fun _ hw => (ld_3 rfl (below_load hw (below_load hbw cc.c5)))) rfl ?_
              refine EQ.valg rfl rfl (fun _ hw => (x_lss rfl rfl (by first | assumption | exact decide_eq_false (by omega)))) rfl ?_
              refine EQ.val (fun _ hw => (x_pick_f rfl rfl)) rfl ?_
              refine EQ.fin (fun w10 hw_ => ?_)
              replace q1 := q1.below hw_ q1.lt
              replace q2 := q2.below hw_ q2.lt
              replace q8 := q8.below hw_ q8.lt
              replace hbw := Below.on hbw hw_ hbw.size
              replace bF := Below.on bF hw_ bF.size
              replace bL := Below.on bL hw_ bL.size
              replace bC := Below.on bC hw_ bC.size
              clear hw_
              refine EX.seq ?_
              refine EC.no rfl ?_
              refine EC.skip ?_
              refine EX.blk ?_
              refine EX.seq ?_
              refine EC.region ?_
              refine EL.val (x_move rfl) rfl ?_
              refine EL.val (x_move rfl) rfl ?_
              refine EL.val (x_move rfl) rfl ?_
              refine EL.val (ix_52 rfl rfl (by omega)) rfl ?_
              refine EL.val (ld_28 rfl (below_load bF xF)) rfl ?_
              refine EL.val (ln_28 rfl) rfl ?_
              refine EL.val (x_quo rfl rfl (by decide) ((IntWalk.i64_in _ ⟨by rw [t10]; omega, by rw [t10]; omega⟩).trans t10)) rfl ?_
              refine EL.val (x_add rfl rfl (c := ((1 + (sides.getD 0 []).length / 10 : Nat) : Int)) ((IntWalk.i64_in _ ⟨by omega, by omega⟩).trans (by omega))) rfl ?_
              refine EL.val (x_add rfl rfl (c := ((j + (1 + (sides.getD 0 []).length / 10) : Nat) : Int)) ((IntWalk.i64_in _ ⟨by omega, by omega⟩).trans (by omega))) rfl ?_
              refine EL.val (x_assign rfl) rfl ?_
              refine EL.nil ?_
              refine EX.roundD (j + (1 + (sides.getD 0 []).length / 10)) ⟨rfl, trivial⟩ (by repeat first | with_reducible exact Sub.refl _ | refine sub_past rfl ?_ | exact Sub.refl _ | refine sub_del rfl ?_ | refine sub_insL_nil ?_) ⟨q1, q2, hbw, bF, bL⟩ (by omega)
            ·
              refine EC.seq ?_
              refine EC.seq ?_
              refine EC.region ?_
              refine EL.val (x_move rfl) rfl ?_
              refine EL.val (x_move rfl) rfl ?_
              refine EL.val (x_move rfl) rfl ?_
              refine EL.val (ix_52 rfl rfl (by omega)) rfl ?_
              refine EL.val (ld_28 rfl (below_load bF xF)) rfl ?_
              refine EL.val (ln_28 rfl) rfl ?_
              refine EL.val (x_lss rfl rfl (by first | assumption | exact decide_eq_false (by omega))) rfl ?_
              refine EL.nil ?_
              refine EX.seq ?_
              refine EC.no rfl ?_
              refine EC.exit ?_
              refine EX.seq_exit ?_
              refine EX.seq_exit ?_
              refine EX.blk_here ?_
              refine EX.blk ?_
              refine EX.seq ?_
              refine EC.region ?_
              refine EL.val (x_move rfl) rfl ?_
              refine EL.val (x_add rfl rfl (by first | assumption | exact IntWalk.i64_in _ ⟨by omega, by omega⟩)) rfl ?_
              refine EL.val (x_assign rfl) rfl ?_
              refine EL.nil ?_
              refine EX.roundD (i + 1) ⟨rfl, trivial⟩ (by repeat first | with_reducible exact Sub.refl _ | refine sub_past rfl ?_ | exact Sub.refl _ | refine sub_del rfl ?_ | refine sub_insL_nil ?_) ⟨hlt, q1, q2, hbw, bF, bL⟩ (by omega)
          ·
            refine EC.seq ?_
            refine EC.seq ?_
            refine EC.region ?_
            refine EL.val (x_move rfl) rfl ?_
            refine EL.val (x_move rfl) rfl ?_
            refine EL.val (ln_52 rfl) rfl ?_
            refine EL.val (x_lss rfl rfl (by first | assumption | exact decide_eq_false (by omega))) rfl ?_
            refine EL.nil ?_
            refine EX.seq ?_
            refine EC.no rfl ?_
            refine EC.exit ?_
            refine EX.seq_exit ?_
            refine EX.seq_exit ?_
            refine EX.blk_here ?_
            refine EX.seq ?_
            refine EC.seq ?_
            by_cases hce : wayErr (placesOf rv.reaches) ((sides.getD 0 []).length : Nat) l = 0
            ·
              have hway := way_ok_of (n := 0) hce
              have hws := hway.some
              obtain ⟨bw, ow, rfl, hpc⟩ := passes_all hwy (by omega)
              have hub := shUp_bd hS hway.ok (Nat.le_refl _)
              have lt_1 := q1.lt
              have lt_2 := q2.lt
              refine EC.regionS [[], [0], [0, 1], [], [3], [0, 1, 2, 3, 4], [], [], [0, 1, 2, 3, 4, 5, 6, 7], [0, 1, 2, 3, 4, 5, 6, 7, 8], [0, 1, 2, 3, 4, 5, 6, 7, 8, 9], [0, 1, 2, 3, 4, 5, 6, 7, 8, 9, 10], [0, 1, 2, 3, 4, 5, 6, 7, 8, 9, 10], [0, 1, 2, 3, 4, 5, 6, 7, 8, 9, 10], [0, 1, 2, 3, 4, 5, 6, 7, 8, 9, 10], [], [0, 1, 2, 3, 4, 5, 6, 7, 8, 9, 10, 11, 15], [0, 1, 2, 3, 4, 5, 6, 7, 8, 9, 10, 11, 12, 15, 16], [0, 1, 2, 3, 4, 5, 6, 7, 8, 9, 10, 11, 12, 13, 15, 16, 17], [0, 1, 2, 3, 4, 5, 6, 7, 8, 9, 10, 11, 12, 13, 14, 15, 16, 17, 18]] 19 [15] [16] (fun _ w_ => Below wi.heap.size wi w_) (phiS (fun i_ r => match i_ with | 0 => r 0 = .pointer (some ⟨g1, 0, none⟩) | 1 => r 1 = .agg #[.slice (some ⟨bR, oR, none⟩) rv.reaches.length c, .slice A' rv.shoals.length c'] | 3 => r 3 = .pointer (some ⟨g1, 2, none⟩) | 4 => r 4 = .slice (some ⟨bS, oS, none⟩) sides.length d | 7 => r 7 = .slice (some ⟨bw, ow, none⟩) l.length cw | 9 => r 9 = .tuple #[.agg #[.int .i64 (shUp rv sides l l.length).lo, .int .i64 (shUp rv sides l l.length).hi], .int .i64 (shUp rv sides l l.length).pass, .int .i64 (shUp rv sides l l.length).hour, .int .i64 0] | 10 => r 10 = .tuple #[.agg #[.int .i64 (shUp rv sides l l.length).lo, .int .i64 (shUp rv sides l l.length).hi], .int .i64 (shUp rv sides l l.length).pass, .int .i64 (shUp rv sides l l.length).hour, .int .i64 0] | 11 => r 11 = .agg #[.int .i64 (shUp rv sides l l.length).lo, .int .i64 (shUp rv sides l l.length).hi] | 12 => r 12 = .int .i64 (shUp rv sides l l.length).pass | 13 => r 13 = .int .i64 (shUp rv sides l l.length).hour | 14 => r 14 = .int .i64 0 | 17 => r 17 = .int .i64 (shUp rv sides l l.length).pass | 18 => r 18 = .int .i64 (shUp rv sides l l.length).hour | _ => True) [(2, fun fl r w_ => fl 16 = false → (∃ a b vs, r 2 = .agg #[a, b] ∧ RdRiver w_ w_.heap.size a b rv vs)), (5, fun fl r w_ => fl 16 = false → (∃ v ss, r 5 = v ∧ RdSides w_ w_.heap.size v sides ss)), (6, fun fl r w_ => fl 16 = false → (∃ g_, r 6 = .slice (some ⟨g_, 0, none⟩) 0 0 ∧ Blk w_ g_ 101 #[] ∧ wi.heap.size ≤ g_)), (8, fun fl r w_ => fl 16 = false → (∃ v, r 8 = v ∧ w_.ownsRow wi.heap.size 101 3 v l.length (passesC l))), (15, fun fl r w_ => ∃ g_, r 15 = .pointer (some ⟨g_, 0, none⟩) ∧ wi.heap.size ≤ g_ ∧ (fl 16 = false → Blk w_ g_ 23 #[.int .i64 0, .int .i64 0])), (16, fun _ r w_ => ∃ g_, r 15 = .pointer (some ⟨g_, 0, none⟩) ∧ Blk w_ g_ 23 #[.int .i64 (shUp rv sides l l.length).lo, .int .i64 (shUp rv sides l l.length).hi])]) (by kernel_rfl) rfl rfl (by intro i hi; simp at hi; first | (subst hi; exact ⟨by simp, by omega⟩) | (rcases hi with rfl | rfl | rfl <;> exact ⟨by simp, by omega⟩) | (rcases hi with rfl | rfl <;> exact ⟨by simp, by omega⟩)) (base_below wi) (phiS_cons (monoS_till mono_riv) (phiS_cons (monoS_till mono_sid) (phiS_cons (monoS_till mono_bs) (phiS_cons (monoS_till mono_row) (phiS_cons monoS_alloc (phiS_cons monoS_store (phiS_nil))))))) (fun i_ hi_ hs_ => ?_) (fun i_ hi_ => ?_) ?_
              · match i_, hi_ with
                | 0, _ =>
                  intro val fl w1 a hb ha hd hfl
                  have ha := ha.sub (Sub.ins (d := 3) (Sub.nil _) rfl)
                  exact ss_val ha rfl rfl (fa_54_0 rfl) rfl rfl
                | 1, _ =>
                  intro val fl w1 a hb ha hd hfl
                  have e0 : val 0 = .pointer (some ⟨g1, 0, none⟩) := hd 0 (memB_mem.1 rfl)
                  have ha := ha.sub (Sub.ins (d := 215) (Sub.nil _) (dep_get rfl e0))
                  exact ss_val ha rfl rfl (ld_47 rfl ((q1.below hb q1.lt).at (j := 0) rfl) ((q1.below hb q1.lt).at (j := 1) rfl)) rfl rfl
                | 2, _ =>
                  intro val fl w1 a hb ha hd hfl
                  have e1 : val 1 = .agg #[.slice (some ⟨bR, oR, none⟩) rv.reaches.length c, .slice A' rv.shoals.length c'] := hd 1 (memB_mem.1 rfl)
                  have ha := ha.sub (Sub.ins (d := 216) (Sub.nil _) (dep_get rfl e1))
                  refine ss_call ha rfl rfl (cl_24 rfl) (copied_any rv _ _ vs _ B (hr.below ((Below.on hbw hb hbw.size).mono hB)) (Nat.le_trans hB (Below.on hbw hb hbw.size).size) (by omega) (by omega) f3) rfl ?_
                  rintro e w' ⟨⟨v1, u1, vs1, rfl, hcp⟩, hb'⟩
                  exact ⟨_, rfl, hb', fun _ => ⟨_, _, _, rfl, hcp⟩⟩
                | 3, _ =>
                  intro val fl w1 a hb ha hd hfl
                  have ha := ha.sub (Sub.ins (d := 3) (Sub.nil _) rfl)
                  exact ss_val ha rfl rfl (fa_54_1 rfl) rfl rfl
                | 4, _ =>
                  intro val fl w1 a hb ha hd hfl
                  have e3 : val 3 = .pointer (some ⟨g1, 2, none⟩) := hd 3 (memB_mem.1 rfl)
                  have ha := ha.sub (Sub.ins (d := 218) (Sub.nil _) (dep_get rfl e3))
                  exact ss_val ha rfl rfl (ld_52 rfl ((q1.below hb q1.lt).at (j := 2) rfl)) rfl rfl
                | 5, _ =>
                  intro val fl w1 a hb ha hd hfl
                  have e4 : val 4 = .slice (some ⟨bS, oS, none⟩) sides.length d := hd 4 (memB_mem.1 rfl)
                  have ha := ha.sub (Sub.ins (d := 219) (Sub.nil _) (dep_get rfl e4))
                  refine ss_call ha rfl rfl (cl_34 rfl) (forecast_any sides _ ss _ B (hs.below ((Below.on hbw hb hbw.size).mono hB)) (Nat.le_trans hB (Below.on hbw hb hbw.size).size) (by omega) f4) rfl ?_
                  rintro e w' ⟨⟨v1, ss1, rfl, hcp⟩, hb'⟩
                  exact ⟨_, rfl, hb', fun _ => ⟨_, _, rfl, hcp⟩⟩
                | 6, _ =>
                  intro val fl w1 a hb ha hd hfl
                  have ha := ha.sub (Sub.nil _)
                  exact ss_newS ha rfl rfl (bs_99_0) rfl (fun g w' hq _ hge => fun _ => ⟨g, rfl, hq, Nat.le_trans hb.size hge⟩)
                | 7, _ =>
                  intro val fl w1 a hb ha hd hfl
                  have ha := ha.sub (Sub.ins (d := 2) (Sub.nil _) rfl)
                  exact ss_val ha rfl rfl (x_move rfl) rfl rfl
                | 8, _ =>
                  intro val fl w1 a hb ha hd hfl
                  obtain ⟨g6_, e6, q6_, h6_⟩ := hd 6 (memB_mem.1 rfl) (hfl 16 (by simp) (memB_mem.1 rfl))
                  change val 6 = _ at e6
                  have e7 : val 7 = .slice (some ⟨bw, ow, none⟩) l.length cw := hd 7 (memB_mem.1 rfl)
                  have ha := ha.sub (Sub.ins (d := 222) (Sub.ins (d := 221) (Sub.nil _) (dep_get rfl e6)) (dep_get rfl e7))
                  exact ss_copy pass_elem2 ha rfl rfl rfl q6_ h6_ (hwy.below ((Below.on hbw hb hbw.size).mono hB)) (passesC_one _) (by omega) rfl hb.size rfl (fun v' w' ho => fun _ => ⟨_, rfl, ho⟩)
                | 9, _ =>
                  intro val fl w1 a hb ha hd hfl
                  obtain ⟨a2_, b2_, vs2_, e2, q2_⟩ := hd 2 (memB_mem.1 rfl) (hfl 16 (by simp) (memB_mem.1 rfl))
                  obtain ⟨v5_, ss5_, e5, q5_⟩ := hd 5 (memB_mem.1 rfl) (hfl 16 (by simp) (memB_mem.1 rfl))
                  obtain ⟨v8_, e8, q8_⟩ := hd 8 (memB_mem.1 rfl) (hfl 16 (by simp) (memB_mem.1 rfl))
                  have ha := ha.sub (Sub.ins (d := 223) (Sub.ins (d := 220) (Sub.ins (d := 217) (Sub.nil _) (dep_get rfl e2)) (dep_get rfl e5)) (dep_get rfl e8))
                  refine ss_call ha rfl rfl (cl_51 rfl rfl rfl) (shallow_good rv sides _ _ _ _ _ l _ _ w1.heap.size q2_ q5_ (Nat.le_refl _) (Rd.of_own q8_) hfine hst hway) rfl ?_
                  rintro e w' ⟨rfl, hb'⟩
                  exact ⟨_, rfl, hb', rfl⟩
                | 10, _ =>
                  intro val fl w1 a hb ha hd hfl
                  have e9 : val 9 = .tuple #[.agg #[.int .i64 (shUp rv sides l l.length).lo, .int .i64 (shUp rv sides l l.length).hi], .int .i64 (shUp rv sides l l.length).pass, .int .i64 (shUp rv sides l l.length).hour, .int .i64 0] := hd 9 (memB_mem.1 rfl)
                  have ha := ha.sub (Sub.ins (d := 224) (Sub.nil _) (dep_get rfl e9))
                  exact ss_val ha rfl rfl (x_move rfl) rfl rfl
                | 11, _ =>
                  intro val fl w1 a hb ha hd hfl
                  have e10 : val 10 = .tuple #[.agg #[.int .i64 (shUp rv sides l l.length).lo, .int .i64 (shUp rv sides l l.length).hi], .int .i64 (shUp rv sides l l.length).pass, .int .i64 (shUp rv sides l l.length).hour, .int .i64 0] := hd 10 (memB_mem.1 rfl)
                  have ha := ha.sub (Sub.ins (d := 214) (Sub.nil _) (dep_get rfl e10))
                  exact ss_val ha rfl rfl (x_extract rfl rfl) rfl rfl
                | 12, _ =>
                  intro val fl w1 a hb ha hd hfl
                  have e10 : val 10 = .tuple #[.agg #[.int .i64 (shUp rv sides l l.length).lo, .int .i64 (shUp rv sides l l.length).hi], .int .i64 (shUp rv sides l l.length).pass, .int .i64 (shUp rv sides l l.length).hour, .int .i64 0] := hd 10 (memB_mem.1 rfl)
                  have ha := ha.sub (Sub.ins (d := 214) (Sub.nil _) (dep_get rfl e10))
                  exact ss_val ha rfl rfl (x_extract rfl rfl) rfl rfl
                | 13, _ =>
                  intro val fl w1 a hb ha hd hfl
                  have e10 : val 10 = .tuple #[.agg #[.int .i64 (shUp rv sides l l.length).lo, .int .i64 (shUp rv sides l l.length).hi], .int .i64 (shUp rv sides l l.length).pass, .int .i64 (shUp rv sides l l.length).hour, .int .i64 0] := hd 10 (memB_mem.1 rfl)
                  have ha := ha.sub (Sub.ins (d := 214) (Sub.nil _) (dep_get rfl e10))
                  exact ss_val ha rfl rfl (x_extract rfl rfl) rfl rfl
                | 14, _ =>
                  intro val fl w1 a hb ha hd hfl
                  have e10 : val 10 = .tuple #[.agg #[.int .i64 (shUp rv sides l l.length).lo, .int .i64 (shUp rv sides l l.length).hi], .int .i64 (shUp rv sides l l.length).pass, .int .i64 (shUp rv sides l l.length).hour, .int .i64 0] := hd 10 (memB_mem.1 rfl)
                  have ha := ha.sub (Sub.ins (d := 214) (Sub.nil _) (dep_get rfl e10))
                  exact ss_val ha rfl rfl (x_extract rfl rfl) rfl rfl
                | 15, _ =>
                  intro val fl w1 a hb ha hd hfl
                  have ha := ha.sub (Sub.nil _)
                  exact ss_newP ha rfl rfl al_23 (fun g w' hq _ hge => ⟨g, rfl, Nat.le_trans hb.size hge, fun _ => hq⟩)
                | 16, _ =>
                  exact absurd (by simp) hs_
                | 17, _ =>
                  intro val fl w1 a hb ha hd hfl
                  have e12 : val 12 = .int .i64 (shUp rv sides l l.length).pass := hd 12 (memB_mem.1 rfl)
                  have ha := ha.sub (Sub.ins (d := 226) (Sub.nil _) (dep_get rfl e12))
                  exact ss_val ha rfl rfl (x_assign rfl) rfl rfl
                | 18, _ =>
                  intro val fl w1 a hb ha hd hfl
                  have e13 : val 13 = .int .i64 (shUp rv sides l l.length).hour := hd 13 (memB_mem.1 rfl)
                  have ha := ha.sub (Sub.ins (d := 227) (Sub.nil _) (dep_get rfl e13))
                  exact ss_val ha rfl rfl (x_assign rfl) rfl rfl
                | k + 19, h => exact absurd h (by omega)
              · simp only [List.mem_singleton] at hi_; subst hi_
                intro val fl w1 a hb hfi ha hd hfl
                obtain ⟨g15_, e15, hg15_, q15_⟩ := hd 15 (memB_mem.1 rfl)
                change val 15 = _ at e15
                have e11 : val 11 = .agg #[.int .i64 (shUp rv sides l l.length).lo, .int .i64 (shUp rv sides l l.length).hi] := hd 11 (memB_mem.1 rfl)
                have ha := ha.sub (Sub.ins (d := 225) (Sub.ins (d := 16) (Sub.nil _) (dep_get rfl e15)) (dep_get rfl e11))
                refine ts_store ha rfl rfl rfl (q15_ hfi) sz_23 rfl rfl rfl rfl ?_
                intro w' hq hgr
                refine ⟨undef, rfl, hgr.size, below_store hb hgr hg15_, ⟨g15_, e15, hq⟩, fun j _ hj hn hA => ?_⟩
                exact phiS_cons_st (C := fun j => j ≠ 16 ∧ 16 ∉ clsAt [[], [0], [0, 1], [], [3], [0, 1, 2, 3, 4], [], [], [0, 1, 2, 3, 4, 5, 6, 7], [0, 1, 2, 3, 4, 5, 6, 7, 8], [0, 1, 2, 3, 4, 5, 6, 7, 8, 9], [0, 1, 2, 3, 4, 5, 6, 7, 8, 9, 10], [0, 1, 2, 3, 4, 5, 6, 7, 8, 9, 10], [0, 1, 2, 3, 4, 5, 6, 7, 8, 9, 10], [0, 1, 2, 3, 4, 5, 6, 7, 8, 9, 10], [], [0, 1, 2, 3, 4, 5, 6, 7, 8, 9, 10, 11, 15], [0, 1, 2, 3, 4, 5, 6, 7, 8, 9, 10, 11, 12, 15, 16], [0, 1, 2, 3, 4, 5, 6, 7, 8, 9, 10, 11, 12, 13, 15, 16, 17], [0, 1, 2, 3, 4, 5, 6, 7, 8, 9, 10, 11, 12, 13, 14, 15, 16, 17, 18]] j ∧ ∀ p ∈ [15], (p = j ∨ p ∈ clsAt [[], [0], [0, 1], [], [3], [0, 1, 2, 3, 4], [], [], [0, 1, 2, 3, 4, 5, 6, 7], [0, 1, 2, 3, 4, 5, 6, 7, 8], [0, 1, 2, 3, 4, 5, 6, 7, 8, 9], [0, 1, 2, 3, 4, 5, 6, 7, 8, 9, 10], [0, 1, 2, 3, 4, 5, 6, 7, 8, 9, 10], [0, 1, 2, 3, 4, 5, 6, 7, 8, 9, 10], [0, 1, 2, 3, 4, 5, 6, 7, 8, 9, 10], [], [0, 1, 2, 3, 4, 5, 6, 7, 8, 9, 10, 11, 15], [0, 1, 2, 3, 4, 5, 6, 7, 8, 9, 10, 11, 12, 15, 16], [0, 1, 2, 3, 4, 5, 6, 7, 8, 9, 10, 11, 12, 13, 15, 16, 17], [0, 1, 2, 3, 4, 5, 6, 7, 8, 9, 10, 11, 12, 13, 14, 15, 16, 17, 18]] j) → ∀ q ∈ [15], (q = 16 ∨ q ∈ clsAt [[], [0], [0, 1], [], [3], [0, 1, 2, 3, 4], [], [], [0, 1, 2, 3, 4, 5, 6, 7], [0, 1, 2, 3, 4, 5, 6, 7, 8], [0, 1, 2, 3, 4, 5, 6, 7, 8, 9], [0, 1, 2, 3, 4, 5, 6, 7, 8, 9, 10], [0, 1, 2, 3, 4, 5, 6, 7, 8, 9, 10], [0, 1, 2, 3, 4, 5, 6, 7, 8, 9, 10], [0, 1, 2, 3, 4, 5, 6, 7, 8, 9, 10], [], [0, 1, 2, 3, 4, 5, 6, 7, 8, 9, 10, 11, 15], [0, 1, 2, 3, 4, 5, 6, 7, 8, 9, 10, 11, 12, 15, 16], [0, 1, 2, 3, 4, 5, 6, 7, 8, 9, 10, 11, 12, 13, 15, 16, 17], [0, 1, 2, 3, 4, 5, 6, 7, 8, 9, 10, 11, 12, 13, 14, 15, 16, 17, 18]] 16) → p ≠ q → val p ≠ val q) (fun _ _ h => by rw [fset_eq] at h; cases h) (phiS_cons_st (C := fun j => j ≠ 16 ∧ 16 ∉ clsAt [[], [0], [0, 1], [], [3], [0, 1, 2, 3, 4], [], [], [0, 1, 2, 3, 4, 5, 6, 7], [0, 1, 2, 3, 4, 5, 6, 7, 8], [0, 1, 2, 3, 4, 5, 6, 7, 8, 9], [0, 1, 2, 3, 4, 5, 6, 7, 8, 9, 10], [0, 1, 2, 3, 4, 5, 6, 7, 8, 9, 10], [0, 1, 2, 3, 4, 5, 6, 7, 8, 9, 10], [0, 1, 2, 3, 4, 5, 6, 7, 8, 9, 10], [], [0, 1, 2, 3, 4, 5, 6, 7, 8, 9, 10, 11, 15], [0, 1, 2, 3, 4, 5, 6, 7, 8, 9, 10, 11, 12, 15, 16], [0, 1, 2, 3, 4, 5, 6, 7, 8, 9, 10, 11, 12, 13, 15, 16, 17], [0, 1, 2, 3, 4, 5, 6, 7, 8, 9, 10, 11, 12, 13, 14, 15, 16, 17, 18]] j ∧ ∀ p ∈ [15], (p = j ∨ p ∈ clsAt [[], [0], [0, 1], [], [3], [0, 1, 2, 3, 4], [], [], [0, 1, 2, 3, 4, 5, 6, 7], [0, 1, 2, 3, 4, 5, 6, 7, 8], [0, 1, 2, 3, 4, 5, 6, 7, 8, 9], [0, 1, 2, 3, 4, 5, 6, 7, 8, 9, 10], [0, 1, 2, 3, 4, 5, 6, 7, 8, 9, 10], [0, 1, 2, 3, 4, 5, 6, 7, 8, 9, 10], [0, 1, 2, 3, 4, 5, 6, 7, 8, 9, 10], [], [0, 1, 2, 3, 4, 5, 6, 7, 8, 9, 10, 11, 15], [0, 1, 2, 3, 4, 5, 6, 7, 8, 9, 10, 11, 12, 15, 16], [0, 1, 2, 3, 4, 5, 6, 7, 8, 9, 10, 11, 12, 13, 15, 16, 17], [0, 1, 2, 3, 4, 5, 6, 7, 8, 9, 10, 11, 12, 13, 14, 15, 16, 17, 18]] j) → ∀ q ∈ [15], (q = 16 ∨ q ∈ clsAt [[], [0], [0, 1], [], [3], [0, 1, 2, 3, 4], [], [], [0, 1, 2, 3, 4, 5, 6, 7], [0, 1, 2, 3, 4, 5, 6, 7, 8], [0, 1, 2, 3, 4, 5, 6, 7, 8, 9], [0, 1, 2, 3, 4, 5, 6, 7, 8, 9, 10], [0, 1, 2, 3, 4, 5, 6, 7, 8, 9, 10], [0, 1, 2, 3, 4, 5, 6, 7, 8, 9, 10], [0, 1, 2, 3, 4, 5, 6, 7, 8, 9, 10], [], [0, 1, 2, 3, 4, 5, 6, 7, 8, 9, 10, 11, 15], [0, 1, 2, 3, 4, 5, 6, 7, 8, 9, 10, 11, 12, 15, 16], [0, 1, 2, 3, 4, 5, 6, 7, 8, 9, 10, 11, 12, 13, 15, 16, 17], [0, 1, 2, 3, 4, 5, 6, 7, 8, 9, 10, 11, 12, 13, 14, 15, 16, 17, 18]] 16) → p ≠ q → val p ≠ val q) (fun _ _ h => by rw [fset_eq] at h; cases h) (phiS_cons_st (C := fun j => j ≠ 16 ∧ 16 ∉ clsAt [[], [0], [0, 1], [], [3], [0, 1, 2, 3, 4], [], [], [0, 1, 2, 3, 4, 5, 6, 7], [0, 1, 2, 3, 4, 5, 6, 7, 8], [0, 1, 2, 3, 4, 5, 6, 7, 8, 9], [0, 1, 2, 3, 4, 5, 6, 7, 8, 9, 10], [0, 1, 2, 3, 4, 5, 6, 7, 8, 9, 10], [0, 1, 2, 3, 4, 5, 6, 7, 8, 9, 10], [0, 1, 2, 3, 4, 5, 6, 7, 8, 9, 10], [], [0, 1, 2, 3, 4, 5, 6, 7, 8, 9, 10, 11, 15], [0, 1, 2, 3, 4, 5, 6, 7, 8, 9, 10, 11, 12, 15, 16], [0, 1, 2, 3, 4, 5, 6, 7, 8, 9, 10, 11, 12, 13, 15, 16, 17], [0, 1, 2, 3, 4, 5, 6, 7, 8, 9, 10, 11, 12, 13, 14, 15, 16, 17, 18]] j ∧ ∀ p ∈ [15], (p = j ∨ p ∈ clsAt [[], [0], [0, 1], [], [3], [0, 1, 2, 3, 4], [], [], [0, 1, 2, 3, 4, 5, 6, 7], [0, 1, 2, 3, 4, 5, 6, 7, 8], [0, 1, 2, 3, 4, 5, 6, 7, 8, 9], [0, 1, 2, 3, 4, 5, 6, 7, 8, 9, 10], [0, 1, 2, 3, 4, 5, 6, 7, 8, 9, 10], [0, 1, 2, 3, 4, 5, 6, 7, 8, 9, 10], [0, 1, 2, 3, 4, 5, 6, 7, 8, 9, 10], [], [0, 1, 2, 3, 4, 5, 6, 7, 8, 9, 10, 11, 15], [0, 1, 2, 3, 4, 5, 6, 7, 8, 9, 10, 11, 12, 15, 16], [0, 1, 2, 3, 4, 5, 6, 7, 8, 9, 10, 11, 12, 13, 15, 16, 17], [0, 1, 2, 3, 4, 5, 6, 7, 8, 9, 10, 11, 12, 13, 14, 15, 16, 17, 18]] j) → ∀ q ∈ [15], (q = 16 ∨ q ∈ clsAt [[], [0], [0, 1], [], [3], [0, 1, 2, 3, 4], [], [], [0, 1, 2, 3, 4, 5, 6, 7], [0, 1, 2, 3, 4, 5, 6, 7, 8], [0, 1, 2, 3, 4, 5, 6, 7, 8, 9], [0, 1, 2, 3, 4, 5, 6, 7, 8, 9, 10], [0, 1, 2, 3, 4, 5, 6, 7, 8, 9, 10], [0, 1, 2, 3, 4, 5, 6, 7, 8, 9, 10], [0, 1, 2, 3, 4, 5, 6, 7, 8, 9, 10], [], [0, 1, 2, 3, 4, 5, 6, 7, 8, 9, 10, 11, 15], [0, 1, 2, 3, 4, 5, 6, 7, 8, 9, 10, 11, 12, 15, 16], [0, 1, 2, 3, 4, 5, 6, 7, 8, 9, 10, 11, 12, 13, 15, 16, 17], [0, 1, 2, 3, 4, 5, 6, 7, 8, 9, 10, 11, 12, 13, 14, 15, 16, 17, 18]] 16) → p ≠ q → val p ≠ val q) (fun _ _ h => by rw [fset_eq] at h; cases h) (phiS_cons_st (C := fun j => j ≠ 16 ∧ 16 ∉ clsAt [[], [0], [0, 1], [], [3], [0, 1, 2, 3, 4], [], [], [0, 1, 2, 3, 4, 5, 6, 7], [0, 1, 2, 3, 4, 5, 6, 7, 8], [0, 1, 2, 3, 4, 5, 6, 7, 8, 9], [0, 1, 2, 3, 4, 5, 6, 7, 8, 9, 10], [0, 1, 2, 3, 4, 5, 6, 7, 8, 9, 10], [0, 1, 2, 3, 4, 5, 6, 7, 8, 9, 10], [0, 1, 2, 3, 4, 5, 6, 7, 8, 9, 10], [], [0, 1, 2, 3, 4, 5, 6, 7, 8, 9, 10, 11, 15], [0, 1, 2, 3, 4, 5, 6, 7, 8, 9, 10, 11, 12, 15, 16], [0, 1, 2, 3, 4, 5, 6, 7, 8, 9, 10, 11, 12, 13, 15, 16, 17], [0, 1, 2, 3, 4, 5, 6, 7, 8, 9, 10, 11, 12, 13, 14, 15, 16, 17, 18]] j ∧ ∀ p ∈ [15], (p = j ∨ p ∈ clsAt [[], [0], [0, 1], [], [3], [0, 1, 2, 3, 4], [], [], [0, 1, 2, 3, 4, 5, 6, 7], [0, 1, 2, 3, 4, 5, 6, 7, 8], [0, 1, 2, 3, 4, 5, 6, 7, 8, 9], [0, 1, 2, 3, 4, 5, 6, 7, 8, 9, 10], [0, 1, 2, 3, 4, 5, 6, 7, 8, 9, 10], [0, 1, 2, 3, 4, 5, 6, 7, 8, 9, 10], [0, 1, 2, 3, 4, 5, 6, 7, 8, 9, 10], [], [0, 1, 2, 3, 4, 5, 6, 7, 8, 9, 10, 11, 15], [0, 1, 2, 3, 4, 5, 6, 7, 8, 9, 10, 11, 12, 15, 16], [0, 1, 2, 3, 4, 5, 6, 7, 8, 9, 10, 11, 12, 13, 15, 16, 17], [0, 1, 2, 3, 4, 5, 6, 7, 8, 9, 10, 11, 12, 13, 14, 15, 16, 17, 18]] j) → ∀ q ∈ [15], (q = 16 ∨ q ∈ clsAt [[], [0], [0, 1], [], [3], [0, 1, 2, 3, 4], [], [], [0, 1, 2, 3, 4, 5, 6, 7], [0, 1, 2, 3, 4, 5, 6, 7, 8], [0, 1, 2, 3, 4, 5, 6, 7, 8, 9], [0, 1, 2, 3, 4, 5, 6, 7, 8, 9, 10], [0, 1, 2, 3, 4, 5, 6, 7, 8, 9, 10], [0, 1, 2, 3, 4, 5, 6, 7, 8, 9, 10], [0, 1, 2, 3, 4, 5, 6, 7, 8, 9, 10], [], [0, 1, 2, 3, 4, 5, 6, 7, 8, 9, 10, 11, 15], [0, 1, 2, 3, 4, 5, 6, 7, 8, 9, 10, 11, 12, 15, 16], [0, 1, 2, 3, 4, 5, 6, 7, 8, 9, 10, 11, 12, 13, 15, 16, 17], [0, 1, 2, 3, 4, 5, 6, 7, 8, 9, 10, 11, 12, 13, 14, 15, 16, 17, 18]] 16) → p ≠ q → val p ≠ val q) (fun _ _ h => by rw [fset_eq] at h; cases h) (phiS_cons_st (C := fun j => j ≠ 16 ∧ 16 ∉ clsAt [[], [0], [0, 1], [], [3], [0, 1, 2, 3, 4], [], [], [0, 1, 2, 3, 4, 5, 6, 7], [0, 1, 2, 3, 4, 5, 6, 7, 8], [0, 1, 2, 3, 4, 5, 6, 7, 8, 9], [0, 1, 2, 3, 4, 5, 6, 7, 8, 9, 10], [0, 1, 2, 3, 4, 5, 6, 7, 8, 9, 10], [0, 1, 2, 3, 4, 5, 6, 7, 8, 9, 10], [0, 1, 2, 3, 4, 5, 6, 7, 8, 9, 10], [], [0, 1, 2, 3, 4, 5, 6, 7, 8, 9, 10, 11, 15], [0, 1, 2, 3, 4, 5, 6, 7, 8, 9, 10, 11, 12, 15, 16], [0, 1, 2, 3, 4, 5, 6, 7, 8, 9, 10, 11, 12, 13, 15, 16, 17], [0, 1, 2, 3, 4, 5, 6, 7, 8, 9, 10, 11, 12, 13, 14, 15, 16, 17, 18]] j ∧ ∀ p ∈ [15], (p = j ∨ p ∈ clsAt [[], [0], [0, 1], [], [3], [0, 1, 2, 3, 4], [], [], [0, 1, 2, 3, 4, 5, 6, 7], [0, 1, 2, 3, 4, 5, 6, 7, 8], [0, 1, 2, 3, 4, 5, 6, 7, 8, 9], [0, 1, 2, 3, 4, 5, 6, 7, 8, 9, 10], [0, 1, 2, 3, 4, 5, 6, 7, 8, 9, 10], [0, 1, 2, 3, 4, 5, 6, 7, 8, 9, 10], [0, 1, 2, 3, 4, 5, 6, 7, 8, 9, 10], [], [0, 1, 2, 3, 4, 5, 6, 7, 8, 9, 10, 11, 15], [0, 1, 2, 3, 4, 5, 6, 7, 8, 9, 10, 11, 12, 15, 16], [0, 1, 2, 3, 4, 5, 6, 7, 8, 9, 10, 11, 12, 13, 15, 16, 17], [0, 1, 2, 3, 4, 5, 6, 7, 8, 9, 10, 11, 12, 13, 14, 15, 16, 17, 18]] j) → ∀ q ∈ [15], (q = 16 ∨ q ∈ clsAt [[], [0], [0, 1], [], [3], [0, 1, 2, 3, 4], [], [], [0, 1, 2, 3, 4, 5, 6, 7], [0, 1, 2, 3, 4, 5, 6, 7, 8], [0, 1, 2, 3, 4, 5, 6, 7, 8, 9], [0, 1, 2, 3, 4, 5, 6, 7, 8, 9, 10], [0, 1, 2, 3, 4, 5, 6, 7, 8, 9, 10], [0, 1, 2, 3, 4, 5, 6, 7, 8, 9, 10], [0, 1, 2, 3, 4, 5, 6, 7, 8, 9, 10], [], [0, 1, 2, 3, 4, 5, 6, 7, 8, 9, 10, 11, 15], [0, 1, 2, 3, 4, 5, 6, 7, 8, 9, 10, 11, 12, 15, 16], [0, 1, 2, 3, 4, 5, 6, 7, 8, 9, 10, 11, 12, 13, 15, 16, 17], [0, 1, 2, 3, 4, 5, 6, 7, 8, 9, 10, 11, 12, 13, 14, 15, 16, 17, 18]] 16) → p ≠ q → val p ≠ val q) (fun _ ⟨g, h1, h2, _⟩ => ⟨g, h1, h2, fun h => by rw [fset_eq] at h; cases h⟩) (phiS_cons_st (C := fun j => j ≠ 16 ∧ 16 ∉ clsAt [[], [0], [0, 1], [], [3], [0, 1, 2, 3, 4], [], [], [0, 1, 2, 3, 4, 5, 6, 7], [0, 1, 2, 3, 4, 5, 6, 7, 8], [0, 1, 2, 3, 4, 5, 6, 7, 8, 9], [0, 1, 2, 3, 4, 5, 6, 7, 8, 9, 10], [0, 1, 2, 3, 4, 5, 6, 7, 8, 9, 10], [0, 1, 2, 3, 4, 5, 6, 7, 8, 9, 10], [0, 1, 2, 3, 4, 5, 6, 7, 8, 9, 10], [], [0, 1, 2, 3, 4, 5, 6, 7, 8, 9, 10, 11, 15], [0, 1, 2, 3, 4, 5, 6, 7, 8, 9, 10, 11, 12, 15, 16], [0, 1, 2, 3, 4, 5, 6, 7, 8, 9, 10, 11, 12, 13, 15, 16, 17], [0, 1, 2, 3, 4, 5, 6, 7, 8, 9, 10, 11, 12, 13, 14, 15, 16, 17, 18]] j ∧ ∀ p ∈ [15], (p = j ∨ p ∈ clsAt [[], [0], [0, 1], [], [3], [0, 1, 2, 3, 4], [], [], [0, 1, 2, 3, 4, 5, 6, 7], [0, 1, 2, 3, 4, 5, 6, 7, 8], [0, 1, 2, 3, 4, 5, 6, 7, 8, 9], [0, 1, 2, 3, 4, 5, 6, 7, 8, 9, 10], [0, 1, 2, 3, 4, 5, 6, 7, 8, 9, 10], [0, 1, 2, 3, 4, 5, 6, 7, 8, 9, 10], [0, 1, 2, 3, 4, 5, 6, 7, 8, 9, 10], [], [0, 1, 2, 3, 4, 5, 6, 7, 8, 9, 10, 11, 15], [0, 1, 2, 3, 4, 5, 6, 7, 8, 9, 10, 11, 12, 15, 16], [0, 1, 2, 3, 4, 5, 6, 7, 8, 9, 10, 11, 12, 13, 15, 16, 17], [0, 1, 2, 3, 4, 5, 6, 7, 8, 9, 10, 11, 12, 13, 14, 15, 16, 17, 18]] j) → ∀ q ∈ [15], (q = 16 ∨ q ∈ clsAt [[], [0], [0, 1], [], [3], [0, 1, 2, 3, 4], [], [], [0, 1, 2, 3, 4, 5, 6, 7], [0, 1, 2, 3, 4, 5, 6, 7, 8], [0, 1, 2, 3, 4, 5, 6, 7, 8, 9], [0, 1, 2, 3, 4, 5, 6, 7, 8, 9, 10], [0, 1, 2, 3, 4, 5, 6, 7, 8, 9, 10], [0, 1, 2, 3, 4, 5, 6, 7, 8, 9, 10], [0, 1, 2, 3, 4, 5, 6, 7, 8, 9, 10], [], [0, 1, 2, 3, 4, 5, 6, 7, 8, 9, 10, 11, 15], [0, 1, 2, 3, 4, 5, 6, 7, 8, 9, 10, 11, 12, 15, 16], [0, 1, 2, 3, 4, 5, 6, 7, 8, 9, 10, 11, 12, 13, 15, 16, 17], [0, 1, 2, 3, 4, 5, 6, 7, 8, 9, 10, 11, 12, 13, 14, 15, 16, 17, 18]] 16) → p ≠ q → val p ≠ val q) (fun hc => absurd rfl hc.1) (fun _ _ h => h)))))) j ⟨hj, hn, hA⟩
              · intro val fl wR19 hfl hb halc hd
                have e0 : val 0 = .pointer (some ⟨g1, 0, none⟩) := hd 0 (by omega)
                have e1 : val 1 = .agg #[.slice (some ⟨bR, oR, none⟩) rv.reaches.length c, .slice A' rv.shoals.length c'] := hd 1 (by omega)
                have e3 : val 3 = .pointer (some ⟨g1, 2, none⟩) := hd 3 (by omega)
                have e4 : val 4 = .slice (some ⟨bS, oS, none⟩) sides.length d := hd 4 (by omega)
                have e7 : val 7 = .slice (some ⟨bw, ow, none⟩) l.length cw := hd 7 (by omega)
                have e9 : val 9 = .tuple #[.agg #[.int .i64 (shUp rv sides l l.length).lo, .int .i64 (shUp rv sides l l.length).hi], .int .i64 (shUp rv sides l l.length).pass, .int .i64 (shUp rv sides l l.length).hour, .int .i64 0] := hd 9 (by omega)
                have e10 : val 10 = .tuple #[.agg #[.int .i64 (shUp rv sides l l.length).lo, .int .i64 (shUp rv sides l l.length).hi], .int .i64 (shUp rv sides l l.length).pass, .int .i64 (shUp rv sides l l.length).hour, .int .i64 0] := hd 10 (by omega)
                have e11 : val 11 = .agg #[.int .i64 (shUp rv sides l l.length).lo, .int .i64 (shUp rv sides l l.length).hi] := hd 11 (by omega)
                have e12 : val 12 = .int .i64 (shUp rv sides l l.length).pass := hd 12 (by omega)
                have e13 : val 13 = .int .i64 (shUp rv sides l l.length).hour := hd 13 (by omega)
                have e14 : val 14 = .int .i64 0 := hd 14 (by omega)
                obtain ⟨ga15_19, e15, qa15_19⟩ := hd 16 (by omega)
                change val 15 = _ at e15
                have e17 : val 17 = .int .i64 (shUp rv sides l l.length).pass := hd 17 (by omega)
                have e18 : val 18 = .int .i64 (shUp rv sides l l.length).hour := hd 18 (by omega)
                refine EL.ends (cs := [.pointer (some ⟨g1, 0, none⟩), .agg #[.slice (some ⟨bR, oR, none⟩) rv.reaches.length c, .slice A' rv.shoals.length c'], val 2, .pointer (some ⟨g1, 2, none⟩), .slice (some ⟨bS, oS, none⟩) sides.length d, val 5, val 6, .slice (some ⟨bw, ow, none⟩) l.length cw, val 8, .tuple #[.agg #[.int .i64 (shUp rv sides l l.length).lo, .int .i64 (shUp rv sides l l.length).hi], .int .i64 (shUp rv sides l l.length).pass, .int .i64 (shUp rv sides l l.length).hour, .int .i64 0], .tuple #[.agg #[.int .i64 (shUp rv sides l l.length).lo, .int .i64 (shUp rv sides l l.length).hi], .int .i64 (shUp rv sides l l.length).pass, .int .i64 (shUp rv sides l l.length).hour, .int .i64 0], .agg #[.int .i64 (shUp rv sides l l.length).lo, .int .i64 (shUp rv sides l l.length).hi], .int .i64 (shUp rv sides l l.length).pass, .int .i64 (shUp rv sides l l.length).hour, .int .i64 0, .pointer (some ⟨ga15_19, 0, none⟩), val 16, .int .i64 (shUp rv sides l l.length).pass, .int .i64 (shUp rv sides l l.length).hour]) ⟨e0, e1, rfl, e3, e4, rfl, rfl, e7, rfl, e9, e10, e11, e12, e13, e14, e15, rfl, e17, e18, trivial⟩ rfl ?_
                replace q1 := q1.below hb q1.lt
                replace q2 := q2.below hb q2.lt
                have bge11 := alc_ge halc (i := 15) rfl rfl e15
                have n1_11 : g1 ≠ ga15_19 := Nat.ne_of_lt (Nat.lt_of_lt_of_le lt_1 bge11)
                have n2_11 : g2 ≠ ga15_19 := Nat.ne_of_lt (Nat.lt_of_lt_of_le lt_2 bge11)
                have bhbw_11 := Nat.le_trans hbw.size bge11
                have bbF_11 := Nat.le_trans bF.size bge11
                replace hbw := Below.on hbw hb hbw.size
                replace bF := Below.on bF hb bF.size
                refine EL.val (x_assign rfl) rfl ?_
                refine EL.nil ?_
                refine EX.seq ?_
                refine EC.seq ?_
                refine EC.seq ?_
                refine EC.region ?_
                refine EL.val (x_move rfl) rfl ?_
                refine EL.val (x_neq rfl rfl (by first | assumption | exact decide_eq_false (by omega))) rfl ?_
                refine EL.nil ?_
                refine EX.seq ?_
                refine EC.no rfl ?_
                refine EC.skip ?_
                refine EX.seq ?_
                refine EC.seq ?_
                refine EC.region ?_
                refine EL.val (x_assign rfl) rfl ?_
                refine EL.val (x_assign rfl) rfl ?_
                refine EL.nil ?_
                refine EX.seq ?_
                refine EC.seq ?_
                refine EC.seq ?_
                refine EC.region ?_
                refine EL.val (x_assign rfl) rfl ?_
                refine EL.nil ?_
                refine EX.seq ?_
                refine EC.block ?_
                refine EC.loopD [6, 19, 20, 21, 22, 23, 24, 25, 26, 27, 28, 29, 30, 31, 32, 33, 34, 35, 36, 37, 245, 246, 247, 248, 249, 250, 251, 252, 253, 254, 255, 256, 257, 258, 259, 260, 261, 262, 263, 264, 265, 266, 267, 268, 269, 270, 271, 272, 273, 274, 275, 276, 277, 278, 279, 280, 281, 282, 283, 284, 285, 286, 287, 288, 289, 290, 291, 292, 293, 294, 295, 296, 297, 298, 299, 300, 301, 302, 303, 304, 305, 306, 307, 308, 309, 310, 311, 312, 313, 314, 315, 316, 317, 318, 319, 320, 321, 322, 323, 324, 325, 326, 327, 328, 329, 330, 331, 332, 333, 334, 335, 336, 337, 338, 339, 340, 341, 342, 343, 344, 345, 346, 347, 348, 349, 350, 351, 352, 353, 354, 355, 356, 357, 358, 359, 360, 361, 362, 363, 364, 365, 366, 367, 368, 369, 370, 371, 372, 373, 374, 375, 376, 377, 378, 379, 380, 381, 382, 383, 384, 385, 386, 387, 388, 389, 390, 391, 392, 393, 394, 395, 396, 397, 398, 399, 400, 401, 402, 403, 404, 405, 406, 407, 408, 409, 410, 411, 412, 413, 414, 415, 416, 417, 418, 419, 420, 421, 422, 423, 424, 425, 426, 427, 428, 429, 430, 431, 432, 433, 434, 435, 436, 437, 438, 439, 440, 441, 442, 443, 444, 445, 446, 447, 448, 449, 450, 451, 452, 453, 454, 455, 456, 457, 458, 459, 460, 461, 462, 463, 464, 465, 466, 467, 468, 469, 470, 471, 472, 473, 474, 475, 476, 477, 478, 479, 480, 481, 482] (fun x : Nat => [(19, .int .i64 (mnF (upF rv sides bs zs es gs l) x)), (20, .int .i64 (mnF (loF rv sides bs zs es gs l) x)), (21, .int .i64 (x : Nat))]) (fun x W => x ≤ l.length ∧ Blk W g1 54 #[.slice (some ⟨bR, oR, none⟩) rv.reaches.length c, .slice A' rv.shoals.length c', .slice (some ⟨bS, oS, none⟩) sides.length d] ∧ Blk W g2 40 #[.slice Ab bs.length cb, .slice As2 zs.length cs2, .slice Ae es.length ce, .slice Ag gs.length cg, .int .u8 tx] ∧ Blk W ga15_19 23 #[.int .i64 (shUp rv sides l l.length).lo, .int .i64 (shUp rv sides l l.length).hi] ∧ Below w.heap.size w W ∧ Below wR3.heap.size wR3 W) (fun x => l.length - x) 0 ⟨Nat.zero_le _, q1, q2, qa15_19, hbw, bF⟩ ⟨rfl, rfl, rfl, trivial⟩ ?_
                clear q1 q2 qa15_19 hbw bF
                rintro i wi ⟨hi, q1, q2, qa15_19, hbw, bF⟩
                by_cases hlt : i < l.length
                ·
                  have hci := hpc i hlt
                  obtain ⟨m_, hm_, em_, hh0, hh1, hip⟩ := tHour_in (zs := zs) hS hway hv2 hlt
                  unfold tHour at em_ hh0 hh1
                  have hip_ := inB_iff.1 hip
                  have hrl := reachOf_lt rv.reaches (l.getD i pass0).place (by omega) (by omega)
                  obtain ⟨_, hhb⟩ := hway.ok i hlt
                  have hhb := bdOk_iff.1 hhb
                  have pp := part_bd hv2 i
                  refine EC.seq ?_
                  refine EC.seq ?_
                  refine EC.region ?_
                  refine EL.val (x_move rfl) rfl ?_
                  refine EL.val (x_move rfl) rfl ?_
                  refine EL.val (ln_99 rfl) rfl ?_
                  refine EL.val (x_lss rfl rfl (by first | assumption | exact decide_eq_true (by omega))) rfl ?_
                  refine EL.nil ?_
                  refine EX.seq ?_
                  refine EC.yes rfl ?_
                  refine EC.skip ?_
                  refine EX.seq ?_
                  refine EC.seq ?_
                  refine EC.block ?_
                  refine EC.seq ?_
                  refine EC.region ?_
                  refine EL.val (x_move rfl) rfl ?_
                  refine EL.val (x_move rfl) rfl ?_
                  refine EL.val (ix_99 (k := i) rfl rfl hlt) rfl ?_
                  refine EL.val (ld_101 rfl (below_load hbw hci.c0) (below_load hbw hci.c1) (below_load hbw hci.c2)) rfl ?_
                  refine EL.newP al_101 rfl ?_
                  intro g12 w12 q12 hb12 hg12 hl12
                  have n1_12 : g1 ≠ g12 := Nat.ne_of_lt (Nat.lt_of_lt_of_le q1.lt hg12)
                  have n2_12 : g2 ≠ g12 := Nat.ne_of_lt (Nat.lt_of_lt_of_le q2.lt hg12)
                  have n11_12 : ga15_19 ≠ g12 := Nat.ne_of_lt (Nat.lt_of_lt_of_le qa15_19.lt hg12)
                  have bhbw_12 := Nat.le_trans hbw.size hg12
                  have bbF_12 := Nat.le_trans bF.size hg12
                  replace q1 := q1.below hb12 q1.lt
                  replace q2 := q2.below hb12 q2.lt
                  replace qa15_19 := qa15_19.below hb12 qa15_19.lt
                  replace hbw := Below.on hbw hb12 hbw.size
                  replace bF := Below.on bF hb12 bF.size
                  clear hb12 hg12 hl12
                  refine EL.store rfl rfl q12 sz_101 rfl rfl rfl rfl ?_
                  intro w13 hq13 hg13
                  replace q1 := q1.grown hg13 (fun h => n1_12 (Option.some.inj h))
                  replace q2 := q2.grown hg13 (fun h => n2_12 (Option.some.inj h))
                  replace qa15_19 := qa15_19.grown hg13 (fun h => n11_12 (Option.some.inj h))
                  replace hbw := below_store hbw hg13 bhbw_12
                  replace bF := below_store bF hg13 bbF_12
                  replace q12 := hq13
                  clear hg13 hq13
                  refine EL.nil ?_
                  refine EX.seq ?_
                  refine EC.seq ?_
                  refine EC.regionQ (by kernel_rfl) (by kernel_rfl) ?_
                  refine EQ.val (fun _ hw => (fa_101_1 rfl)) rfl ?_
                  refine EQ.val (fun _ hw => (ld_23 rfl (below_load hw (q12.at (j := 1) rfl)) (below_load hw (q12.at (j := 2) rfl)))) rfl ?_
                  refine EQ.val (fun _ hw => (fa_40_1 rfl)) rfl ?_
                  refine EQ.val (fun _ hw => (ld_38 rfl (below_load hw (q2.at (j := 1) rfl)))) rfl ?_
                  refine EQ.val (fun _ hw => (x_move rfl)) rfl ?_
                  refine EQ.call (fun _ _ _ ha => cl_22 rfl rfl _ ha) rfl (fun W hw => (part_any zs _ i W B (hw2.below ((hbw.trans (hw.mono hbw.size)).mono hB)) (by omega)).mono fun e w' h => ⟨h.1, hw.trans (h.2.mono hw.size)⟩) ?_
                  refine EQ.call (fun _ _ _ ha => cl_21 rfl rfl _ ha) rfl (fun W hw => (pick_any (l.getD i pass0).hours _ W (by omega) (by omega) (by omega) pp).mono fun e w' h => ⟨h.1, hw.trans (h.2.mono hw.size)⟩) ?_
                  refine EQ.val (fun _ hw => (x_assign rfl)) rfl ?_
                  refine EQ.fin (fun w14 hw_ => ?_)
                  replace q1 := q1.below hw_ q1.lt
                  replace q2 := q2.below hw_ q2.lt
                  replace qa15_19 := qa15_19.below hw_ qa15_19.lt
                  replace q12 := q12.below hw_ q12.lt
                  replace hbw := Below.on hbw hw_ hbw.size
                  replace bF := Below.on bF hw_ bF.size
                  clear hw_
                  refine EX.seq ?_
                  refine EC.seq ?_
                  refine EC.region ?_
                  refine EL.val (x_assign rfl) rfl ?_
                  refine EL.val (x_assign rfl) rfl ?_
                  refine EL.nil ?_
                  refine EX.seq ?_
                  obtain ⟨t, et⟩ : ∃ t, t = (pickI (l.getD i pass0).hours (partI zs i)) := ⟨_, rfl⟩
                  rw [← et] at em_ hh0 hh1
                  rw [← et]
                  obtain ⟨k, ek⟩ : ∃ k, k = (reachOf rv.reaches (l.getD i pass0).place) := ⟨_, rfl⟩
                  have hkr := ek.symm
                  have hk : k < rv.reaches.length := by omega
                  obtain ⟨br_, or_, eo_, _, ck⟩ := reaches_cells hr.reaches k hk
                  injection eo_ with eo_
                  injection eo_ with eo1 eo2
                  subst eo1
                  subst eo2
                  refine EC.cutD [24, 25, 262, 263, 264, 265, 266, 267, 268, 269, 270, 271, 272, 273, 274, 275, 276, 277, 278, 279, 280, 281, 282, 283, 284, 285, 286, 287, 288, 289, 290, 291, 292, 293] (fun _ : Unit => [(24, .int .i64 (k : Nat))]) (fun _ W => Blk W g1 54 #[.slice (some ⟨bR, oR, none⟩) rv.reaches.length c, .slice A' rv.shoals.length c', .slice (some ⟨bS, oS, none⟩) sides.length d] ∧ Blk W g2 40 #[.slice Ab bs.length cb, .slice As2 zs.length cs2, .slice Ae es.length ce, .slice Ag gs.length cg, .int .u8 tx] ∧ Blk W ga15_19 23 #[.int .i64 (shUp rv sides l l.length).lo, .int .i64 (shUp rv sides l l.length).hi] ∧ Blk W g12 101 #[.int .i64 (l.getD i pass0).place, .int .i64 (l.getD i pass0).hours.lo, .int .i64 (l.getD i pass0).hours.hi] ∧ Below w.heap.size w W ∧ Below wR3.heap.size wR3 W) ?_ ?_
                  ·
                    refine EC.block ?_
                    refine EC.loopD [24, 25, 262, 263, 264, 265, 266, 267, 268, 269, 270, 271, 272, 273, 274, 275, 276, 277, 278, 279, 280, 281, 282, 283, 284, 285, 286, 287, 288, 289, 290, 291, 292, 293] (fun x : Nat => [(24, .int .i64 (x : Nat)), (25, .int .i64 (placesOf (rv.reaches.take x)))]) (fun x W => x < rv.reaches.length ∧ 0 ≤ placesOf (rv.reaches.take x) ∧ placesOf (rv.reaches.take x) ≤ (l.getD i pass0).place ∧ Blk W g1 54 #[.slice (some ⟨bR, oR, none⟩) rv.reaches.length c, .slice A' rv.shoals.length c', .slice (some ⟨bS, oS, none⟩) sides.length d] ∧ Blk W g2 40 #[.slice Ab bs.length cb, .slice As2 zs.length cs2, .slice Ae es.length ce, .slice Ag gs.length cg, .int .u8 tx] ∧ Blk W ga15_19 23 #[.int .i64 (shUp rv sides l l.length).lo, .int .i64 (shUp rv sides l l.length).hi] ∧ Blk W g12 101 #[.int .i64 (l.getD i pass0).place, .int .i64 (l.getD i pass0).hours.lo, .int .i64 (l.getD i pass0).hours.hi] ∧ Below w.heap.size w W ∧ Below wR3.heap.size wR3 W) (fun x => rv.reaches.length - x) 0 ⟨by omega, by simp only [List.take_zero, placesOf, List.map_nil, List.sum_nil]; omega, by simp only [List.take_zero, placesOf, List.map_nil, List.sum_nil]; omega, q1, q2, qa15_19, q12, hbw, bF⟩ ⟨rfl, rfl, trivial⟩ ?_
                    clear q1 q2 qa15_19 q12 hbw bF
                    rintro m wm ⟨hm, hpm0, hpm, q1, q2, qa15_19, q12, hbw, bF⟩
                    have hpt := hS.river.places
                    obtain ⟨bm_, om_, eo_, _, cm⟩ := reaches_cells hr.reaches m hm
                    injection eo_ with eo_
                    injection eo_ with eo1 eo2
                    subst eo1
                    subst eo2
                    have hlm := (hS.river.reach m hm).len
                    have hps := placesOf_succ hm
                    by_cases hC : placesOf (rv.reaches.take m) + (rv.reaches.getD m reach0).len ≤ (l.getD i pass0).place
                    ·
                      have hm1 : m + 1 < rv.reaches.length := by
                        rcases Nat.lt_or_ge (m + 1) rv.reaches.length with h | h
                        · exact h
                        · rw [show m + 1 = rv.reaches.length by omega, List.take_length] at hps; omega
                      refine EC.seq ?_
                      refine EC.seq ?_
                      refine EC.regionQ (by kernel_rfl) (by kernel_rfl) ?_
                      refine EQ.val (fun _ hw => (x_move rfl)) rfl ?_
                      refine EQ.val (fun _ hw => (fa_54_0 rfl)) rfl ?_
                      refine EQ.val (fun _ hw => (fa_47_0 rfl)) rfl ?_
                      refine EQ.val (fun _ hw => (ld_44 rfl (below_load hw (q1.at (j := 0) rfl)))) rfl ?_
                      refine EQ.val (fun _ hw => (ln_44 rfl)) rfl ?_
                      refine EQ.val (fun _ hw => (x_sub rfl rfl (IntWalk.i64_in _ ⟨by first | omega | (simp only; omega), by first | omega | (simp only; omega)⟩))) rfl ?_
                      refine EQ.val (fun _ hw => (x_lss rfl rfl (by first | assumption | exact decide_eq_true (by omega)))) rfl ?_
                      refine EQ.val (fun _ hw => (x_move rfl)) rfl ?_
                      refine EQ.valg rfl rfl (fun _ hw => (fa_101_0 rfl)) rfl ?_
                      refine EQ.valg rfl rfl (fun _ hw => (ld_3 rfl (below_load hw (q12.at (j := 0) rfl)))) rfl ?_
                      refine EQ.valg rfl rfl (fun _ hw => (x_move rfl)) rfl ?_
                      refine EQ.valg rfl rfl (fun _ hw => (fa_54_0 rfl)) rfl ?_
                      refine EQ.valg rfl rfl (fun _ hw => (fa_47_0 rfl)) rfl ?_
                      refine EQ.valg rfl rfl (fun _ hw => (ld_44 rfl (below_load hw (q1.at (j := 0) rfl)))) rfl ?_
                      refine EQ.valg rfl rfl (fun _ hw => (x_move rfl)) rfl ?_
                      refine EQ.valg rfl rfl (fun _ hw => (ix_44 rfl rfl hm)) rfl ?_
                      refine EQ.valg rfl rfl (fun _ hw => (fa_50_0 rfl)) rfl ?_
                      refine EQ.valg rfl rfl (fun _ hw => (ld_3 rfl (below_load hw (below_load hbw cm.c0)))) rfl ?_
                      refine EQ.valg rfl rfl (fun _ hw => (x_add rfl rfl (IntWalk.i64_in _ ⟨by first | omega | (simp only; omega), by first | omega | (simp only; omega)⟩))) rfl ?_
                      refine EQ.valg rfl rfl (fun _ hw => (x_geq rfl rfl (by first | assumption | exact decide_eq_true (by omega)))) rfl ?_
                      refine EQ.val (fun _ hw => (x_pick_t rfl rfl)) rfl ?_
                      refine EQ.fin (fun w15 hw_ => ?_)
                      replace q1 := q1.below hw_ q1.lt
                      replace q2 := q2.below hw_ q2.lt
                      replace qa15_19 := qa15_19.below hw_ qa15_19.lt
                      replace q12 := q12.below hw_ q12.lt
                      replace hbw := Below.on hbw hw_ hbw.size
                      replace bF := Below.on bF hw_ bF.size
                      clear hw_
                      refine EX.seq ?_
                      refine EC.yes rfl ?_
                      refine EC.skip ?_
                      refine EX.seq ?_
                      refine EC.block ?_
                      refine EC.seq ?_
                      refine EC.region ?_
                      refine EL.val (x_move rfl) rfl ?_
                      refine EL.val (fa_54_0 rfl) rfl ?_
                      refine EL.val (fa_47_0 rfl) rfl ?_
                      refine EL.val (ld_44 rfl (q1.at (j := 0) rfl)) rfl ?_
                      refine EL.val (x_move rfl) rfl ?_
                      refine EL.val (ix_44 rfl rfl hm) rfl ?_
                      refine EL.val (fa_50_0 rfl) rfl ?_
                      refine EL.val (ld_3 rfl (below_load hbw cm.c0)) rfl ?_
                      refine EL.val (x_add rfl rfl (IntWalk.i64_in _ ⟨by first | omega | (simp only; omega), by first | omega | (simp only; omega)⟩)) rfl ?_
                      refine EL.val (x_assign rfl) rfl ?_
                      refine EL.nil ?_
                      refine EX.seq ?_
                      refine EC.region ?_
                      refine EL.val (x_move rfl) rfl ?_
                      refine EL.val (x_add rfl rfl (by first | assumption | exact IntWalk.i64_in _ ⟨by omega, by omega⟩)) rfl ?_
                      refine EL.val (x_assign rfl) rfl ?_
                      refine EL.nil ?_
                      refine EX.blk ?_
                      refine EX.roundD (m + 1) ⟨rfl, agree_of hps.symm rfl, trivial⟩ (by repeat first | with_reducible exact Sub.refl _ | refine sub_past rfl ?_ | exact Sub.refl _ | refine sub_del rfl ?_ | refine sub_insL_nil ?_) ⟨hm1, by rw [hps]; omega, by rw [hps]; exact hC, q1, q2, qa15_19, q12, hbw, bF⟩ (by omega)
                    · have hmk : m = k := by rw [ek]; exact (reachOf_eq _ _ m (fun y hy => by obtain ⟨q, hq, e⟩ := List.getElem_of_mem hy; have h1 := (hS.river.reach q hq).len; rw [show rv.reaches.getD q reach0 = y by simp [hq, e]] at h1; omega) hm hpm (by rw [hps]; omega)).symm
                      by_cases hm1 : m + 1 < rv.reaches.length
                      ·
                        refine EC.seq ?_
                        refine EC.seq ?_
                        refine EC.regionQ (by kernel_rfl) (by kernel_rfl) ?_
                        refine EQ.val (fun _ hw => (x_move rfl)) rfl ?_
                        refine EQ.val (fun _ hw => (fa_54_0 rfl)) rfl ?_
                        refine EQ.val (fun _ hw => (fa_47_0 rfl)) rfl ?_
                        refine EQ.val (fun _ hw => (ld_44 rfl (below_load hw (q1.at (j := 0) rfl)))) rfl ?_
                        refine EQ.val (fun _ hw => (ln_44 rfl)) rfl ?_
                        refine EQ.val (fun _ hw => (x_sub rfl rfl (IntWalk.i64_in _ ⟨by first | omega | (simp only; omega), by first | omega | (simp only; omega)⟩))) rfl ?_
                        refine EQ.val (fun _ hw => (x_lss rfl rfl (by first | assumption | exact decide_eq_true (by omega)))) rfl ?_
                        refine EQ.val (fun _ hw => (x_move rfl)) rfl ?_
                        refine EQ.valg rfl rfl (fun _ hw => (fa_101_0 rfl)) rfl ?_
                        refine EQ.valg rfl rfl (fun _ hw => (ld_3 rfl (below_load hw (q12.at (j := 0) rfl)))) rfl ?_
                        refine EQ.valg rfl rfl (fun _ hw => (x_move rfl)) rfl ?_
                        refine EQ.valg rfl rfl (fun _ hw => (fa_54_0 rfl)) rfl ?_
                        refine EQ.valg rfl rfl (fun _ hw => (fa_47_0 rfl)) rfl ?_
                        refine EQ.valg rfl rfl (fun _ hw => (ld_44 rfl (below_load hw (q1.at (j := 0) rfl)))) rfl ?_
                        refine EQ.valg rfl rfl (fun _ hw => (x_move rfl)) rfl ?_
                        refine EQ.valg rfl rfl (fun _ hw => (ix_44 rfl rfl hm)) rfl ?_
                        refine EQ.valg rfl rfl (fun _ hw => (fa_50_0 rfl)) rfl ?_
                        refine EQ.valg rfl rfl (fun _ hw => (ld_3 rfl (below_load hw (below_load hbw cm.c0)))) rfl ?_
                        refine EQ.valg rfl rfl (fun _ hw => (x_add rfl rfl (IntWalk.i64_in _ ⟨by first | omega | (simp only; omega), by first | omega | (simp only; omega)⟩))) rfl ?_
                        refine EQ.valg rfl rfl (fun _ hw => (x_geq rfl rfl (by first | assumption | exact decide_eq_false (by omega)))) rfl ?_
                        refine EQ.val (fun _ hw => (x_pick_t rfl rfl)) rfl ?_
                        refine EQ.fin (fun w16 hw_ => ?_)
                        replace q1 := q1.below hw_ q1.lt
                        replace q2 := q2.below hw_ q2.lt
                        replace qa15_19 := qa15_19.below hw_ qa15_19.lt
                        replace q12 := q12.below hw_ q12.lt
                        replace hbw := Below.on hbw hw_ hbw.size
                        replace bF := Below.on bF hw_ bF.size
                        clear hw_
                        refine EX.seq ?_
                        refine EC.no rfl ?_
                        refine EC.exit ?_
                        refine EX.seq_exit ?_
                        refine EX.seq_exit ?_
                        refine EX.blk_here ?_
                        refine EX.cutE () ⟨agree_of (congrArg Int.ofNat hmk) rfl, trivial⟩ (by repeat first | with_reducible exact (Sub.refl _).del _ | refine sub_past rfl ?_ | exact (Sub.refl _).del _ | refine sub_del rfl ?_ | refine sub_insL_nil ?_) ⟨q1, q2, qa15_19, q12, hbw, bF⟩
                      ·
                        refine EC.seq ?_
                        refine EC.seq ?_
                        refine EC.regionQ (by kernel_rfl) (by kernel_rfl) ?_
                        refine EQ.val (fun _ hw => (x_move rfl)) rfl ?_
                        refine EQ.val (fun _ hw => (fa_54_0 rfl)) rfl ?_
                        refine EQ.val (fun _ hw => (fa_47_0 rfl)) rfl ?_
                        refine EQ.val (fun _ hw => (ld_44 rfl (below_load hw (q1.at (j := 0) rfl)))) rfl ?_
                        refine EQ.val (fun _ hw => (ln_44 rfl)) rfl ?_
                        refine EQ.val (fun _ hw => (x_sub rfl rfl (IntWalk.i64_in _ ⟨by first | omega | (simp only; omega), by first | omega | (simp only; omega)⟩))) rfl ?_
                        refine EQ.val (fun _ hw => (x_lss rfl rfl (by first | assumption | exact decide_eq_false (by omega)))) rfl ?_
                        refine EQ.val (fun _ hw => (x_move rfl)) rfl ?_
                        refine EQ.skip rfl rfl rfl rfl ?_
                        refine EQ.skip rfl rfl rfl rfl ?_
                        refine EQ.skip rfl rfl rfl rfl ?_
                        refine EQ.skip rfl rfl rfl rfl ?_
                        refine EQ.skip rfl rfl rfl rfl ?_
                        refine EQ.skip rfl rfl rfl rfl ?_
                        refine EQ.skip rfl rfl rfl rfl ?_
                        refine EQ.skip rfl rfl rfl rfl ?_
                        refine EQ.skip rfl rfl rfl rfl ?_
                        refine EQ.skip rfl rfl rfl rfl ?_
                        refine EQ.skip rfl rfl rfl rfl ?_
                        refine EQ.skip rfl rfl rfl rfl ?_
                        refine EQ.val (fun _ hw => (x_pick_f rfl rfl)) rfl ?_
                        refine EQ.fin (fun w17 hw_ => ?_)
                        replace q1 := q1.below hw_ q1.lt
                        replace q2 := q2.below hw_ q2.lt
                        replace qa15_19 := qa15_19.below hw_ qa15_19.lt
                        replace q12 := q12.below hw_ q12.lt
                        replace hbw := Below.on hbw hw_ hbw.size
                        replace bF := Below.on bF hw_ bF.size
                        clear hw_
                        refine EX.seq ?_
                        refine EC.no rfl ?_
                        refine EC.exit ?_
                        refine EX.seq_exit ?_
                        refine EX.seq_exit ?_
                        refine EX.blk_here ?_
                        refine EX.cutE () ⟨agree_of (congrArg Int.ofNat hmk) rfl, trivial⟩ (by repeat first | with_reducible exact (Sub.refl _).del _ | refine sub_past rfl ?_ | exact (Sub.refl _).del _ | refine sub_del rfl ?_ | refine sub_insL_nil ?_) ⟨q1, q2, qa15_19, q12, hbw, bF⟩
                  ·
                    clear q1 q2 qa15_19 q12 hbw bF
                    rintro _ wk0 ⟨q1, q2, qa15_19, q12, hbw, bF⟩
                    obtain ⟨bF0, oF0, rfl, _, xF⟩ := sides_cell dF k (by first | rw [flowsUp_len]; omega | rw [lvUp_len]; omega)
                    have rF := dF.side k (by first | rw [flowsUp_len]; omega | rw [lvUp_len]; omega)
                    rw [flowsUp_at _ _ (by omega), flowsOf_len] at rF
                    obtain ⟨AF0, cF0, eF0, _⟩ := rF.shape
                    rw [eF0] at xF rF
                    have cc := ck
                    have hin := trF_bd hS hv1 hv2 k t (by omega) (by omega)
                    have hsmall := flowIn_small hS k t (by omega) (by omega)
                    have hlv := level_in (hS.river.reach k (by omega)) hin.1 hin.2
                    have hlb := levelAt_bd (hS.river.reach k (by omega)) ⟨(trF rv.reaches sides bs zs k t), (trF rv.reaches sides bs zs k t)⟩
                    have htop := trTop_all hS.river hv3 hv4 (h := t) hrl
                    have htd := truth_depth hS hv3 hv4 (p := (l.getD i pass0).place) (t := t) (by omega) (by omega) hh1 (by rw [hkr]; exact hin.1) (by rw [hkr]; exact hin.2)
                    rw [hkr] at htd
                    have hdb := depth_bd hS (p := (l.getD i pass0).place) (t := t) (by omega) (by omega) hh0 hh1
                    have hdl := depth_le hS (p := (l.getD i pass0).place) (t := t) (by omega) (by omega) hh1
                    have hbb := bed_bd hS (p := (l.getD i pass0).place) (t := t) (by omega) (by omega) hh0 hh1
                    have hxr := hS.river.reach k hk
                    have hbot := hxr.bottom
                    have pe := part_bd hv3 k
                    have pk0 := pick_bd (b := (rv.reaches.getD k reach0).bottom) hbot.2.1 pe.1 pe.2
                    refine EC.seq ?_
                    refine EC.seq ?_
                    refine EC.region ?_
                    refine EL.val (x_move rfl) rfl ?_
                    refine EL.val (x_lss rfl rfl (by first | assumption | exact decide_eq_false (by omega))) rfl ?_
                    refine EL.val (x_move rfl) rfl ?_
                    refine EL.valg rfl rfl (x_move rfl) rfl ?_
                    refine EL.valg rfl rfl (x_move rfl) rfl ?_
                    refine EL.valg rfl rfl (x_move rfl) rfl ?_
                    refine EL.valg rfl rfl (ix_52 rfl rfl (by omega)) rfl ?_
                    refine EL.valg rfl rfl (ld_28 rfl (below_load bF xF)) rfl ?_
                    refine EL.valg rfl rfl (ln_28 rfl) rfl ?_
                    refine EL.valg rfl rfl (x_geq rfl rfl (by first | assumption | exact decide_eq_false (by omega))) rfl ?_
                    refine EL.val (x_pick_f rfl rfl) rfl ?_
                    refine EL.nil ?_
                    refine EX.seq ?_
                    refine EC.no rfl ?_
                    refine EC.skip ?_
                    refine EX.seq ?_
                    refine EC.seq ?_
                    refine EC.region ?_
                    refine EL.val (ld_54 rfl (q1.at (j := 0) rfl) (q1.at (j := 1) rfl) (q1.at (j := 2) rfl)) rfl ?_
                    refine EL.val (ld_40 rfl (q2.at (j := 0) rfl) (q2.at (j := 1) rfl) (q2.at (j := 2) rfl) (q2.at (j := 3) rfl) (q2.at (j := 4) rfl)) rfl ?_
                    refine EL.val (x_move rfl) rfl ?_
                    refine EL.val (x_move rfl) rfl ?_
                    refine EL.call (cl_55 rfl rfl rfl rfl) rfl (truly_any rv sides _ _ _ vs ss bs zs es gs _ _ _ _ tx k t _ B (hr.below (hbw.mono hB)) (hs.below (hbw.mono hB)) (Nat.le_trans hB hbw.size) (hw1.below (hbw.mono hB)) (hw2.below (hbw.mono hB)) (hw3.below (hbw.mono hB)) (hw4.below (hbw.mono hB)) hv1 hv2 hn1 hn2 hS (by omega) (by omega) (by omega)) ?_
                    rintro e w18 ⟨rfl, hc18⟩
                    refine ⟨_, rfl, ?_⟩
                    replace q1 := q1.below hc18 q1.lt
                    replace q2 := q2.below hc18 q2.lt
                    replace qa15_19 := qa15_19.below hc18 qa15_19.lt
                    replace q12 := q12.below hc18 q12.lt
                    replace hbw := Below.on hbw hc18 hbw.size
                    replace bF := Below.on bF hc18 bF.size
                    clear hc18
                    refine EL.val (x_assign rfl) rfl ?_
                    refine EL.nil ?_
                    refine EX.seq ?_
                    refine EC.seq ?_
                    refine EC.region ?_
                    refine EL.val (fa_54_0 rfl) rfl ?_
                    refine EL.val (ld_47 rfl (q1.at (j := 0) rfl) (q1.at (j := 1) rfl)) rfl ?_
                    refine EL.call (cl_24 rfl) rfl (copied_any rv _ _ vs _ B (hr.below (hbw.mono hB)) (Nat.le_trans hB hbw.size) (by omega) (by omega) f3) ?_
                    rintro e wC ⟨⟨aC, uC, vsC, rfl, hRC⟩, hcC⟩
                    refine ⟨_, rfl, ?_⟩
                    replace q1 := q1.below hcC q1.lt
                    replace q2 := q2.below hcC q2.lt
                    replace qa15_19 := qa15_19.below hcC qa15_19.lt
                    replace q12 := q12.below hcC q12.lt
                    replace hbw := Below.on hbw hcC hbw.size
                    replace bF := Below.on bF hcC bF.size
                    clear hcC
                    have bC := Below.refl wC.heap.size wC
                    obtain ⟨AC, cC, rfl, _⟩ := hRC.reaches.shape
                    obtain ⟨AC2, cC2, rfl, _⟩ := hRC.shoals.shape
                    obtain ⟨bC0, oC0, rfl, _, kC⟩ := reaches_cells hRC.reaches k (by omega)
                    have rC := hRC.reaches.curve k (by omega)
                    obtain ⟨AsC, csC, esC, _⟩ := rC.shape
                    rw [esC] at kC rC
                    refine EL.val (fd_47_0 rfl) rfl ?_
                    refine EL.val (x_move rfl) rfl ?_
                    refine EL.val (ix_44 rfl rfl (by omega)) rfl ?_
                    refine EL.val (ld_50 rfl (below_load bC kC.c0) (below_load bC kC.c1) (below_load bC kC.c2) (below_load bC kC.c3) (below_load bC kC.c4) (below_load bC kC.c5) (below_load bC kC.c6) (below_load bC kC.c7) (below_load bC kC.c8)) rfl ?_
                    refine EL.val (x_move rfl) rfl ?_
                    refine EL.val (x_move rfl) rfl ?_
                    refine EL.val (bd_23_0_1 rfl rfl) rfl ?_
                    refine EL.call (cl_28 rfl rfl) rfl (lev_ok (rv.reaches.getD k reach0) _ ⟨(trF rv.reaches sides bs zs k t), (trF rv.reaches sides bs zs k t)⟩ _ _ (rC.below bC) bC.size (f3 k (by omega)) (reach_good hok (by omega)) (bdOk_iff.2 ⟨by first | omega | (simp only; omega), by first | omega | (simp only; omega), by first | omega | (simp only; omega)⟩)) ?_
                    rintro e w19 ⟨rfl, hc19⟩
                    refine ⟨_, rfl, ?_⟩
                    replace q1 := q1.below hc19 q1.lt
                    replace q2 := q2.below hc19 q2.lt
                    replace qa15_19 := qa15_19.below hc19 qa15_19.lt
                    replace q12 := q12.below hc19 q12.lt
                    replace hbw := Below.on hbw hc19 hbw.size
                    replace bF := Below.on bF hc19 bF.size
                    replace bC := Below.on bC hc19 bC.size
                    clear hc19
                    refine EL.val (x_move rfl) rfl ?_
                    refine EL.val (x_extract rfl rfl) rfl ?_
                    refine EL.val (x_extract rfl rfl) rfl ?_
                    refine EL.newP al_23 rfl ?_
                    intro g20 w20 q20 hb20 hg20 hl20
                    have n1_20 : g1 ≠ g20 := Nat.ne_of_lt (Nat.lt_of_lt_of_le q1.lt hg20)
                    have n2_20 : g2 ≠ g20 := Nat.ne_of_lt (Nat.lt_of_lt_of_le q2.lt hg20)
                    have n11_20 : ga15_19 ≠ g20 := Nat.ne_of_lt (Nat.lt_of_lt_of_le qa15_19.lt hg20)
                    have n12_20 : g12 ≠ g20 := Nat.ne_of_lt (Nat.lt_of_lt_of_le q12.lt hg20)
                    have bhbw_20 := Nat.le_trans hbw.size hg20
                    have bbF_20 := Nat.le_trans bF.size hg20
                    have bbC_20 := Nat.le_trans bC.size hg20
                    replace q1 := q1.below hb20 q1.lt
                    replace q2 := q2.below hb20 q2.lt
                    replace qa15_19 := qa15_19.below hb20 qa15_19.lt
                    replace q12 := q12.below hb20 q12.lt
                    replace hbw := Below.on hbw hb20 hbw.size
                    replace bF := Below.on bF hb20 bF.size
                    replace bC := Below.on bC hb20 bC.size
                    clear hb20 hg20 hl20
                    refine EL.store rfl rfl q20 sz_23 rfl rfl rfl rfl ?_
                    intro w21 hq21 hg21
                    replace q1 := q1.grown hg21 (fun h => n1_20 (Option.some.inj h))
                    replace q2 := q2.grown hg21 (fun h => n2_20 (Option.some.inj h))
                    replace qa15_19 := qa15_19.grown hg21 (fun h => n11_20 (Option.some.inj h))
                    replace q12 := q12.grown hg21 (fun h => n12_20 (Option.some.inj h))
                    replace hbw := below_store hbw hg21 bhbw_20
                    replace bF := below_store bF hg21 bbF_20
                    replace bC := below_store bC hg21 bbC_20
                    replace q20 := hq21
                    clear hg21 hq21
                    refine EL.val (x_assign rfl) rfl ?_
                    refine EL.nil ?_
                    refine EX.seq ?_
                    refine EC.seq ?_
                    have lt_1 := q1.lt
                    have lt_2 := q2.lt
                    have lt_11 := qa15_19.lt
                    have lt_12 := q12.lt
                    have lt_20 := q20.lt
                    refine EC.regionS [[], [0], [0, 1], [], [3], [0, 1, 2, 3, 4], [], [6], [], [0, 1, 2, 3, 4, 5, 6, 7, 8], [0, 1, 2, 3, 4, 5, 6, 7, 8, 9], [0, 1, 2, 3, 4, 5, 6, 7, 8, 9, 10], [0, 1, 2, 3, 4, 5, 6, 7, 8, 9, 10], [], [0, 1, 2, 3, 4, 5, 6, 7, 8, 9, 10, 11, 13], [0, 1, 2, 3, 4, 5, 6, 7, 8, 9, 10, 11, 12, 13, 14]] 15 [13] [14] (fun _ w_ => Below w21.heap.size w21 w_) (phiS (fun i_ r => match i_ with | 0 => r 0 = .pointer (some ⟨g1, 0, none⟩) | 1 => r 1 = .agg #[.slice (some ⟨bR, oR, none⟩) rv.reaches.length c, .slice A' rv.shoals.length c'] | 3 => r 3 = .pointer (some ⟨g1, 2, none⟩) | 4 => r 4 = .slice (some ⟨bS, oS, none⟩) sides.length d | 6 => r 6 = .pointer (some ⟨g12, 0, none⟩) | 7 => r 7 = .int .i64 (l.getD i pass0).place | 8 => r 8 = .int .i64 t | 9 => r 9 = .tuple #[.agg #[.int .i64 (depthAt rv sides (l.getD i pass0).place t).lo, .int .i64 (depthAt rv sides (l.getD i pass0).place t).hi], .int .i64 0] | 10 => r 10 = .tuple #[.agg #[.int .i64 (depthAt rv sides (l.getD i pass0).place t).lo, .int .i64 (depthAt rv sides (l.getD i pass0).place t).hi], .int .i64 0] | 11 => r 11 = .agg #[.int .i64 (depthAt rv sides (l.getD i pass0).place t).lo, .int .i64 (depthAt rv sides (l.getD i pass0).place t).hi] | 12 => r 12 = .int .i64 0 | _ => True) [(2, fun fl r w_ => fl 14 = false → (∃ a b vs, r 2 = .agg #[a, b] ∧ RdRiver w_ w_.heap.size a b rv vs)), (5, fun fl r w_ => fl 14 = false → (∃ v ss, r 5 = v ∧ RdSides w_ w_.heap.size v sides ss)), (13, fun fl r w_ => ∃ g_, r 13 = .pointer (some ⟨g_, 0, none⟩) ∧ w21.heap.size ≤ g_ ∧ (fl 14 = false → Blk w_ g_ 23 #[.int .i64 0, .int .i64 0])), (14, fun _ r w_ => ∃ g_, r 13 = .pointer (some ⟨g_, 0, none⟩) ∧ Blk w_ g_ 23 #[.int .i64 (depthAt rv sides (l.getD i pass0).place t).lo, .int .i64 (depthAt rv sides (l.getD i pass0).place t).hi])]) (by kernel_rfl) rfl rfl (by intro i hi; simp at hi; first | (subst hi; exact ⟨by simp, by omega⟩) | (rcases hi with rfl | rfl | rfl <;> exact ⟨by simp, by omega⟩) | (rcases hi with rfl | rfl <;> exact ⟨by simp, by omega⟩)) (base_below w21) (phiS_cons (monoS_till mono_riv) (phiS_cons (monoS_till mono_sid) (phiS_cons monoS_alloc (phiS_cons monoS_store (phiS_nil))))) (fun i_ hi_ hs_ => ?_) (fun i_ hi_ => ?_) ?_
                    · match i_, hi_ with
                      | 0, _ =>
                        intro val fl w1 a hb ha hd hfl
                        have ha := ha.sub (Sub.ins (d := 3) (Sub.nil _) rfl)
                        exact ss_val ha rfl rfl (fa_54_0 rfl) rfl rfl
                      | 1, _ =>
                        intro val fl w1 a hb ha hd hfl
                        have e0 : val 0 = .pointer (some ⟨g1, 0, none⟩) := hd 0 (memB_mem.1 rfl)
                        have ha := ha.sub (Sub.ins (d := 325) (Sub.nil _) (dep_get rfl e0))
                        exact ss_val ha rfl rfl (ld_47 rfl ((q1.below hb q1.lt).at (j := 0) rfl) ((q1.below hb q1.lt).at (j := 1) rfl)) rfl rfl
                      | 2, _ =>
                        intro val fl w1 a hb ha hd hfl
                        have e1 : val 1 = .agg #[.slice (some ⟨bR, oR, none⟩) rv.reaches.length c, .slice A' rv.shoals.length c'] := hd 1 (memB_mem.1 rfl)
                        have ha := ha.sub (Sub.ins (d := 326) (Sub.nil _) (dep_get rfl e1))
                        refine ss_call ha rfl rfl (cl_24 rfl) (copied_any rv _ _ vs _ B (hr.below ((Below.on hbw hb hbw.size).mono hB)) (Nat.le_trans hB (Below.on hbw hb hbw.size).size) (by omega) (by omega) f3) rfl ?_
                        rintro e w' ⟨⟨v1, u1, vs1, rfl, hcp⟩, hb'⟩
                        exact ⟨_, rfl, hb', fun _ => ⟨_, _, _, rfl, hcp⟩⟩
                      | 3, _ =>
                        intro val fl w1 a hb ha hd hfl
                        have ha := ha.sub (Sub.ins (d := 3) (Sub.nil _) rfl)
                        exact ss_val ha rfl rfl (fa_54_1 rfl) rfl rfl
                      | 4, _ =>
                        intro val fl w1 a hb ha hd hfl
                        have e3 : val 3 = .pointer (some ⟨g1, 2, none⟩) := hd 3 (memB_mem.1 rfl)
                        have ha := ha.sub (Sub.ins (d := 328) (Sub.nil _) (dep_get rfl e3))
                        exact ss_val ha rfl rfl (ld_52 rfl ((q1.below hb q1.lt).at (j := 2) rfl)) rfl rfl
                      | 5, _ =>
                        intro val fl w1 a hb ha hd hfl
                        have e4 : val 4 = .slice (some ⟨bS, oS, none⟩) sides.length d := hd 4 (memB_mem.1 rfl)
                        have ha := ha.sub (Sub.ins (d := 329) (Sub.nil _) (dep_get rfl e4))
                        refine ss_call ha rfl rfl (cl_34 rfl) (forecast_any sides _ ss _ B (hs.below ((Below.on hbw hb hbw.size).mono hB)) (Nat.le_trans hB (Below.on hbw hb hbw.size).size) (by omega) f4) rfl ?_
                        rintro e w' ⟨⟨v1, ss1, rfl, hcp⟩, hb'⟩
                        exact ⟨_, rfl, hb', fun _ => ⟨_, _, rfl, hcp⟩⟩
                      | 6, _ =>
                        intro val fl w1 a hb ha hd hfl
                        have ha := ha.sub (Sub.ins (d := 22) (Sub.nil _) rfl)
                        exact ss_val ha rfl rfl (fa_101_0 rfl) rfl rfl
                      | 7, _ =>
                        intro val fl w1 a hb ha hd hfl
                        have e6 : val 6 = .pointer (some ⟨g12, 0, none⟩) := hd 6 (memB_mem.1 rfl)
                        have ha := ha.sub (Sub.ins (d := 331) (Sub.nil _) (dep_get rfl e6))
                        exact ss_val ha rfl rfl (ld_3 rfl ((q12.below hb q12.lt).at (j := 0) rfl)) rfl rfl
                      | 8, _ =>
                        intro val fl w1 a hb ha hd hfl
                        have ha := ha.sub (Sub.ins (d := 23) (Sub.nil _) rfl)
                        exact ss_val ha rfl rfl (x_move rfl) rfl rfl
                      | 9, _ =>
                        intro val fl w1 a hb ha hd hfl
                        obtain ⟨a2_, b2_, vs2_, e2, q2_⟩ := hd 2 (memB_mem.1 rfl) (hfl 14 (by simp) (memB_mem.1 rfl))
                        obtain ⟨v5_, ss5_, e5, q5_⟩ := hd 5 (memB_mem.1 rfl) (hfl 14 (by simp) (memB_mem.1 rfl))
                        have e7 : val 7 = .int .i64 (l.getD i pass0).place := hd 7 (memB_mem.1 rfl)
                        have e8 : val 8 = .int .i64 t := hd 8 (memB_mem.1 rfl)
                        have ha := ha.sub (Sub.ins (d := 333) (Sub.ins (d := 332) (Sub.ins (d := 330) (Sub.ins (d := 327) (Sub.nil _) (dep_get rfl e2)) (dep_get rfl e5)) (dep_get rfl e7)) (dep_get rfl e8))
                        refine ss_call ha rfl rfl (cl_33 rfl rfl rfl rfl) (dep_good rv sides _ _ _ _ _ _ w1.heap.size q2_ q5_ (Nat.le_refl _) hfine hst hip (inB_iff.2 (by omega))) rfl ?_
                        rintro e w' ⟨rfl, hb'⟩
                        exact ⟨_, rfl, hb', rfl⟩
                      | 10, _ =>
                        intro val fl w1 a hb ha hd hfl
                        have e9 : val 9 = .tuple #[.agg #[.int .i64 (depthAt rv sides (l.getD i pass0).place t).lo, .int .i64 (depthAt rv sides (l.getD i pass0).place t).hi], .int .i64 0] := hd 9 (memB_mem.1 rfl)
                        have ha := ha.sub (Sub.ins (d := 334) (Sub.nil _) (dep_get rfl e9))
                        exact ss_val ha rfl rfl (x_move rfl) rfl rfl
                      | 11, _ =>
                        intro val fl w1 a hb ha hd hfl
                        have e10 : val 10 = .tuple #[.agg #[.int .i64 (depthAt rv sides (l.getD i pass0).place t).lo, .int .i64 (depthAt rv sides (l.getD i pass0).place t).hi], .int .i64 0] := hd 10 (memB_mem.1 rfl)
                        have ha := ha.sub (Sub.ins (d := 324) (Sub.nil _) (dep_get rfl e10))
                        exact ss_val ha rfl rfl (x_extract rfl rfl) rfl rfl
                      | 12, _ =>
                        intro val fl w1 a hb ha hd hfl
                        have e10 : val 10 = .tuple #[.agg #[.int .i64 (depthAt rv sides (l.getD i pass0).place t).lo, .int .i64 (depthAt rv sides (l.getD i pass0).place t).hi], .int .i64 0] := hd 10 (memB_mem.1 rfl)
                        have ha := ha.sub (Sub.ins (d := 324) (Sub.nil _) (dep_get rfl e10))
                        exact ss_val ha rfl rfl (x_extract rfl rfl) rfl rfl
                      | 13, _ =>
                        intro val fl w1 a hb ha hd hfl
                        have ha := ha.sub (Sub.nil _)
                        exact ss_newP ha rfl rfl al_23 (fun g w' hq _ hge => ⟨g, rfl, Nat.le_trans hb.size hge, fun _ => hq⟩)
                      | 14, _ =>
                        exact absurd (by simp) hs_
                      | k + 15, h => exact absurd h (by omega)
                    · simp only [List.mem_singleton] at hi_; subst hi_
                      intro val fl w1 a hb hfi ha hd hfl
                      obtain ⟨g13_, e13, hg13_, q13_⟩ := hd 13 (memB_mem.1 rfl)
                      change val 13 = _ at e13
                      have e11 : val 11 = .agg #[.int .i64 (depthAt rv sides (l.getD i pass0).place t).lo, .int .i64 (depthAt rv sides (l.getD i pass0).place t).hi] := hd 11 (memB_mem.1 rfl)
                      have ha := ha.sub (Sub.ins (d := 335) (Sub.ins (d := 29) (Sub.nil _) (dep_get rfl e13)) (dep_get rfl e11))
                      refine ts_store ha rfl rfl rfl (q13_ hfi) sz_23 rfl rfl rfl rfl ?_
                      intro w' hq hgr
                      refine ⟨undef, rfl, hgr.size, below_store hb hgr hg13_, ⟨g13_, e13, hq⟩, fun j _ hj hn hA => ?_⟩
                      exact phiS_cons_st (C := fun j => j ≠ 14 ∧ 14 ∉ clsAt [[], [0], [0, 1], [], [3], [0, 1, 2, 3, 4], [], [6], [], [0, 1, 2, 3, 4, 5, 6, 7, 8], [0, 1, 2, 3, 4, 5, 6, 7, 8, 9], [0, 1, 2, 3, 4, 5, 6, 7, 8, 9, 10], [0, 1, 2, 3, 4, 5, 6, 7, 8, 9, 10], [], [0, 1, 2, 3, 4, 5, 6, 7, 8, 9, 10, 11, 13], [0, 1, 2, 3, 4, 5, 6, 7, 8, 9, 10, 11, 12, 13, 14]] j ∧ ∀ p ∈ [13], (p = j ∨ p ∈ clsAt [[], [0], [0, 1], [], [3], [0, 1, 2, 3, 4], [], [6], [], [0, 1, 2, 3, 4, 5, 6, 7, 8], [0, 1, 2, 3, 4, 5, 6, 7, 8, 9], [0, 1, 2, 3, 4, 5, 6, 7, 8, 9, 10], [0, 1, 2, 3, 4, 5, 6, 7, 8, 9, 10], [], [0, 1, 2, 3, 4, 5, 6, 7, 8, 9, 10, 11, 13], [0, 1, 2, 3, 4, 5, 6, 7, 8, 9, 10, 11, 12, 13, 14]] j) → ∀ q ∈ [13], (q = 14 ∨ q ∈ clsAt [[], [0], [0, 1], [], [3], [0, 1, 2, 3, 4], [], [6], [], [0, 1, 2, 3, 4, 5, 6, 7, 8], [0, 1, 2, 3, 4, 5, 6, 7, 8, 9], [0, 1, 2, 3, 4, 5, 6, 7, 8, 9, 10], [0, 1, 2, 3, 4, 5, 6, 7, 8, 9, 10], [], [0, 1, 2, 3, 4, 5, 6, 7, 8, 9, 10, 11, 13], [0, 1, 2, 3, 4, 5, 6, 7, 8, 9, 10, 11, 12, 13, 14]] 14) → p ≠ q → val p ≠ val q) (fun _ _ h => by rw [fset_eq] at h; cases h) (phiS_cons_st (C := fun j => j ≠ 14 ∧ 14 ∉ clsAt [[], [0], [0, 1], [], [3], [0, 1, 2, 3, 4], [], [6], [], [0, 1, 2, 3, 4, 5, 6, 7, 8], [0, 1, 2, 3, 4, 5, 6, 7, 8, 9], [0, 1, 2, 3, 4, 5, 6, 7, 8, 9, 10], [0, 1, 2, 3, 4, 5, 6, 7, 8, 9, 10], [], [0, 1, 2, 3, 4, 5, 6, 7, 8, 9, 10, 11, 13], [0, 1, 2, 3, 4, 5, 6, 7, 8, 9, 10, 11, 12, 13, 14]] j ∧ ∀ p ∈ [13], (p = j ∨ p ∈ clsAt [[], [0], [0, 1], [], [3], [0, 1, 2, 3, 4], [], [6], [], [0, 1, 2, 3, 4, 5, 6, 7, 8], [0, 1, 2, 3, 4, 5, 6, 7, 8, 9], [0, 1, 2, 3, 4, 5, 6, 7, 8, 9, 10], [0, 1, 2, 3, 4, 5, 6, 7, 8, 9, 10], [], [0, 1, 2, 3, 4, 5, 6, 7, 8, 9, 10, 11, 13], [0, 1, 2, 3, 4, 5, 6, 7, 8, 9, 10, 11, 12, 13, 14]] j) → ∀ q ∈ [13], (q = 14 ∨ q ∈ clsAt [[], [0], [0, 1], [], [3], [0, 1, 2, 3, 4], [], [6], [], [0, 1, 2, 3, 4, 5, 6, 7, 8], [0, 1, 2, 3, 4, 5, 6, 7, 8, 9], [0, 1, 2, 3, 4, 5, 6, 7, 8, 9, 10], [0, 1, 2, 3, 4, 5, 6, 7, 8, 9, 10], [], [0, 1, 2, 3, 4, 5, 6, 7, 8, 9, 10, 11, 13], [0, 1, 2, 3, 4, 5, 6, 7, 8, 9, 10, 11, 12, 13, 14]] 14) → p ≠ q → val p ≠ val q) (fun _ _ h => by rw [fset_eq] at h; cases h) (phiS_cons_st (C := fun j => j ≠ 14 ∧ 14 ∉ clsAt [[], [0], [0, 1], [], [3], [0, 1, 2, 3, 4], [], [6], [], [0, 1, 2, 3, 4, 5, 6, 7, 8], [0, 1, 2, 3, 4, 5, 6, 7, 8, 9], [0, 1, 2, 3, 4, 5, 6, 7, 8, 9, 10], [0, 1, 2, 3, 4, 5, 6, 7, 8, 9, 10], [], [0, 1, 2, 3, 4, 5, 6, 7, 8, 9, 10, 11, 13], [0, 1, 2, 3, 4, 5, 6, 7, 8, 9, 10, 11, 12, 13, 14]] j ∧ ∀ p ∈ [13], (p = j ∨ p ∈ clsAt [[], [0], [0, 1], [], [3], [0, 1, 2, 3, 4], [], [6], [], [0, 1, 2, 3, 4, 5, 6, 7, 8], [0, 1, 2, 3, 4, 5, 6, 7, 8, 9], [0, 1, 2, 3, 4, 5, 6, 7, 8, 9, 10], [0, 1, 2, 3, 4, 5, 6, 7, 8, 9, 10], [], [0, 1, 2, 3, 4, 5, 6, 7, 8, 9, 10, 11, 13], [0, 1, 2, 3, 4, 5, 6, 7, 8, 9, 10, 11, 12, 13, 14]] j) → ∀ q ∈ [13], (q = 14 ∨ q ∈ clsAt [[], [0], [0, 1], [], [3], [0, 1, 2, 3, 4], [], [6], [], [0, 1, 2, 3, 4, 5, 6, 7, 8], [0, 1, 2, 3, 4, 5, 6, 7, 8, 9], [0, 1, 2, 3, 4, 5, 6, 7, 8, 9, 10], [0, 1, 2, 3, 4, 5, 6, 7, 8, 9, 10], [], [0, 1, 2, 3, 4, 5, 6, 7, 8, 9, 10, 11, 13], [0, 1, 2, 3, 4, 5, 6, 7, 8, 9, 10, 11, 12, 13, 14]] 14) → p ≠ q → val p ≠ val q) (fun _ ⟨g, h1, h2, _⟩ => ⟨g, h1, h2, fun h => by rw [fset_eq] at h; cases h⟩) (phiS_cons_st (C := fun j => j ≠ 14 ∧ 14 ∉ clsAt [[], [0], [0, 1], [], [3], [0, 1, 2, 3, 4], [], [6], [], [0, 1, 2, 3, 4, 5, 6, 7, 8], [0, 1, 2, 3, 4, 5, 6, 7, 8, 9], [0, 1, 2, 3, 4, 5, 6, 7, 8, 9, 10], [0, 1, 2, 3, 4, 5, 6, 7, 8, 9, 10], [], [0, 1, 2, 3, 4, 5, 6, 7, 8, 9, 10, 11, 13], [0, 1, 2, 3, 4, 5, 6, 7, 8, 9, 10, 11, 12, 13, 14]] j ∧ ∀ p ∈ [13], (p = j ∨ p ∈ clsAt [[], [0], [0, 1], [], [3], [0, 1, 2, 3, 4], [], [6], [], [0, 1, 2, 3, 4, 5, 6, 7, 8], [0, 1, 2, 3, 4, 5, 6, 7, 8, 9], [0, 1, 2, 3, 4, 5, 6, 7, 8, 9, 10], [0, 1, 2, 3, 4, 5, 6, 7, 8, 9, 10], [], [0, 1, 2, 3, 4, 5, 6, 7, 8, 9, 10, 11, 13], [0, 1, 2, 3, 4, 5, 6, 7, 8, 9, 10, 11, 12, 13, 14]] j) → ∀ q ∈ [13], (q = 14 ∨ q ∈ clsAt [[], [0], [0, 1], [], [3], [0, 1, 2, 3, 4], [], [6], [], [0, 1, 2, 3, 4, 5, 6, 7, 8], [0, 1, 2, 3, 4, 5, 6, 7, 8, 9], [0, 1, 2, 3, 4, 5, 6, 7, 8, 9, 10], [0, 1, 2, 3, 4, 5, 6, 7, 8, 9, 10], [], [0, 1, 2, 3, 4, 5, 6, 7, 8, 9, 10, 11, 13], [0, 1, 2, 3, 4, 5, 6, 7, 8, 9, 10, 11, 12, 13, 14]] 14) → p ≠ q → val p ≠ val q) (fun hc => absurd rfl hc.1) (fun _ _ h => h)))) j ⟨hj, hn, hA⟩
                    · intro val fl wR36 hfl hb halc hd
                      have e0 : val 0 = .pointer (some ⟨g1, 0, none⟩) := hd 0 (by omega)
                      have e1 : val 1 = .agg #[.slice (some ⟨bR, oR, none⟩) rv.reaches.length c, .slice A' rv.shoals.length c'] := hd 1 (by omega)
                      have e3 : val 3 = .pointer (some ⟨g1, 2, none⟩) := hd 3 (by omega)
                      have e4 : val 4 = .slice (some ⟨bS, oS, none⟩) sides.length d := hd 4 (by omega)
                      have e6 : val 6 = .pointer (some ⟨g12, 0, none⟩) := hd 6 (by omega)
                      have e7 : val 7 = .int .i64 (l.getD i pass0).place := hd 7 (by omega)
                      have e8 : val 8 = .int .i64 t := hd 8 (by omega)
                      have e9 : val 9 = .tuple #[.agg #[.int .i64 (depthAt rv sides (l.getD i pass0).place t).lo, .int .i64 (depthAt rv sides (l.getD i pass0).place t).hi], .int .i64 0] := hd 9 (by omega)
                      have e10 : val 10 = .tuple #[.agg #[.int .i64 (depthAt rv sides (l.getD i pass0).place t).lo, .int .i64 (depthAt rv sides (l.getD i pass0).place t).hi], .int .i64 0] := hd 10 (by omega)
                      have e11 : val 11 = .agg #[.int .i64 (depthAt rv sides (l.getD i pass0).place t).lo, .int .i64 (depthAt rv sides (l.getD i pass0).place t).hi] := hd 11 (by omega)
                      have e12 : val 12 = .int .i64 0 := hd 12 (by omega)
                      obtain ⟨ga13_36, e13, qa13_36⟩ := hd 14 (by omega)
                      change val 13 = _ at e13
                      refine EL.ends (cs := [.pointer (some ⟨g1, 0, none⟩), .agg #[.slice (some ⟨bR, oR, none⟩) rv.reaches.length c, .slice A' rv.shoals.length c'], val 2, .pointer (some ⟨g1, 2, none⟩), .slice (some ⟨bS, oS, none⟩) sides.length d, val 5, .pointer (some ⟨g12, 0, none⟩), .int .i64 (l.getD i pass0).place, .int .i64 t, .tuple #[.agg #[.int .i64 (depthAt rv sides (l.getD i pass0).place t).lo, .int .i64 (depthAt rv sides (l.getD i pass0).place t).hi], .int .i64 0], .tuple #[.agg #[.int .i64 (depthAt rv sides (l.getD i pass0).place t).lo, .int .i64 (depthAt rv sides (l.getD i pass0).place t).hi], .int .i64 0], .agg #[.int .i64 (depthAt rv sides (l.getD i pass0).place t).lo, .int .i64 (depthAt rv sides (l.getD i pass0).place t).hi], .int .i64 0, .pointer (some ⟨ga13_36, 0, none⟩), val 14]) ⟨e0, e1, rfl, e3, e4, rfl, e6, e7, e8, e9, e10, e11, e12, e13, rfl, trivial⟩ rfl ?_
                      replace q1 := q1.below hb q1.lt
                      replace q2 := q2.below hb q2.lt
                      replace qa15_19 := qa15_19.below hb qa15_19.lt
                      replace q12 := q12.below hb q12.lt
                      replace q20 := q20.below hb q20.lt
                      have bge22 := alc_ge halc (i := 13) rfl rfl e13
                      have n1_22 : g1 ≠ ga13_36 := Nat.ne_of_lt (Nat.lt_of_lt_of_le lt_1 bge22)
                      have n2_22 : g2 ≠ ga13_36 := Nat.ne_of_lt (Nat.lt_of_lt_of_le lt_2 bge22)
                      have n11_22 : ga15_19 ≠ ga13_36 := Nat.ne_of_lt (Nat.lt_of_lt_of_le lt_11 bge22)
                      have n12_22 : g12 ≠ ga13_36 := Nat.ne_of_lt (Nat.lt_of_lt_of_le lt_12 bge22)
                      have n20_22 : g20 ≠ ga13_36 := Nat.ne_of_lt (Nat.lt_of_lt_of_le lt_20 bge22)
                      have bhbw_22 := Nat.le_trans hbw.size bge22
                      have bbF_22 := Nat.le_trans bF.size bge22
                      have bbC_22 := Nat.le_trans bC.size bge22
                      replace hbw := Below.on hbw hb hbw.size
                      replace bF := Below.on bF hb bF.size
                      replace bC := Below.on bC hb bC.size
                      refine EL.val (x_assign rfl) rfl ?_
                      refine EL.nil ?_
                      refine EX.seq ?_
                      refine EC.seq ?_
                      have lt_1 := q1.lt
                      have lt_2 := q2.lt
                      have lt_11 := qa15_19.lt
                      have lt_12 := q12.lt
                      have lt_20 := q20.lt
                      have lt_22 := qa13_36.lt
                      refine EC.regionS [[], [0], [0, 1], [], [3], [], [0, 1, 2, 3, 4, 5], [0, 1, 2, 3, 4, 5, 6], [0, 1, 2, 3, 4, 5, 6, 7], [0, 1, 2, 3, 4, 5, 6, 7], [], [0, 1, 2, 3, 4, 5, 6, 7, 8, 10], [0, 1, 2, 3, 4, 5, 6, 7, 8, 9, 10, 11]] 12 [10] [11] (fun _ w_ => Below wR36.heap.size wR36 w_) (phiS (fun i_ r => match i_ with | 0 => r 0 = .pointer (some ⟨g1, 0, none⟩) | 1 => r 1 = .agg #[.slice (some ⟨bR, oR, none⟩) rv.reaches.length c, .slice A' rv.shoals.length c'] | 3 => r 3 = .pointer (some ⟨g12, 0, none⟩) | 4 => r 4 = .int .i64 (l.getD i pass0).place | 5 => r 5 = .int .i64 t | 6 => r 6 = .tuple #[.agg #[.int .i64 (bedAt rv (l.getD i pass0).place t).lo, .int .i64 (bedAt rv (l.getD i pass0).place t).hi], .int .i64 0] | 7 => r 7 = .tuple #[.agg #[.int .i64 (bedAt rv (l.getD i pass0).place t).lo, .int .i64 (bedAt rv (l.getD i pass0).place t).hi], .int .i64 0] | 8 => r 8 = .agg #[.int .i64 (bedAt rv (l.getD i pass0).place t).lo, .int .i64 (bedAt rv (l.getD i pass0).place t).hi] | 9 => r 9 = .int .i64 0 | _ => True) [(2, fun fl r w_ => fl 11 = false → (∃ a b vs, r 2 = .agg #[a, b] ∧ RdRiver w_ w_.heap.size a b rv vs)), (10, fun fl r w_ => ∃ g_, r 10 = .pointer (some ⟨g_, 0, none⟩) ∧ wR36.heap.size ≤ g_ ∧ (fl 11 = false → Blk w_ g_ 23 #[.int .i64 0, .int .i64 0])), (11, fun _ r w_ => ∃ g_, r 10 = .pointer (some ⟨g_, 0, none⟩) ∧ Blk w_ g_ 23 #[.int .i64 (bedAt rv (l.getD i pass0).place t).lo, .int .i64 (bedAt rv (l.getD i pass0).place t).hi])]) (by kernel_rfl) rfl rfl (by intro i hi; simp at hi; first | (subst hi; exact ⟨by simp, by omega⟩) | (rcases hi with rfl | rfl | rfl <;> exact ⟨by simp, by omega⟩) | (rcases hi with rfl | rfl <;> exact ⟨by simp, by omega⟩)) (base_below wR36) (phiS_cons (monoS_till mono_riv) (phiS_cons monoS_alloc (phiS_cons monoS_store (phiS_nil)))) (fun i_ hi_ hs_ => ?_) (fun i_ hi_ => ?_) ?_
                      · match i_, hi_ with
                        | 0, _ =>
                          intro val fl w1 a hb ha hd hfl
                          have ha := ha.sub (Sub.ins (d := 3) (Sub.nil _) rfl)
                          exact ss_val ha rfl rfl (fa_54_0 rfl) rfl rfl
                        | 1, _ =>
                          intro val fl w1 a hb ha hd hfl
                          have e0 : val 0 = .pointer (some ⟨g1, 0, none⟩) := hd 0 (memB_mem.1 rfl)
                          have ha := ha.sub (Sub.ins (d := 338) (Sub.nil _) (dep_get rfl e0))
                          exact ss_val ha rfl rfl (ld_47 rfl ((q1.below hb q1.lt).at (j := 0) rfl) ((q1.below hb q1.lt).at (j := 1) rfl)) rfl rfl
                        | 2, _ =>
                          intro val fl w1 a hb ha hd hfl
                          have e1 : val 1 = .agg #[.slice (some ⟨bR, oR, none⟩) rv.reaches.length c, .slice A' rv.shoals.length c'] := hd 1 (memB_mem.1 rfl)
                          have ha := ha.sub (Sub.ins (d := 339) (Sub.nil _) (dep_get rfl e1))
                          refine ss_call ha rfl rfl (cl_24 rfl) (copied_any rv _ _ vs _ B (hr.below ((Below.on hbw hb hbw.size).mono hB)) (Nat.le_trans hB (Below.on hbw hb hbw.size).size) (by omega) (by omega) f3) rfl ?_
                          rintro e w' ⟨⟨v1, u1, vs1, rfl, hcp⟩, hb'⟩
                          exact ⟨_, rfl, hb', fun _ => ⟨_, _, _, rfl, hcp⟩⟩
                        | 3, _ =>
                          intro val fl w1 a hb ha hd hfl
                          have ha := ha.sub (Sub.ins (d := 22) (Sub.nil _) rfl)
                          exact ss_val ha rfl rfl (fa_101_0 rfl) rfl rfl
                        | 4, _ =>
                          intro val fl w1 a hb ha hd hfl
                          have e3 : val 3 = .pointer (some ⟨g12, 0, none⟩) := hd 3 (memB_mem.1 rfl)
                          have ha := ha.sub (Sub.ins (d := 341) (Sub.nil _) (dep_get rfl e3))
                          exact ss_val ha rfl rfl (ld_3 rfl ((q12.below hb q12.lt).at (j := 0) rfl)) rfl rfl
                        | 5, _ =>
                          intro val fl w1 a hb ha hd hfl
                          have ha := ha.sub (Sub.ins (d := 23) (Sub.nil _) rfl)
                          exact ss_val ha rfl rfl (x_move rfl) rfl rfl
                        | 6, _ =>
                          intro val fl w1 a hb ha hd hfl
                          obtain ⟨a2_, b2_, vs2_, e2, q2_⟩ := hd 2 (memB_mem.1 rfl) (hfl 11 (by simp) (memB_mem.1 rfl))
                          have e4 : val 4 = .int .i64 (l.getD i pass0).place := hd 4 (memB_mem.1 rfl)
                          have e5 : val 5 = .int .i64 t := hd 5 (memB_mem.1 rfl)
                          have ha := ha.sub (Sub.ins (d := 343) (Sub.ins (d := 342) (Sub.ins (d := 340) (Sub.nil _) (dep_get rfl e2)) (dep_get rfl e4)) (dep_get rfl e5))
                          refine ss_call ha rfl rfl (cl_32 rfl rfl rfl) (pbed_ok rv _ _ _ _ _ _ w1.heap.size q2_ (Nat.le_refl _) (by omega) (by omega) f3 hok hip (inB_iff.2 (by omega))) rfl ?_
                          rintro e w' ⟨rfl, hb'⟩
                          exact ⟨_, rfl, hb', rfl⟩
                        | 7, _ =>
                          intro val fl w1 a hb ha hd hfl
                          have e6 : val 6 = .tuple #[.agg #[.int .i64 (bedAt rv (l.getD i pass0).place t).lo, .int .i64 (bedAt rv (l.getD i pass0).place t).hi], .int .i64 0] := hd 6 (memB_mem.1 rfl)
                          have ha := ha.sub (Sub.ins (d := 344) (Sub.nil _) (dep_get rfl e6))
                          exact ss_val ha rfl rfl (x_move rfl) rfl rfl
                        | 8, _ =>
                          intro val fl w1 a hb ha hd hfl
                          have e7 : val 7 = .tuple #[.agg #[.int .i64 (bedAt rv (l.getD i pass0).place t).lo, .int .i64 (bedAt rv (l.getD i pass0).place t).hi], .int .i64 0] := hd 7 (memB_mem.1 rfl)
                          have ha := ha.sub (Sub.ins (d := 337) (Sub.nil _) (dep_get rfl e7))
                          exact ss_val ha rfl rfl (x_extract rfl rfl) rfl rfl
                        | 9, _ =>
                          intro val fl w1 a hb ha hd hfl
                          have e7 : val 7 = .tuple #[.agg #[.int .i64 (bedAt rv (l.getD i pass0).place t).lo, .int .i64 (bedAt rv (l.getD i pass0).place t).hi], .int .i64 0] := hd 7 (memB_mem.1 rfl)
                          have ha := ha.sub (Sub.ins (d := 337) (Sub.nil _) (dep_get rfl e7))
                          exact ss_val ha rfl rfl (x_extract rfl rfl) rfl rfl
                        | 10, _ =>
                          intro val fl w1 a hb ha hd hfl
                          have ha := ha.sub (Sub.nil _)
                          exact ss_newP ha rfl rfl al_23 (fun g w' hq _ hge => ⟨g, rfl, Nat.le_trans hb.size hge, fun _ => hq⟩)
                        | 11, _ =>
                          exact absurd (by simp) hs_
                        | k + 12, h => exact absurd h (by omega)
                      · simp only [List.mem_singleton] at hi_; subst hi_
                        intro val fl w1 a hb hfi ha hd hfl
                        obtain ⟨g10_, e10, hg10_, q10_⟩ := hd 10 (memB_mem.1 rfl)
                        change val 10 = _ at e10
                        have e8 : val 8 = .agg #[.int .i64 (bedAt rv (l.getD i pass0).place t).lo, .int .i64 (bedAt rv (l.getD i pass0).place t).hi] := hd 8 (memB_mem.1 rfl)
                        have ha := ha.sub (Sub.ins (d := 345) (Sub.ins (d := 31) (Sub.nil _) (dep_get rfl e10)) (dep_get rfl e8))
                        refine ts_store ha rfl rfl rfl (q10_ hfi) sz_23 rfl rfl rfl rfl ?_
                        intro w' hq hgr
                        refine ⟨undef, rfl, hgr.size, below_store hb hgr hg10_, ⟨g10_, e10, hq⟩, fun j _ hj hn hA => ?_⟩
                        exact phiS_cons_st (C := fun j => j ≠ 11 ∧ 11 ∉ clsAt [[], [0], [0, 1], [], [3], [], [0, 1, 2, 3, 4, 5], [0, 1, 2, 3, 4, 5, 6], [0, 1, 2, 3, 4, 5, 6, 7], [0, 1, 2, 3, 4, 5, 6, 7], [], [0, 1, 2, 3, 4, 5, 6, 7, 8, 10], [0, 1, 2, 3, 4, 5, 6, 7, 8, 9, 10, 11]] j ∧ ∀ p ∈ [10], (p = j ∨ p ∈ clsAt [[], [0], [0, 1], [], [3], [], [0, 1, 2, 3, 4, 5], [0, 1, 2, 3, 4, 5, 6], [0, 1, 2, 3, 4, 5, 6, 7], [0, 1, 2, 3, 4, 5, 6, 7], [], [0, 1, 2, 3, 4, 5, 6, 7, 8, 10], [0, 1, 2, 3, 4, 5, 6, 7, 8, 9, 10, 11]] j) → ∀ q ∈ [10], (q = 11 ∨ q ∈ clsAt [[], [0], [0, 1], [], [3], [], [0, 1, 2, 3, 4, 5], [0, 1, 2, 3, 4, 5, 6], [0, 1, 2, 3, 4, 5, 6, 7], [0, 1, 2, 3, 4, 5, 6, 7], [], [0, 1, 2, 3, 4, 5, 6, 7, 8, 10], [0, 1, 2, 3, 4, 5, 6, 7, 8, 9, 10, 11]] 11) → p ≠ q → val p ≠ val q) (fun _ _ h => by rw [fset_eq] at h; cases h) (phiS_cons_st (C := fun j => j ≠ 11 ∧ 11 ∉ clsAt [[], [0], [0, 1], [], [3], [], [0, 1, 2, 3, 4, 5], [0, 1, 2, 3, 4, 5, 6], [0, 1, 2, 3, 4, 5, 6, 7], [0, 1, 2, 3, 4, 5, 6, 7], [], [0, 1, 2, 3, 4, 5, 6, 7, 8, 10], [0, 1, 2, 3, 4, 5, 6, 7, 8, 9, 10, 11]] j ∧ ∀ p ∈ [10], (p = j ∨ p ∈ clsAt [[], [0], [0, 1], [], [3], [], [0, 1, 2, 3, 4, 5], [0, 1, 2, 3, 4, 5, 6], [0, 1, 2, 3, 4, 5, 6, 7], [0, 1, 2, 3, 4, 5, 6, 7], [], [0, 1, 2, 3, 4, 5, 6, 7, 8, 10], [0, 1, 2, 3, 4, 5, 6, 7, 8, 9, 10, 11]] j) → ∀ q ∈ [10], (q = 11 ∨ q ∈ clsAt [[], [0], [0, 1], [], [3], [], [0, 1, 2, 3, 4, 5], [0, 1, 2, 3, 4, 5, 6], [0, 1, 2, 3, 4, 5, 6, 7], [0, 1, 2, 3, 4, 5, 6, 7], [], [0, 1, 2, 3, 4, 5, 6, 7, 8, 10], [0, 1, 2, 3, 4, 5, 6, 7, 8, 9, 10, 11]] 11) → p ≠ q → val p ≠ val q) (fun _ ⟨g, h1, h2, _⟩ => ⟨g, h1, h2, fun h => by rw [fset_eq] at h; cases h⟩) (phiS_cons_st (C := fun j => j ≠ 11 ∧ 11 ∉ clsAt [[], [0], [0, 1], [], [3], [], [0, 1, 2, 3, 4, 5], [0, 1, 2, 3, 4, 5, 6], [0, 1, 2, 3, 4, 5, 6, 7], [0, 1, 2, 3, 4, 5, 6, 7], [], [0, 1, 2, 3, 4, 5, 6, 7, 8, 10], [0, 1, 2, 3, 4, 5, 6, 7, 8, 9, 10, 11]] j ∧ ∀ p ∈ [10], (p = j ∨ p ∈ clsAt [[], [0], [0, 1], [], [3], [], [0, 1, 2, 3, 4, 5], [0, 1, 2, 3, 4, 5, 6], [0, 1, 2, 3, 4, 5, 6, 7], [0, 1, 2, 3, 4, 5, 6, 7], [], [0, 1, 2, 3, 4, 5, 6, 7, 8, 10], [0, 1, 2, 3, 4, 5, 6, 7, 8, 9, 10, 11]] j) → ∀ q ∈ [10], (q = 11 ∨ q ∈ clsAt [[], [0], [0, 1], [], [3], [], [0, 1, 2, 3, 4, 5], [0, 1, 2, 3, 4, 5, 6], [0, 1, 2, 3, 4, 5, 6, 7], [0, 1, 2, 3, 4, 5, 6, 7], [], [0, 1, 2, 3, 4, 5, 6, 7, 8, 10], [0, 1, 2, 3, 4, 5, 6, 7, 8, 9, 10, 11]] 11) → p ≠ q → val p ≠ val q) (fun hc => absurd rfl hc.1) (fun _ _ h => h))) j ⟨hj, hn, hA⟩
                      · intro val fl wR37 hfl hb halc hd
                        have e0 : val 0 = .pointer (some ⟨g1, 0, none⟩) := hd 0 (by omega)
                        have e1 : val 1 = .agg #[.slice (some ⟨bR, oR, none⟩) rv.reaches.length c, .slice A' rv.shoals.length c'] := hd 1 (by omega)
                        have e3 : val 3 = .pointer (some ⟨g12, 0, none⟩) := hd 3 (by omega)
                        have e4 : val 4 = .int .i64 (l.getD i pass0).place := hd 4 (by omega)
                        have e5 : val 5 = .int .i64 t := hd 5 (by omega)
                        have e6 : val 6 = .tuple #[.agg #[.int .i64 (bedAt rv (l.getD i pass0).place t).lo, .int .i64 (bedAt rv (l.getD i pass0).place t).hi], .int .i64 0] := hd 6 (by omega)
                        have e7 : val 7 = .tuple #[.agg #[.int .i64 (bedAt rv (l.getD i pass0).place t).lo, .int .i64 (bedAt rv (l.getD i pass0).place t).hi], .int .i64 0] := hd 7 (by omega)
                        have e8 : val 8 = .agg #[.int .i64 (bedAt rv (l.getD i pass0).place t).lo, .int .i64 (bedAt rv (l.getD i pass0).place t).hi] := hd 8 (by omega)
                        have e9 : val 9 = .int .i64 0 := hd 9 (by omega)
                        obtain ⟨ga10_37, e10, qa10_37⟩ := hd 11 (by omega)
                        change val 10 = _ at e10
                        refine EL.ends (cs := [.pointer (some ⟨g1, 0, none⟩), .agg #[.slice (some ⟨bR, oR, none⟩) rv.reaches.length c, .slice A' rv.shoals.length c'], val 2, .pointer (some ⟨g12, 0, none⟩), .int .i64 (l.getD i pass0).place, .int .i64 t, .tuple #[.agg #[.int .i64 (bedAt rv (l.getD i pass0).place t).lo, .int .i64 (bedAt rv (l.getD i pass0).place t).hi], .int .i64 0], .tuple #[.agg #[.int .i64 (bedAt rv (l.getD i pass0).place t).lo, .int .i64 (bedAt rv (l.getD i pass0).place t).hi], .int .i64 0], .agg #[.int .i64 (bedAt rv (l.getD i pass0).place t).lo, .int .i64 (bedAt rv (l.getD i pass0).place t).hi], .int .i64 0, .pointer (some ⟨ga10_37, 0, none⟩), val 11]) ⟨e0, e1, rfl, e3, e4, e5, e6, e7, e8, e9, e10, rfl, trivial⟩ rfl ?_
                        replace q1 := q1.below hb q1.lt
                        replace q2 := q2.below hb q2.lt
                        replace qa15_19 := qa15_19.below hb qa15_19.lt
                        replace q12 := q12.below hb q12.lt
                        replace q20 := q20.below hb q20.lt
                        replace qa13_36 := qa13_36.below hb qa13_36.lt
                        have bge23 := alc_ge halc (i := 10) rfl rfl e10
                        have n1_23 : g1 ≠ ga10_37 := Nat.ne_of_lt (Nat.lt_of_lt_of_le lt_1 bge23)
                        have n2_23 : g2 ≠ ga10_37 := Nat.ne_of_lt (Nat.lt_of_lt_of_le lt_2 bge23)
                        have n11_23 : ga15_19 ≠ ga10_37 := Nat.ne_of_lt (Nat.lt_of_lt_of_le lt_11 bge23)
                        have n12_23 : g12 ≠ ga10_37 := Nat.ne_of_lt (Nat.lt_of_lt_of_le lt_12 bge23)
                        have n20_23 : g20 ≠ ga10_37 := Nat.ne_of_lt (Nat.lt_of_lt_of_le lt_20 bge23)
                        have n22_23 : ga13_36 ≠ ga10_37 := Nat.ne_of_lt (Nat.lt_of_lt_of_le lt_22 bge23)
                        have bhbw_23 := Nat.le_trans hbw.size bge23
                        have bbF_23 := Nat.le_trans bF.size bge23
                        have bbC_23 := Nat.le_trans bC.size bge23
                        replace hbw := Below.on hbw hb hbw.size
                        replace bF := Below.on bF hb bF.size
                        replace bC := Below.on bC hb bC.size
                        refine EL.val (x_assign rfl) rfl ?_
                        refine EL.nil ?_
                        refine EX.seq ?_
                        refine EC.seq ?_
                        refine EC.seq ?_
                        refine EC.region ?_
                        refine EL.val (x_move rfl) rfl ?_
                        refine EL.val (x_neq rfl rfl (by first | assumption | exact decide_eq_false (by omega))) rfl ?_
                        refine EL.val (x_move rfl) rfl ?_
                        refine EL.valg rfl rfl (x_move rfl) rfl ?_
                        refine EL.valg rfl rfl (x_neq rfl rfl (by first | assumption | exact decide_eq_false (by omega))) rfl ?_
                        refine EL.val (x_pick_f rfl rfl) rfl ?_
                        refine EL.val (x_move rfl) rfl ?_
                        refine EL.valg rfl rfl (x_move rfl) rfl ?_
                        refine EL.valg rfl rfl (x_neq rfl rfl (by first | assumption | exact decide_eq_false (by omega))) rfl ?_
                        refine EL.val (x_pick_f rfl rfl) rfl ?_
                        refine EL.nil ?_
                        refine EX.seq ?_
                        refine EC.no rfl ?_
                        refine EC.skip ?_
                        refine EX.seq ?_
                        refine EC.seq ?_
                        refine EC.regionQ (by kernel_rfl) (by kernel_rfl) ?_
                        refine EQ.val (fun _ hw => (fa_54_0 rfl)) rfl ?_
                        refine EQ.val (fun _ hw => (fa_47_0 rfl)) rfl ?_
                        refine EQ.val (fun _ hw => (ld_44 rfl (below_load hw (q1.at (j := 0) rfl)))) rfl ?_
                        refine EQ.val (fun _ hw => (x_move rfl)) rfl ?_
                        refine EQ.val (fun _ hw => (ix_44 rfl rfl (by omega))) rfl ?_
                        refine EQ.val (fun _ hw => (fa_50_5 rfl)) rfl ?_
                        refine EQ.val (fun _ hw => (ld_23 rfl (below_load hw (below_load hbw cc.c6)) (below_load hw (below_load hbw cc.c7)))) rfl ?_
                        refine EQ.val (fun _ hw => (fa_40_2 rfl)) rfl ?_
                        refine EQ.val (fun _ hw => (ld_38 rfl (below_load hw (q2.at (j := 2) rfl)))) rfl ?_
                        refine EQ.val (fun _ hw => (x_move rfl)) rfl ?_
                        refine EQ.call (fun _ _ _ ha => cl_22 rfl rfl _ ha) rfl (fun W hw => (part_any es _ k W B (hw3.below ((hbw.trans (hw.mono hbw.size)).mono hB)) (by omega)).mono fun e w' h => ⟨h.1, hw.trans (h.2.mono hw.size)⟩) ?_
                        refine EQ.call (fun _ _ _ ha => cl_21 rfl rfl _ ha) rfl (fun W hw => (pick_any (rv.reaches.getD k reach0).bottom _ W (by omega) (by omega) (by omega) pe).mono fun e w' h => ⟨h.1, hw.trans (h.2.mono hw.size)⟩) ?_
                        refine EQ.val (fun _ hw => (x_mul rfl rfl (IntWalk.i64_in _ ⟨by first | omega | (simp only; omega), by first | omega | (simp only; omega)⟩))) rfl ?_
                        refine EQ.val (fun _ hw => (x_assign rfl)) rfl ?_
                        refine EQ.fin (fun w24 hw_ => ?_)
                        replace q1 := q1.below hw_ q1.lt
                        replace q2 := q2.below hw_ q2.lt
                        replace qa15_19 := qa15_19.below hw_ qa15_19.lt
                        replace q12 := q12.below hw_ q12.lt
                        replace q20 := q20.below hw_ q20.lt
                        replace qa13_36 := qa13_36.below hw_ qa13_36.lt
                        replace qa10_37 := qa10_37.below hw_ qa10_37.lt
                        replace hbw := Below.on hbw hw_ hbw.size
                        replace bF := Below.on bF hw_ bF.size
                        replace bC := Below.on bC hw_ bC.size
                        clear hw_
                        refine EX.seq ?_
                        refine EC.seq ?_
                        refine EC.seq ?_
                        refine EC.region ?_
                        refine EL.val (x_assign rfl) rfl ?_
                        refine EL.nil ?_
                        refine EX.seq ?_
                        refine EC.block ?_
                        refine EC.loopD [33, 34, 35, 370, 371, 372, 373, 374, 375, 376, 377, 378, 379, 380, 381, 382, 383, 384, 385, 386, 387, 388, 389, 390, 391, 392, 393, 394, 395, 396, 397, 398, 399, 400, 401, 402, 403, 404, 405, 406, 407, 408, 409, 410, 411, 412] (fun x : Nat => [(33, .int .i64 (trTop rv es gs (l.getD i pass0).place t x)), (34, .int .i64 (x : Nat))]) (fun x W => x ≤ rv.shoals.length ∧ Blk W g1 54 #[.slice (some ⟨bR, oR, none⟩) rv.reaches.length c, .slice A' rv.shoals.length c', .slice (some ⟨bS, oS, none⟩) sides.length d] ∧ Blk W g2 40 #[.slice Ab bs.length cb, .slice As2 zs.length cs2, .slice Ae es.length ce, .slice Ag gs.length cg, .int .u8 tx] ∧ Blk W ga15_19 23 #[.int .i64 (shUp rv sides l l.length).lo, .int .i64 (shUp rv sides l l.length).hi] ∧ Blk W g12 101 #[.int .i64 (l.getD i pass0).place, .int .i64 (l.getD i pass0).hours.lo, .int .i64 (l.getD i pass0).hours.hi] ∧ Blk W g20 23 #[.int .i64 (levelAt (rv.reaches.getD k reach0) ⟨(trF rv.reaches sides bs zs k t), (trF rv.reaches sides bs zs k t)⟩).lo, .int .i64 (levelAt (rv.reaches.getD k reach0) ⟨(trF rv.reaches sides bs zs k t), (trF rv.reaches sides bs zs k t)⟩).hi] ∧ Blk W ga13_36 23 #[.int .i64 (depthAt rv sides (l.getD i pass0).place t).lo, .int .i64 (depthAt rv sides (l.getD i pass0).place t).hi] ∧ Blk W ga10_37 23 #[.int .i64 (bedAt rv (l.getD i pass0).place t).lo, .int .i64 (bedAt rv (l.getD i pass0).place t).hi] ∧ Below w.heap.size w W ∧ Below wR3.heap.size wR3 W) (fun x => rv.shoals.length - x) 0 ⟨Nat.zero_le _, q1, q2, qa15_19, q12, q20, qa13_36, qa10_37, hbw, bF⟩ ⟨by rw [trTop, hkr]; rfl, rfl, trivial⟩ ?_
                        clear q1 q2 qa15_19 q12 q20 qa13_36 qa10_37 hbw bF
                        rintro q wq ⟨hq, q1, q2, qa15_19, q12, q20, qa13_36, qa10_37, hbw, bF⟩
                        have hts := trTop_sm hS.river hv3 hv4 (p := (l.getD i pass0).place) (h := t) (by omega) hrl hq
                        by_cases hql : q < rv.shoals.length
                        ·
                          obtain ⟨bA', oA', rfl, _, cs⟩ := shoals_cells rv.shoals q hql _ _ _ _ _ hr.shoals
                          have hsk := hS.river.shoal q hql
                          simp only [shoalB, Bool.and_eq_true, bdOk_iff, inB_iff] at hsk
                          have pq1 := part_bd hv3 q
                          have pq2 := part_bd hv4 q
                          have pk1 := pick_bd (b := (rv.shoals.getD q shoal0).bed) hsk.2.1.2.1 pq1.1 pq1.2
                          have pk2 := pick_bd (b := (rv.shoals.getD q shoal0).grow) hsk.2.2.2.2.1 pq2.1 pq2.2
                          obtain ⟨mm, emm⟩ : ∃ m, m = max 0 (t - (rv.shoals.getD q shoal0).sounded) := ⟨_, rfl⟩
                          have mm1 : pickI (rv.shoals.getD q shoal0).grow (partI gs q) * mm ≤ 500 * mm := Int.mul_le_mul_of_nonneg_right (by omega) (by omega)
                          have mm2 : -500 * mm ≤ pickI (rv.shoals.getD q shoal0).grow (partI gs q) * mm := Int.mul_le_mul_of_nonneg_right (by omega) (by omega)
                          refine EC.seq ?_
                          refine EC.seq ?_
                          refine EC.region ?_
                          refine EL.val (x_move rfl) rfl ?_
                          refine EL.val (fa_54_0 rfl) rfl ?_
                          refine EL.val (fa_47_1 rfl) rfl ?_
                          refine EL.val (ld_45 rfl (q1.at (j := 1) rfl)) rfl ?_
                          refine EL.val (ln_45 rfl) rfl ?_
                          refine EL.val (x_lss rfl rfl (by first | assumption | exact decide_eq_true (by omega))) rfl ?_
                          refine EL.nil ?_
                          refine EX.seq ?_
                          refine EC.yes rfl ?_
                          refine EC.skip ?_
                          refine EX.seq ?_
                          refine EC.seq ?_
                          refine EC.block ?_
                          refine EC.seq ?_
                          refine EC.region ?_
                          refine EL.val (fa_54_0 rfl) rfl ?_
                          refine EL.val (fa_47_1 rfl) rfl ?_
                          refine EL.val (ld_45 rfl (q1.at (j := 1) rfl)) rfl ?_
                          refine EL.val (x_move rfl) rfl ?_
                          refine EL.val (ix_45 rfl rfl hql) rfl ?_
                          refine EL.val (ld_97 rfl (below_load hbw cs.c0) (below_load hbw cs.c1) (below_load hbw cs.c2) (below_load hbw cs.c3) (below_load hbw cs.c4) (below_load hbw cs.c5)) rfl ?_
                          refine EL.newP al_97 rfl ?_
                          intro g25 w25 q25 hb25 hg25 hl25
                          have n1_25 : g1 ≠ g25 := Nat.ne_of_lt (Nat.lt_of_lt_of_le q1.lt hg25)
                          have n2_25 : g2 ≠ g25 := Nat.ne_of_lt (Nat.lt_of_lt_of_le q2.lt hg25)
                          have n11_25 : ga15_19 ≠ g25 := Nat.ne_of_lt (Nat.lt_of_lt_of_le qa15_19.lt hg25)
                          have n12_25 : g12 ≠ g25 := Nat.ne_of_lt (Nat.lt_of_lt_of_le q12.lt hg25)
                          have n20_25 : g20 ≠ g25 := Nat.ne_of_lt (Nat.lt_of_lt_of_le q20.lt hg25)
                          have n22_25 : ga13_36 ≠ g25 := Nat.ne_of_lt (Nat.lt_of_lt_of_le qa13_36.lt hg25)
                          have n23_25 : ga10_37 ≠ g25 := Nat.ne_of_lt (Nat.lt_of_lt_of_le qa10_37.lt hg25)
                          have bhbw_25 := Nat.le_trans hbw.size hg25
                          have bbF_25 := Nat.le_trans bF.size hg25
                          replace q1 := q1.below hb25 q1.lt
                          replace q2 := q2.below hb25 q2.lt
                          replace qa15_19 := qa15_19.below hb25 qa15_19.lt
                          replace q12 := q12.below hb25 q12.lt
                          replace q20 := q20.below hb25 q20.lt
                          replace qa13_36 := qa13_36.below hb25 qa13_36.lt
                          replace qa10_37 := qa10_37.below hb25 qa10_37.lt
                          replace hbw := Below.on hbw hb25 hbw.size
                          replace bF := Below.on bF hb25 bF.size
                          clear hb25 hg25 hl25
                          refine EL.store rfl rfl q25 sz_97 rfl rfl rfl rfl ?_
                          intro w26 hq26 hg26
                          replace q1 := q1.grown hg26 (fun h => n1_25 (Option.some.inj h))
                          replace q2 := q2.grown hg26 (fun h => n2_25 (Option.some.inj h))
                          replace qa15_19 := qa15_19.grown hg26 (fun h => n11_25 (Option.some.inj h))
                          replace q12 := q12.grown hg26 (fun h => n12_25 (Option.some.inj h))
                          replace q20 := q20.grown hg26 (fun h => n20_25 (Option.some.inj h))
                          replace qa13_36 := qa13_36.grown hg26 (fun h => n22_25 (Option.some.inj h))
                          replace qa10_37 := qa10_37.grown hg26 (fun h => n23_25 (Option.some.inj h))
                          replace hbw := below_store hbw hg26 bhbw_25
                          replace bF := below_store bF hg26 bbF_25
                          replace q25 := hq26
                          clear hg26 hq26
                          refine EL.nil ?_
                          refine EX.seq ?_
                          refine EC.seq ?_
                          refine EC.region ?_
                          refine EL.val (fa_97_0 rfl) rfl ?_
                          refine EL.val (ld_3 rfl (q25.at (j := 0) rfl)) rfl ?_
                          refine EL.val (fa_101_0 rfl) rfl ?_
                          refine EL.val (ld_3 rfl (q12.at (j := 0) rfl)) rfl ?_
                          by_cases hpl : (rv.shoals.getD q shoal0).place = (l.getD i pass0).place
                          ·
                            have hT1 : (trTop rv es gs (l.getD i pass0).place t (q + 1)) = max (trTop rv es gs (l.getD i pass0).place t q) (24 * pickI (rv.shoals.getD q shoal0).bed (partI es q) + pickI (rv.shoals.getD q shoal0).grow (partI gs q) * mm) := by rw [trTop, if_pos hpl, trShoal, ← emm]
                            refine EL.val (x_eql rfl rfl (by first | assumption | exact decide_eq_true (by omega))) rfl ?_
                            refine EL.nil ?_
                            refine EX.seq ?_
                            refine EC.yes rfl ?_
                            refine EC.regionQ (by kernel_rfl) (by kernel_rfl) ?_
                            refine EQ.val (fun _ hw => (x_move rfl)) rfl ?_
                            refine EQ.val (fun _ hw => (fa_97_1 rfl)) rfl ?_
                            refine EQ.val (fun _ hw => (ld_23 rfl (below_load hw (q25.at (j := 1) rfl)) (below_load hw (q25.at (j := 2) rfl)))) rfl ?_
                            refine EQ.val (fun _ hw => (fa_40_2 rfl)) rfl ?_
                            refine EQ.val (fun _ hw => (ld_38 rfl (below_load hw (q2.at (j := 2) rfl)))) rfl ?_
                            refine EQ.val (fun _ hw => (x_move rfl)) rfl ?_
                            refine EQ.call (fun _ _ _ ha => cl_22 rfl rfl _ ha) rfl (fun W hw => (part_any es _ q W B (hw3.below ((hbw.trans (hw.mono hbw.size)).mono hB)) (by omega)).mono fun e w' h => ⟨h.1, hw.trans (h.2.mono hw.size)⟩) ?_
                            refine EQ.call (fun _ _ _ ha => cl_21 rfl rfl _ ha) rfl (fun W hw => (pick_any (rv.shoals.getD q shoal0).bed _ W (by omega) (by omega) (by omega) pq1).mono fun e w' h => ⟨h.1, hw.trans (h.2.mono hw.size)⟩) ?_
                            refine EQ.val (fun _ hw => (x_mul rfl rfl (IntWalk.i64_in _ ⟨by first | omega | (simp only; omega), by first | omega | (simp only; omega)⟩))) rfl ?_
                            refine EQ.val (fun _ hw => (fa_97_3 rfl)) rfl ?_
                            refine EQ.val (fun _ hw => (ld_23 rfl (below_load hw (q25.at (j := 4) rfl)) (below_load hw (q25.at (j := 5) rfl)))) rfl ?_
                            refine EQ.val (fun _ hw => (fa_40_3 rfl)) rfl ?_
                            refine EQ.val (fun _ hw => (ld_38 rfl (below_load hw (q2.at (j := 3) rfl)))) rfl ?_
                            refine EQ.val (fun _ hw => (x_move rfl)) rfl ?_
                            refine EQ.call (fun _ _ _ ha => cl_22 rfl rfl _ ha) rfl (fun W hw => (part_any gs _ q W B (hw4.below ((hbw.trans (hw.mono hbw.size)).mono hB)) (by omega)).mono fun e w' h => ⟨h.1, hw.trans (h.2.mono hw.size)⟩) ?_
                            refine EQ.call (fun _ _ _ ha => cl_21 rfl rfl _ ha) rfl (fun W hw => (pick_any (rv.shoals.getD q shoal0).grow _ W (by omega) (by omega) (by omega) pq2).mono fun e w' h => ⟨h.1, hw.trans (h.2.mono hw.size)⟩) ?_
                            refine EQ.val (fun _ hw => (x_move rfl)) rfl ?_
                            refine EQ.val (fun _ hw => (fa_97_2 rfl)) rfl ?_
                            refine EQ.val (fun _ hw => (ld_3 rfl (below_load hw (q25.at (j := 3) rfl)))) rfl ?_
                            refine EQ.val (fun _ hw => (x_sub rfl rfl (IntWalk.i64_in _ ⟨by first | omega | (simp only; omega), by first | omega | (simp only; omega)⟩))) rfl ?_
                            refine EQ.val (fun _ hw => (mm_max rfl rfl emm.symm)) rfl ?_
                            refine EQ.val (fun _ hw => (x_mul rfl rfl (IntWalk.i64_in _ ⟨by first | omega | (simp only; omega), by first | omega | (simp only; omega)⟩))) rfl ?_
                            refine EQ.val (fun _ hw => (x_add rfl rfl (IntWalk.i64_in _ ⟨by first | omega | (simp only; omega), by first | omega | (simp only; omega)⟩))) rfl ?_
                            refine EQ.val (fun _ hw => (mm_max rfl rfl rfl)) rfl ?_
                            refine EQ.val (fun _ hw => (x_assign rfl)) rfl ?_
                            refine EQ.fin (fun w27 hw_ => ?_)
                            replace q1 := q1.below hw_ q1.lt
                            replace q2 := q2.below hw_ q2.lt
                            replace qa15_19 := qa15_19.below hw_ qa15_19.lt
                            replace q12 := q12.below hw_ q12.lt
                            replace q20 := q20.below hw_ q20.lt
                            replace qa13_36 := qa13_36.below hw_ qa13_36.lt
                            replace qa10_37 := qa10_37.below hw_ qa10_37.lt
                            replace q25 := q25.below hw_ q25.lt
                            replace hbw := Below.on hbw hw_ hbw.size
                            replace bF := Below.on bF hw_ bF.size
                            clear hw_
                            refine EX.blk ?_
                            refine EX.seq ?_
                            refine EC.region ?_
                            refine EL.val (x_move rfl) rfl ?_
                            refine EL.val (x_add rfl rfl (by first | assumption | exact IntWalk.i64_in _ ⟨by omega, by omega⟩)) rfl ?_
                            refine EL.val (x_assign rfl) rfl ?_
                            refine EL.nil ?_
                            refine EX.roundD (q + 1) ⟨agree_of hT1.symm rfl, rfl, trivial⟩ (by repeat first | with_reducible exact Sub.refl _ | refine sub_past rfl ?_ | exact Sub.refl _ | refine sub_del rfl ?_ | refine sub_insL_nil ?_) ⟨hql, q1, q2, qa15_19, q12, q20, qa13_36, qa10_37, hbw, bF⟩ (by omega)
                          ·
                            have hT1 : (trTop rv es gs (l.getD i pass0).place t (q + 1)) = (trTop rv es gs (l.getD i pass0).place t q) := by rw [trTop, if_neg hpl]
                            refine EL.val (x_eql rfl rfl (by first | assumption | exact decide_eq_false (by omega))) rfl ?_
                            refine EL.nil ?_
                            refine EX.seq ?_
                            refine EC.no rfl ?_
                            refine EC.skip ?_
                            refine EX.blk ?_
                            refine EX.seq ?_
                            refine EC.region ?_
                            refine EL.val (x_move rfl) rfl ?_
                            refine EL.val (x_add rfl rfl (by first | assumption | exact IntWalk.i64_in _ ⟨by omega, by omega⟩)) rfl ?_
                            refine EL.val (x_assign rfl) rfl ?_
                            refine EL.nil ?_
                            refine EX.roundD (q + 1) ⟨agree_of hT1.symm rfl, rfl, trivial⟩ (by repeat first | with_reducible exact Sub.refl _ | refine sub_past rfl ?_ | exact Sub.refl _ | refine sub_del rfl ?_ | refine sub_insL_nil ?_) ⟨hql, q1, q2, qa15_19, q12, q20, qa13_36, qa10_37, hbw, bF⟩ (by omega)
                        ·
                          obtain rfl : q = rv.shoals.length := by omega
                          refine EC.seq ?_
                          refine EC.seq ?_
                          refine EC.region ?_
                          refine EL.val (x_move rfl) rfl ?_
                          refine EL.val (fa_54_0 rfl) rfl ?_
                          refine EL.val (fa_47_1 rfl) rfl ?_
                          refine EL.val (ld_45 rfl (q1.at (j := 1) rfl)) rfl ?_
                          refine EL.val (ln_45 rfl) rfl ?_
                          refine EL.val (x_lss rfl rfl (by first | assumption | exact decide_eq_false (by omega))) rfl ?_
                          refine EL.nil ?_
                          refine EX.seq ?_
                          refine EC.no rfl ?_
                          refine EC.exit ?_
                          refine EX.seq_exit ?_
                          refine EX.seq_exit ?_
                          refine EX.blk_here ?_
                          refine EX.seq ?_
                          refine EC.seq ?_
                          refine EC.seq ?_
                          refine EC.region ?_
                          refine EL.val (x_move rfl) rfl ?_
                          refine EL.val (fa_23_0 rfl) rfl ?_
                          refine EL.val (ld_3 rfl (qa10_37.at (j := 0) rfl)) rfl ?_
                          refine EL.val (x_mul rfl rfl (IntWalk.i64_in _ ⟨by first | omega | (simp only; omega), by first | omega | (simp only; omega)⟩)) rfl ?_
                          refine EL.val (x_lss rfl rfl (by first | assumption | exact decide_eq_false (by omega))) rfl ?_
                          refine EL.val (x_move rfl) rfl ?_
                          refine EL.valg rfl rfl (x_move rfl) rfl ?_
                          refine EL.valg rfl rfl (fa_23_1 rfl) rfl ?_
                          refine EL.valg rfl rfl (ld_3 rfl (qa10_37.at (j := 1) rfl)) rfl ?_
                          refine EL.valg rfl rfl (x_mul rfl rfl (IntWalk.i64_in _ ⟨by first | omega | (simp only; omega), by first | omega | (simp only; omega)⟩)) rfl ?_
                          refine EL.valg rfl rfl (x_gtr rfl rfl (by first | assumption | exact decide_eq_false (by omega))) rfl ?_
                          refine EL.val (x_pick_f rfl rfl) rfl ?_
                          refine EL.val (x_move rfl) rfl ?_
                          refine EL.valg rfl rfl (fa_23_0 rfl) rfl ?_
                          refine EL.valg rfl rfl (ld_3 rfl (qa13_36.at (j := 0) rfl)) rfl ?_
                          refine EL.valg rfl rfl (x_mul rfl rfl (IntWalk.i64_in _ ⟨by first | omega | (simp only; omega), by first | omega | (simp only; omega)⟩)) rfl ?_
                          refine EL.valg rfl rfl (fa_23_1 rfl) rfl ?_
                          refine EL.valg rfl rfl (ld_3 rfl (q20.at (j := 1) rfl)) rfl ?_
                          refine EL.valg rfl rfl (x_mul rfl rfl (IntWalk.i64_in _ ⟨by first | omega | (simp only; omega), by first | omega | (simp only; omega)⟩)) rfl ?_
                          refine EL.valg rfl rfl (x_move rfl) rfl ?_
                          refine EL.valg rfl rfl (x_sub rfl rfl (IntWalk.i64_in _ ⟨by first | omega | (simp only; omega), by first | omega | (simp only; omega)⟩)) rfl ?_
                          refine EL.valg rfl rfl (mm_max rfl rfl rfl) rfl ?_
                          refine EL.valg rfl rfl (x_gtr rfl rfl (by first | assumption | exact decide_eq_false (by omega))) rfl ?_
                          refine EL.val (x_pick_f rfl rfl) rfl ?_
                          refine EL.val (x_move rfl) rfl ?_
                          refine EL.valg rfl rfl (fa_23_1 rfl) rfl ?_
                          refine EL.valg rfl rfl (ld_3 rfl (qa13_36.at (j := 1) rfl)) rfl ?_
                          refine EL.valg rfl rfl (x_mul rfl rfl (IntWalk.i64_in _ ⟨by first | omega | (simp only; omega), by first | omega | (simp only; omega)⟩)) rfl ?_
                          refine EL.valg rfl rfl (fa_23_0 rfl) rfl ?_
                          refine EL.valg rfl rfl (ld_3 rfl (q20.at (j := 0) rfl)) rfl ?_
                          refine EL.valg rfl rfl (x_mul rfl rfl (IntWalk.i64_in _ ⟨by first | omega | (simp only; omega), by first | omega | (simp only; omega)⟩)) rfl ?_
                          refine EL.valg rfl rfl (x_move rfl) rfl ?_
                          refine EL.valg rfl rfl (x_sub rfl rfl (IntWalk.i64_in _ ⟨by first | omega | (simp only; omega), by first | omega | (simp only; omega)⟩)) rfl ?_
                          refine EL.valg rfl rfl (x_lss rfl rfl (by first | assumption | exact decide_eq_false (by omega))) rfl ?_
                          refine EL.val (x_pick_f rfl rfl) rfl ?_
                          refine EL.val (x_move rfl) rfl ?_
                          refine EL.valg rfl rfl (fa_23_0 rfl) rfl ?_
                          refine EL.valg rfl rfl (ld_3 rfl (qa13_36.at (j := 0) rfl)) rfl ?_
                          refine EL.valg rfl rfl (fa_23_1 rfl) rfl ?_
                          refine EL.valg rfl rfl (ld_3 rfl (qa13_36.at (j := 1) rfl)) rfl ?_
                          refine EL.valg rfl rfl (x_gtr rfl rfl (by first | assumption | exact decide_eq_false (by omega))) rfl ?_
                          refine EL.val (x_pick_f rfl rfl) rfl ?_
                          refine EL.nil ?_
                          refine EX.seq ?_
                          refine EC.no rfl ?_
                          refine EC.skip ?_
                          refine EX.seq ?_
                          refine EC.cutD [19, 36, 455, 456, 457, 458, 459, 460, 461, 462, 463, 464, 465, 466, 467, 468] (fun _ : Unit => [(19, .int .i64 (mnF (upF rv sides bs zs es gs l) (i + 1)))]) (fun _ W => Blk W g1 54 #[.slice (some ⟨bR, oR, none⟩) rv.reaches.length c, .slice A' rv.shoals.length c', .slice (some ⟨bS, oS, none⟩) sides.length d] ∧ Blk W g2 40 #[.slice Ab bs.length cb, .slice As2 zs.length cs2, .slice Ae es.length ce, .slice Ag gs.length cg, .int .u8 tx] ∧ Blk W ga15_19 23 #[.int .i64 (shUp rv sides l l.length).lo, .int .i64 (shUp rv sides l l.length).hi] ∧ Blk W g12 101 #[.int .i64 (l.getD i pass0).place, .int .i64 (l.getD i pass0).hours.lo, .int .i64 (l.getD i pass0).hours.hi] ∧ Blk W g20 23 #[.int .i64 (levelAt (rv.reaches.getD k reach0) ⟨(trF rv.reaches sides bs zs k t), (trF rv.reaches sides bs zs k t)⟩).lo, .int .i64 (levelAt (rv.reaches.getD k reach0) ⟨(trF rv.reaches sides bs zs k t), (trF rv.reaches sides bs zs k t)⟩).hi] ∧ Blk W ga13_36 23 #[.int .i64 (depthAt rv sides (l.getD i pass0).place t).lo, .int .i64 (depthAt rv sides (l.getD i pass0).place t).hi] ∧ Blk W ga10_37 23 #[.int .i64 (bedAt rv (l.getD i pass0).place t).lo, .int .i64 (bedAt rv (l.getD i pass0).place t).hi] ∧ Below w.heap.size w W ∧ Below wR3.heap.size wR3 W) ?_ ?_
                          ·
                            refine EC.seq ?_
                            refine EC.region ?_
                            refine EL.val (fa_23_1 rfl) rfl ?_
                            refine EL.val (ld_3 rfl (q20.at (j := 1) rfl)) rfl ?_
                            refine EL.val (x_mul rfl rfl (IntWalk.i64_in _ ⟨by first | omega | (simp only; omega), by first | omega | (simp only; omega)⟩)) rfl ?_
                            refine EL.val (x_move rfl) rfl ?_
                            refine EL.val (x_sub rfl rfl (IntWalk.i64_in _ ⟨by first | omega | (simp only; omega), by first | omega | (simp only; omega)⟩)) rfl ?_
                            refine EL.val (mm_max rfl rfl rfl) rfl ?_
                            refine EL.val (x_assign rfl) rfl ?_
                            refine EL.nil ?_
                            refine EX.seq ?_
                            refine EC.seq ?_
                            refine EC.region ?_
                            refine EL.val (x_move rfl) rfl ?_
                            have hVU : (upF rv sides bs zs es gs l) i = max 0 (24 * (levelAt (rv.reaches.getD k reach0) ⟨(trF rv.reaches sides bs zs k t), (trF rv.reaches sides bs zs k t)⟩).hi - trTop rv es gs (l.getD i pass0).place t rv.shoals.length) := by rw [et, ← hkr]; rfl
                            by_cases hltU : (mnF (upF rv sides bs zs es gs l) i) < 0
                            ·
                              have hmU : mnF (upF rv sides bs zs es gs l) (i + 1) = max 0 (24 * (levelAt (rv.reaches.getD k reach0) ⟨(trF rv.reaches sides bs zs k t), (trF rv.reaches sides bs zs k t)⟩).hi - trTop rv es gs (l.getD i pass0).place t rv.shoals.length) := by rw [mnF, if_pos (.inl hltU), hVU]
                              refine EL.val (x_lss rfl rfl (by first | assumption | exact decide_eq_true (by omega))) rfl ?_
                              refine EL.val (x_move rfl) rfl ?_
                              refine EL.skip rfl rfl rfl rfl ?_
                              refine EL.skip rfl rfl rfl rfl ?_
                              refine EL.skip rfl rfl rfl rfl ?_
                              refine EL.val (x_pick_t rfl rfl) rfl ?_
                              refine EL.nil ?_
                              refine EX.seq ?_
                              refine EC.yes rfl ?_
                              refine EC.region ?_
                              refine EL.val (x_move rfl) rfl ?_
                              refine EL.val (x_assign rfl) rfl ?_
                              refine EL.nil ?_
                              refine EX.cutE () ⟨agree_of hmU.symm rfl, trivial⟩ (by repeat first | with_reducible exact (Sub.refl _).del _ | refine sub_past rfl ?_ | exact (Sub.refl _).del _ | refine sub_del rfl ?_ | refine sub_insL_nil ?_) ⟨q1, q2, qa15_19, q12, q20, qa13_36, qa10_37, hbw, bF⟩
                            ·
                              refine EL.val (x_lss rfl rfl (by first | assumption | exact decide_eq_false (by omega))) rfl ?_
                              refine EL.val (x_move rfl) rfl ?_
                              refine EL.valg rfl rfl (x_move rfl) rfl ?_
                              refine EL.valg rfl rfl (x_move rfl) rfl ?_
                              by_cases hleU : max 0 (24 * (levelAt (rv.reaches.getD k reach0) ⟨(trF rv.reaches sides bs zs k t), (trF rv.reaches sides bs zs k t)⟩).hi - trTop rv es gs (l.getD i pass0).place t rv.shoals.length) < (mnF (upF rv sides bs zs es gs l) i)
                              ·
                                have hmU : mnF (upF rv sides bs zs es gs l) (i + 1) = max 0 (24 * (levelAt (rv.reaches.getD k reach0) ⟨(trF rv.reaches sides bs zs k t), (trF rv.reaches sides bs zs k t)⟩).hi - trTop rv es gs (l.getD i pass0).place t rv.shoals.length) := by rw [mnF, if_pos (.inr (by rw [hVU]; exact hleU)), hVU]
                                refine EL.valg rfl rfl (x_lss rfl rfl (by first | assumption | exact decide_eq_true (by omega))) rfl ?_
                                refine EL.val (x_pick_f rfl rfl) rfl ?_
                                refine EL.nil ?_
                                refine EX.seq ?_
                                refine EC.yes rfl ?_
                                refine EC.region ?_
                                refine EL.val (x_move rfl) rfl ?_
                                refine EL.val (x_assign rfl) rfl ?_
                                refine EL.nil ?_
                                refine EX.cutE () ⟨agree_of hmU.symm rfl, trivial⟩ (by repeat first | with_reducible exact (Sub.refl _).del _ | refine sub_past rfl ?_ | exact (Sub.refl _).del _ | refine sub_del rfl ?_ | refine sub_insL_nil ?_) ⟨q1, q2, qa15_19, q12, q20, qa13_36, qa10_37, hbw, bF⟩
                              ·
                                have hmU : mnF (upF rv sides bs zs es gs l) (i + 1) = (mnF (upF rv sides bs zs es gs l) i) := by rw [mnF, if_neg (fun h => h.elim hltU (by rw [hVU]; exact hleU))]
                                refine EL.valg rfl rfl (x_lss rfl rfl (by first | assumption | exact decide_eq_false (by omega))) rfl ?_
                                refine EL.val (x_pick_f rfl rfl) rfl ?_
                                refine EL.nil ?_
                                refine EX.seq ?_
                                refine EC.no rfl ?_
                                refine EC.skip ?_
                                refine EX.cutE () ⟨agree_of hmU.symm rfl, trivial⟩ (by repeat first | with_reducible exact (Sub.refl _).del _ | refine sub_past rfl ?_ | exact (Sub.refl _).del _ | refine sub_del rfl ?_ | refine sub_insL_nil ?_) ⟨q1, q2, qa15_19, q12, q20, qa13_36, qa10_37, hbw, bF⟩
                          ·
                            clear q1 q2 qa15_19 q12 q20 qa13_36 qa10_37 hbw bF
                            rintro _ wc9 ⟨q1, q2, qa15_19, q12, q20, qa13_36, qa10_37, hbw, bF⟩
                            refine EC.seq ?_
                            refine EC.region ?_
                            refine EL.val (fa_23_0 rfl) rfl ?_
                            refine EL.val (ld_3 rfl (q20.at (j := 0) rfl)) rfl ?_
                            refine EL.val (x_mul rfl rfl (IntWalk.i64_in _ ⟨by first | omega | (simp only; omega), by first | omega | (simp only; omega)⟩)) rfl ?_
                            refine EL.val (x_move rfl) rfl ?_
                            refine EL.val (x_sub rfl rfl (IntWalk.i64_in _ ⟨by first | omega | (simp only; omega), by first | omega | (simp only; omega)⟩)) rfl ?_
                            refine EL.val (mm_max rfl rfl rfl) rfl ?_
                            refine EL.val (x_assign rfl) rfl ?_
                            refine EL.nil ?_
                            refine EX.seq ?_
                            refine EC.seq ?_
                            refine EC.region ?_
                            refine EL.val (x_move rfl) rfl ?_
                            have hVV : (loF rv sides bs zs es gs l) i = max 0 (24 * (levelAt (rv.reaches.getD k reach0) ⟨(trF rv.reaches sides bs zs k t), (trF rv.reaches sides bs zs k t)⟩).lo - trTop rv es gs (l.getD i pass0).place t rv.shoals.length) := by rw [et, ← hkr]; rfl
                            by_cases hltV : (mnF (loF rv sides bs zs es gs l) i) < 0
                            ·
                              have hmV : mnF (loF rv sides bs zs es gs l) (i + 1) = max 0 (24 * (levelAt (rv.reaches.getD k reach0) ⟨(trF rv.reaches sides bs zs k t), (trF rv.reaches sides bs zs k t)⟩).lo - trTop rv es gs (l.getD i pass0).place t rv.shoals.length) := by rw [mnF, if_pos (.inl hltV), hVV]
                              refine EL.val (x_lss rfl rfl (by first | assumption | exact decide_eq_true (by omega))) rfl ?_
                              refine EL.val (x_move rfl) rfl ?_
                              refine EL.skip rfl rfl rfl rfl ?_
                              refine EL.skip rfl rfl rfl rfl ?_
                              refine EL.skip rfl rfl rfl rfl ?_
                              refine EL.val (x_pick_t rfl rfl) rfl ?_
                              refine EL.nil ?_
                              refine EX.seq ?_
                              refine EC.yes rfl ?_
                              refine EC.region ?_
                              refine EL.val (x_move rfl) rfl ?_
                              refine EL.val (x_assign rfl) rfl ?_
                              refine EL.nil ?_
                              refine EX.blk ?_
                              refine EX.seq ?_
                              refine EC.region ?_
                              refine EL.val (x_move rfl) rfl ?_
                              refine EL.val (x_add rfl rfl (by first | assumption | exact IntWalk.i64_in _ ⟨by omega, by omega⟩)) rfl ?_
                              refine EL.val (x_assign rfl) rfl ?_
                              refine EL.nil ?_
                              refine EX.roundD (i + 1) ⟨rfl, agree_of hmV.symm rfl, rfl, trivial⟩ (by repeat first | with_reducible exact Sub.refl _ | refine sub_past rfl ?_ | exact Sub.refl _ | refine sub_del rfl ?_ | refine sub_insL_nil ?_) ⟨hlt, q1, q2, qa15_19, hbw, bF⟩ (by omega)
                            ·
                              refine EL.val (x_lss rfl rfl (by first | assumption | exact decide_eq_false (by omega))) rfl ?_
                              refine EL.val (x_move rfl) rfl ?_
                              refine EL.valg rfl rfl (x_move rfl) rfl ?_
                              refine EL.valg rfl rfl (x_move rfl) rfl ?_
                              by_cases hleV : max 0 (24 * (levelAt (rv.reaches.getD k reach0) ⟨(trF rv.reaches sides bs zs k t), (trF rv.reaches sides bs zs k t)⟩).lo - trTop rv es gs (l.getD i pass0).place t rv.shoals.length) < (mnF (loF rv sides bs zs es gs l) i)
                              ·
                                have hmV : mnF (loF rv sides bs zs es gs l) (i + 1) = max 0 (24 * (levelAt (rv.reaches.getD k reach0) ⟨(trF rv.reaches sides bs zs k t), (trF rv.reaches sides bs zs k t)⟩).lo - trTop rv es gs (l.getD i pass0).place t rv.shoals.length) := by rw [mnF, if_pos (.inr (by rw [hVV]; exact hleV)), hVV]
                                refine EL.valg rfl rfl (x_lss rfl rfl (by first | assumption | exact decide_eq_true (by omega))) rfl ?_
                                refine EL.val (x_pick_f rfl rfl) rfl ?_
                                refine EL.nil ?_
                                refine EX.seq ?_
                                refine EC.yes rfl ?_
                                refine EC.region ?_
                                refine EL.val (x_move rfl) rfl ?_
                                refine EL.val (x_assign rfl) rfl ?_
                                refine EL.nil ?_
                                refine EX.blk ?_
                                refine EX.seq ?_
                                refine EC.region ?_
                                refine EL.val (x_move rfl) rfl ?_
                                refine EL.val (x_add rfl rfl (by first | assumption | exact IntWalk.i64_in _ ⟨by omega, by omega⟩)) rfl ?_
                                refine EL.val (x_assign rfl) rfl ?_
                                refine EL.nil ?_
                                refine EX.roundD (i + 1) ⟨rfl, agree_of hmV.symm rfl, rfl, trivial⟩ (by repeat first | with_reducible exact Sub.refl _ | refine sub_past rfl ?_ | exact Sub.refl _ | refine sub_del rfl ?_ | refine sub_insL_nil ?_) ⟨hlt, q1, q2, qa15_19, hbw, bF⟩ (by omega)
                              ·
                                have hmV : mnF (loF rv sides bs zs es gs l) (i + 1) = (mnF (loF rv sides bs zs es gs l) i) := by rw [mnF, if_neg (fun h => h.elim hltV (by rw [hVV]; exact hleV))]
                                refine EL.valg rfl rfl (x_lss rfl rfl (by first | assumption | exact decide_eq_false (by omega))) rfl ?_
                                refine EL.val (x_pick_f rfl rfl) rfl ?_
                                refine EL.nil ?_
                                refine EX.seq ?_
                                refine EC.no rfl ?_
                                refine EC.skip ?_
                                refine EX.blk ?_
                                refine EX.seq ?_
                                refine EC.region ?_
                                refine EL.val (x_move rfl) rfl ?_
                                refine EL.val (x_add rfl rfl (by first | assumption | exact IntWalk.i64_in _ ⟨by omega, by omega⟩)) rfl ?_
                                refine EL.val (x_assign rfl) rfl ?_
                                refine EL.nil ?_
                                refine EX.roundD (i + 1) ⟨rfl, agree_of hmV.symm rfl, rfl, trivial⟩ (by repeat first | with_reducible exact Sub.refl _ | refine sub_past rfl ?_ | exact Sub.refl _ | refine sub_del rfl ?_ | refine sub_insL_nil ?_) ⟨hlt, q1, q2, qa15_19, hbw, bF⟩ (by omega)
                ·
                  obtain rfl : i = l.length := by omega
                  have hfin := truth_way (bs := bs) (zs := zs) (es := es) (gs := gs) hS hway hv1 hv2 hv3 hv4
                  refine EC.seq ?_
                  refine EC.seq ?_
                  refine EC.region ?_
                  refine EL.val (x_move rfl) rfl ?_
                  refine EL.val (x_move rfl) rfl ?_
                  refine EL.val (ln_99 rfl) rfl ?_
                  refine EL.val (x_lss rfl rfl (by first | assumption | exact decide_eq_false (by omega))) rfl ?_
                  refine EL.nil ?_
                  refine EX.seq ?_
                  refine EC.no rfl ?_
                  refine EC.exit ?_
                  refine EX.seq_exit ?_
                  refine EX.seq_exit ?_
                  refine EX.blk_here ?_
                  refine EX.seq ?_
                  refine EC.seq ?_
                  refine EC.region ?_
                  refine EL.val (fa_23_0 rfl) rfl ?_
                  refine EL.val (ld_3 rfl (qa15_19.at (j := 0) rfl)) rfl ?_
                  refine EL.val (x_mul rfl rfl (IntWalk.i64_in _ ⟨by first | omega | (simp only; omega), by first | omega | (simp only; omega)⟩)) rfl ?_
                  refine EL.val (x_move rfl) rfl ?_
                  refine EL.val (x_leq rfl rfl (by first | assumption | exact decide_eq_true (by omega))) rfl ?_
                  refine EL.val (x_move rfl) rfl ?_
                  refine EL.valg rfl rfl (fa_23_1 rfl) rfl ?_
                  refine EL.valg rfl rfl (ld_3 rfl (qa15_19.at (j := 1) rfl)) rfl ?_
                  refine EL.valg rfl rfl (x_mul rfl rfl (IntWalk.i64_in _ ⟨by first | omega | (simp only; omega), by first | omega | (simp only; omega)⟩)) rfl ?_
                  refine EL.valg rfl rfl (x_move rfl) rfl ?_
                  refine EL.valg rfl rfl (x_geq rfl rfl (by first | assumption | exact decide_eq_true (by omega))) rfl ?_
                  refine EL.val (x_pick_t rfl rfl) rfl ?_
                  refine EL.val (x_move rfl) rfl ?_
                  refine EL.callg rfl rfl cl_16 rfl (known_any _) ?_
                  rintro e w28 ⟨rfl, hc28⟩
                  refine ⟨_, rfl, ?_⟩
                  replace q1 := q1.below hc28 q1.lt
                  replace q2 := q2.below hc28 q2.lt
                  replace qa15_19 := qa15_19.below hc28 qa15_19.lt
                  replace hbw := Below.on hbw hc28 hbw.size
                  replace bF := Below.on bF hc28 bF.size
                  clear hc28
                  refine EL.val (x_pick_t rfl rfl) rfl ?_
                  refine EL.val (x_assign rfl) rfl ?_
                  refine EL.nil ?_
                  refine EX.seq ?_
                  refine EC.ret ?_
                  exact EX.done (res1 rfl rfl) ⟨rfl, hbw⟩
            ·
              obtain ⟨hve, hvr⟩ := sha_way (l := l) hst rfl hce
              have hv_1 := congrArg Shal.pass hvr
              have hv_2 := congrArg Shal.hour hvr
              have hv_3 := congrArg Shal.lo hvr
              have hv_4 := congrArg Shal.hi hvr
              simp only at hv_1 hv_2 hv_3 hv_4
              have lt_1 := q1.lt
              have lt_2 := q2.lt
              refine EC.regionS [[], [0], [0, 1], [], [3], [0, 1, 2, 3, 4], [], [], [0, 1, 2, 3, 4, 5, 6, 7], [0, 1, 2, 3, 4, 5, 6, 7, 8], [0, 1, 2, 3, 4, 5, 6, 7, 8, 9], [0, 1, 2, 3, 4, 5, 6, 7, 8, 9, 10], [0, 1, 2, 3, 4, 5, 6, 7, 8, 9, 10], [0, 1, 2, 3, 4, 5, 6, 7, 8, 9, 10], [0, 1, 2, 3, 4, 5, 6, 7, 8, 9, 10], [], [0, 1, 2, 3, 4, 5, 6, 7, 8, 9, 10, 11, 15], [0, 1, 2, 3, 4, 5, 6, 7, 8, 9, 10, 11, 12, 15, 16], [0, 1, 2, 3, 4, 5, 6, 7, 8, 9, 10, 11, 12, 13, 15, 16, 17], [0, 1, 2, 3, 4, 5, 6, 7, 8, 9, 10, 11, 12, 13, 14, 15, 16, 17, 18]] 19 [15] [16] (fun _ w_ => Below wi.heap.size wi w_) (phiS (fun i_ r => match i_ with | 0 => r 0 = .pointer (some ⟨g1, 0, none⟩) | 1 => r 1 = .agg #[.slice (some ⟨bR, oR, none⟩) rv.reaches.length c, .slice A' rv.shoals.length c'] | 3 => r 3 = .pointer (some ⟨g1, 2, none⟩) | 4 => r 4 = .slice (some ⟨bS, oS, none⟩) sides.length d | 7 => r 7 = .slice Aw l.length cw | 9 => r 9 = .tuple #[.agg #[.int .i64 (shaRes rv sides l).lo, .int .i64 (shaRes rv sides l).hi], .int .i64 (shaRes rv sides l).pass, .int .i64 (shaRes rv sides l).hour, .int .i64 (shaErr rv sides l)] | 10 => r 10 = .tuple #[.agg #[.int .i64 (shaRes rv sides l).lo, .int .i64 (shaRes rv sides l).hi], .int .i64 (shaRes rv sides l).pass, .int .i64 (shaRes rv sides l).hour, .int .i64 (shaErr rv sides l)] | 11 => r 11 = .agg #[.int .i64 (shaRes rv sides l).lo, .int .i64 (shaRes rv sides l).hi] | 12 => r 12 = .int .i64 (shaRes rv sides l).pass | 13 => r 13 = .int .i64 (shaRes rv sides l).hour | 14 => r 14 = .int .i64 (shaErr rv sides l) | 17 => r 17 = .int .i64 (shaRes rv sides l).pass | 18 => r 18 = .int .i64 (shaRes rv sides l).hour | _ => True) [(2, fun fl r w_ => fl 16 = false → (∃ a b vs, r 2 = .agg #[a, b] ∧ RdRiver w_ w_.heap.size a b rv vs)), (5, fun fl r w_ => fl 16 = false → (∃ v ss, r 5 = v ∧ RdSides w_ w_.heap.size v sides ss)), (6, fun fl r w_ => fl 16 = false → (∃ g_, r 6 = .slice (some ⟨g_, 0, none⟩) 0 0 ∧ Blk w_ g_ 101 #[] ∧ wi.heap.size ≤ g_)), (8, fun fl r w_ => fl 16 = false → (∃ v, r 8 = v ∧ w_.ownsRow wi.heap.size 101 3 v l.length (passesC l))), (15, fun fl r w_ => ∃ g_, r 15 = .pointer (some ⟨g_, 0, none⟩) ∧ wi.heap.size ≤ g_ ∧ (fl 16 = false → Blk w_ g_ 23 #[.int .i64 0, .int .i64 0])), (16, fun _ r w_ => ∃ g_, r 15 = .pointer (some ⟨g_, 0, none⟩) ∧ Blk w_ g_ 23 #[.int .i64 (shaRes rv sides l).lo, .int .i64 (shaRes rv sides l).hi])]) (by kernel_rfl) rfl rfl (by intro i hi; simp at hi; first | (subst hi; exact ⟨by simp, by omega⟩) | (rcases hi with rfl | rfl | rfl <;> exact ⟨by simp, by omega⟩) | (rcases hi with rfl | rfl <;> exact ⟨by simp, by omega⟩)) (base_below wi) (phiS_cons (monoS_till mono_riv) (phiS_cons (monoS_till mono_sid) (phiS_cons (monoS_till mono_bs) (phiS_cons (monoS_till mono_row) (phiS_cons monoS_alloc (phiS_cons monoS_store (phiS_nil))))))) (fun i_ hi_ hs_ => ?_) (fun i_ hi_ => ?_) ?_
              · match i_, hi_ with
                | 0, _ =>
                  intro val fl w1 a hb ha hd hfl
                  have ha := ha.sub (Sub.ins (d := 3) (Sub.nil _) rfl)
                  exact ss_val ha rfl rfl (fa_54_0 rfl) rfl rfl
                | 1, _ =>
                  intro val fl w1 a hb ha hd hfl
                  have e0 : val 0 = .pointer (some ⟨g1, 0, none⟩) := hd 0 (memB_mem.1 rfl)
                  have ha := ha.sub (Sub.ins (d := 215) (Sub.nil _) (dep_get rfl e0))
                  exact ss_val ha rfl rfl (ld_47 rfl ((q1.below hb q1.lt).at (j := 0) rfl) ((q1.below hb q1.lt).at (j := 1) rfl)) rfl rfl
                | 2, _ =>
                  intro val fl w1 a hb ha hd hfl
                  have e1 : val 1 = .agg #[.slice (some ⟨bR, oR, none⟩) rv.reaches.length c, .slice A' rv.shoals.length c'] := hd 1 (memB_mem.1 rfl)
                  have ha := ha.sub (Sub.ins (d := 216) (Sub.nil _) (dep_get rfl e1))
                  refine ss_call ha rfl rfl (cl_24 rfl) (copied_any rv _ _ vs _ B (hr.below ((Below.on hbw hb hbw.size).mono hB)) (Nat.le_trans hB (Below.on hbw hb hbw.size).size) (by omega) (by omega) f3) rfl ?_
                  rintro e w' ⟨⟨v1, u1, vs1, rfl, hcp⟩, hb'⟩
                  exact ⟨_, rfl, hb', fun _ => ⟨_, _, _, rfl, hcp⟩⟩
                | 3, _ =>
                  intro val fl w1 a hb ha hd hfl
                  have ha := ha.sub (Sub.ins (d := 3) (Sub.nil _) rfl)
                  exact ss_val ha rfl rfl (fa_54_1 rfl) rfl rfl
                | 4, _ =>
                  intro val fl w1 a hb ha hd hfl
                  have e3 : val 3 = .pointer (some ⟨g1, 2, none⟩) := hd 3 (memB_mem.1 rfl)
                  have ha := ha.sub (Sub.ins (d := 218) (Sub.nil _) (dep_get rfl e3))
                  exact ss_val ha rfl rfl (ld_52 rfl ((q1.below hb q1.lt).at (j := 2) rfl)) rfl rfl
                | 5, _ =>
                  intro val fl w1 a hb ha hd hfl
                  have e4 : val 4 = .slice (some ⟨bS, oS, none⟩) sides.length d := hd 4 (memB_mem.1 rfl)
                  have ha := ha.sub (Sub.ins (d := 219) (Sub.nil _) (dep_get rfl e4))
                  refine ss_call ha rfl rfl (cl_34 rfl) (forecast_any sides _ ss _ B (hs.below ((Below.on hbw hb hbw.size).mono hB)) (Nat.le_trans hB (Below.on hbw hb hbw.size).size) (by omega) f4) rfl ?_
                  rintro e w' ⟨⟨v1, ss1, rfl, hcp⟩, hb'⟩
                  exact ⟨_, rfl, hb', fun _ => ⟨_, _, rfl, hcp⟩⟩
                | 6, _ =>
                  intro val fl w1 a hb ha hd hfl
                  have ha := ha.sub (Sub.nil _)
                  exact ss_newS ha rfl rfl (bs_99_0) rfl (fun g w' hq _ hge => fun _ => ⟨g, rfl, hq, Nat.le_trans hb.size hge⟩)
                | 7, _ =>
                  intro val fl w1 a hb ha hd hfl
                  have ha := ha.sub (Sub.ins (d := 2) (Sub.nil _) rfl)
                  exact ss_val ha rfl rfl (x_move rfl) rfl rfl
                | 8, _ =>
                  intro val fl w1 a hb ha hd hfl
                  obtain ⟨g6_, e6, q6_, h6_⟩ := hd 6 (memB_mem.1 rfl) (hfl 16 (by simp) (memB_mem.1 rfl))
                  change val 6 = _ at e6
                  have e7 : val 7 = .slice Aw l.length cw := hd 7 (memB_mem.1 rfl)
                  have ha := ha.sub (Sub.ins (d := 222) (Sub.ins (d := 221) (Sub.nil _) (dep_get rfl e6)) (dep_get rfl e7))
                  exact ss_copy pass_elem2 ha rfl rfl rfl q6_ h6_ (hwy.below ((Below.on hbw hb hbw.size).mono hB)) (passesC_one _) (by omega) rfl hb.size rfl (fun v' w' ho => fun _ => ⟨_, rfl, ho⟩)
                | 9, _ =>
                  intro val fl w1 a hb ha hd hfl
                  obtain ⟨a2_, b2_, vs2_, e2, q2_⟩ := hd 2 (memB_mem.1 rfl) (hfl 16 (by simp) (memB_mem.1 rfl))
                  obtain ⟨v5_, ss5_, e5, q5_⟩ := hd 5 (memB_mem.1 rfl) (hfl 16 (by simp) (memB_mem.1 rfl))
                  obtain ⟨v8_, e8, q8_⟩ := hd 8 (memB_mem.1 rfl) (hfl 16 (by simp) (memB_mem.1 rfl))
                  have ha := ha.sub (Sub.ins (d := 223) (Sub.ins (d := 220) (Sub.ins (d := 217) (Sub.nil _) (dep_get rfl e2)) (dep_get rfl e5)) (dep_get rfl e8))
                  refine ss_call ha rfl rfl (cl_51 rfl rfl rfl) (shallow_any rv sides _ _ _ _ _ l _ _ w1.heap.size q2_ q5_ (Nat.le_refl _) (Rd.of_own q8_) (by omega) (by omega) f3 (by omega) f4) rfl ?_
                  rintro e w' ⟨rfl, hb'⟩
                  exact ⟨_, rfl, hb', rfl⟩
                | 10, _ =>
                  intro val fl w1 a hb ha hd hfl
                  have e9 : val 9 = .tuple #[.agg #[.int .i64 (shaRes rv sides l).lo, .int .i64 (shaRes rv sides l).hi], .int .i64 (shaRes rv sides l).pass, .int .i64 (shaRes rv sides l).hour, .int .i64 (shaErr rv sides l)] := hd 9 (memB_mem.1 rfl)
                  have ha := ha.sub (Sub.ins (d := 224) (Sub.nil _) (dep_get rfl e9))
                  exact ss_val ha rfl rfl (x_move rfl) rfl rfl
                | 11, _ =>
                  intro val fl w1 a hb ha hd hfl
                  have e10 : val 10 = .tuple #[.agg #[.int .i64 (shaRes rv sides l).lo, .int .i64 (shaRes rv sides l).hi], .int .i64 (shaRes rv sides l).pass, .int .i64 (shaRes rv sides l).hour, .int .i64 (shaErr rv sides l)] := hd 10 (memB_mem.1 rfl)
                  have ha := ha.sub (Sub.ins (d := 214) (Sub.nil _) (dep_get rfl e10))
                  exact ss_val ha rfl rfl (x_extract rfl rfl) rfl rfl
                | 12, _ =>
                  intro val fl w1 a hb ha hd hfl
                  have e10 : val 10 = .tuple #[.agg #[.int .i64 (shaRes rv sides l).lo, .int .i64 (shaRes rv sides l).hi], .int .i64 (shaRes rv sides l).pass, .int .i64 (shaRes rv sides l).hour, .int .i64 (shaErr rv sides l)] := hd 10 (memB_mem.1 rfl)
                  have ha := ha.sub (Sub.ins (d := 214) (Sub.nil _) (dep_get rfl e10))
                  exact ss_val ha rfl rfl (x_extract rfl rfl) rfl rfl
                | 13, _ =>
                  intro val fl w1 a hb ha hd hfl
                  have e10 : val 10 = .tuple #[.agg #[.int .i64 (shaRes rv sides l).lo, .int .i64 (shaRes rv sides l).hi], .int .i64 (shaRes rv sides l).pass, .int .i64 (shaRes rv sides l).hour, .int .i64 (shaErr rv sides l)] := hd 10 (memB_mem.1 rfl)
                  have ha := ha.sub (Sub.ins (d := 214) (Sub.nil _) (dep_get rfl e10))
                  exact ss_val ha rfl rfl (x_extract rfl rfl) rfl rfl
                | 14, _ =>
                  intro val fl w1 a hb ha hd hfl
                  have e10 : val 10 = .tuple #[.agg #[.int .i64 (shaRes rv sides l).lo, .int .i64 (shaRes rv sides l).hi], .int .i64 (shaRes rv sides l).pass, .int .i64 (shaRes rv sides l).hour, .int .i64 (shaErr rv sides l)] := hd 10 (memB_mem.1 rfl)
                  have ha := ha.sub (Sub.ins (d := 214) (Sub.nil _) (dep_get rfl e10))
                  exact ss_val ha rfl rfl (x_extract rfl rfl) rfl rfl
                | 15, _ =>
                  intro val fl w1 a hb ha hd hfl
                  have ha := ha.sub (Sub.nil _)
                  exact ss_newP ha rfl rfl al_23 (fun g w' hq _ hge => ⟨g, rfl, Nat.le_trans hb.size hge, fun _ => hq⟩)
                | 16, _ =>
                  exact absurd (by simp) hs_
                | 17, _ =>
                  intro val fl w1 a hb ha hd hfl
                  have e12 : val 12 = .int .i64 (shaRes rv sides l).pass := hd 12 (memB_mem.1 rfl)
                  have ha := ha.sub (Sub.ins (d := 226) (Sub.nil _) (dep_get rfl e12))
                  exact ss_val ha rfl rfl (x_assign rfl) rfl rfl
                | 18, _ =>
                  intro val fl w1 a hb ha hd hfl
                  have e13 : val 13 = .int .i64 (shaRes rv sides l).hour := hd 13 (memB_mem.1 rfl)
                  have ha := ha.sub (Sub.ins (d := 227) (Sub.nil _) (dep_get rfl e13))
                  exact ss_val ha rfl rfl (x_assign rfl) rfl rfl
                | k + 19, h => exact absurd h (by omega)
              · simp only [List.mem_singleton] at hi_; subst hi_
                intro val fl w1 a hb hfi ha hd hfl
                obtain ⟨g15_, e15, hg15_, q15_⟩ := hd 15 (memB_mem.1 rfl)
                change val 15 = _ at e15
                have e11 : val 11 = .agg #[.int .i64 (shaRes rv sides l).lo, .int .i64 (shaRes rv sides l).hi] := hd 11 (memB_mem.1 rfl)
                have ha := ha.sub (Sub.ins (d := 225) (Sub.ins (d := 16) (Sub.nil _) (dep_get rfl e15)) (dep_get rfl e11))
                refine ts_store ha rfl rfl rfl (q15_ hfi) sz_23 rfl rfl rfl rfl ?_
                intro w' hq hgr
                refine ⟨undef, rfl, hgr.size, below_store hb hgr hg15_, ⟨g15_, e15, hq⟩, fun j _ hj hn hA => ?_⟩
                exact phiS_cons_st (C := fun j => j ≠ 16 ∧ 16 ∉ clsAt [[], [0], [0, 1], [], [3], [0, 1, 2, 3, 4], [], [], [0, 1, 2, 3, 4, 5, 6, 7], [0, 1, 2, 3, 4, 5, 6, 7, 8], [0, 1, 2, 3, 4, 5, 6, 7, 8, 9], [0, 1, 2, 3, 4, 5, 6, 7, 8, 9, 10], [0, 1, 2, 3, 4, 5, 6, 7, 8, 9, 10], [0, 1, 2, 3, 4, 5, 6, 7, 8, 9, 10], [0, 1, 2, 3, 4, 5, 6, 7, 8, 9, 10], [], [0, 1, 2, 3, 4, 5, 6, 7, 8, 9, 10, 11, 15], [0, 1, 2, 3, 4, 5, 6, 7, 8, 9, 10, 11, 12, 15, 16], [0, 1, 2, 3, 4, 5, 6, 7, 8, 9, 10, 11, 12, 13, 15, 16, 17], [0, 1, 2, 3, 4, 5, 6, 7, 8, 9, 10, 11, 12, 13, 14, 15, 16, 17, 18]] j ∧ ∀ p ∈ [15], (p = j ∨ p ∈ clsAt [[], [0], [0, 1], [], [3], [0, 1, 2, 3, 4], [], [], [0, 1, 2, 3, 4, 5, 6, 7], [0, 1, 2, 3, 4, 5, 6, 7, 8], [0, 1, 2, 3, 4, 5, 6, 7, 8, 9], [0, 1, 2, 3, 4, 5, 6, 7, 8, 9, 10], [0, 1, 2, 3, 4, 5, 6, 7, 8, 9, 10], [0, 1, 2, 3, 4, 5, 6, 7, 8, 9, 10], [0, 1, 2, 3, 4, 5, 6, 7, 8, 9, 10], [], [0, 1, 2, 3, 4, 5, 6, 7, 8, 9, 10, 11, 15], [0, 1, 2, 3, 4, 5, 6, 7, 8, 9, 10, 11, 12, 15, 16], [0, 1, 2, 3, 4, 5, 6, 7, 8, 9, 10, 11, 12, 13, 15, 16, 17], [0, 1, 2, 3, 4, 5, 6, 7, 8, 9, 10, 11, 12, 13, 14, 15, 16, 17, 18]] j) → ∀ q ∈ [15], (q = 16 ∨ q ∈ clsAt [[], [0], [0, 1], [], [3], [0, 1, 2, 3, 4], [], [], [0, 1, 2, 3, 4, 5, 6, 7], [0, 1, 2, 3, 4, 5, 6, 7, 8], [0, 1, 2, 3, 4, 5, 6, 7, 8, 9], [0, 1, 2, 3, 4, 5, 6, 7, 8, 9, 10], [0, 1, 2, 3, 4, 5, 6, 7, 8, 9, 10], [0, 1, 2, 3, 4, 5, 6, 7, 8, 9, 10], [0, 1, 2, 3, 4, 5, 6, 7, 8, 9, 10], [], [0, 1, 2, 3, 4, 5, 6, 7, 8, 9, 10, 11, 15], [0, 1, 2, 3, 4, 5, 6, 7, 8, 9, 10, 11, 12, 15, 16], [0, 1, 2, 3, 4, 5, 6, 7, 8, 9, 10, 11, 12, 13, 15, 16, 17], [0, 1, 2, 3, 4, 5, 6, 7, 8, 9, 10, 11, 12, 13, 14, 15, 16, 17, 18]] 16) → p ≠ q → val p ≠ val q) (fun _ _ h => by rw [fset_eq] at h; cases h) (phiS_cons_st (C := fun j => j ≠ 16 ∧ 16 ∉ clsAt [[], [0], [0, 1], [], [3], [0, 1, 2, 3, 4], [], [], [0, 1, 2, 3, 4, 5, 6, 7], [0, 1, 2, 3, 4, 5, 6, 7, 8], [0, 1, 2, 3, 4, 5, 6, 7, 8, 9], [0, 1, 2, 3, 4, 5, 6, 7, 8, 9, 10], [0, 1, 2, 3, 4, 5, 6, 7, 8, 9, 10], [0, 1, 2, 3, 4, 5, 6, 7, 8, 9, 10], [0, 1, 2, 3, 4, 5, 6, 7, 8, 9, 10], [], [0, 1, 2, 3, 4, 5, 6, 7, 8, 9, 10, 11, 15], [0, 1, 2, 3, 4, 5, 6, 7, 8, 9, 10, 11, 12, 15, 16], [0, 1, 2, 3, 4, 5, 6, 7, 8, 9, 10, 11, 12, 13, 15, 16, 17], [0, 1, 2, 3, 4, 5, 6, 7, 8, 9, 10, 11, 12, 13, 14, 15, 16, 17, 18]] j ∧ ∀ p ∈ [15], (p = j ∨ p ∈ clsAt [[], [0], [0, 1], [], [3], [0, 1, 2, 3, 4], [], [], [0, 1, 2, 3, 4, 5, 6, 7], [0, 1, 2, 3, 4, 5, 6, 7, 8], [0, 1, 2, 3, 4, 5, 6, 7, 8, 9], [0, 1, 2, 3, 4, 5, 6, 7, 8, 9, 10], [0, 1, 2, 3, 4, 5, 6, 7, 8, 9, 10], [0, 1, 2, 3, 4, 5, 6, 7, 8, 9, 10], [0, 1, 2, 3, 4, 5, 6, 7, 8, 9, 10], [], [0, 1, 2, 3, 4, 5, 6, 7, 8, 9, 10, 11, 15], [0, 1, 2, 3, 4, 5, 6, 7, 8, 9, 10, 11, 12, 15, 16], [0, 1, 2, 3, 4, 5, 6, 7, 8, 9, 10, 11, 12, 13, 15, 16, 17], [0, 1, 2, 3, 4, 5, 6, 7, 8, 9, 10, 11, 12, 13, 14, 15, 16, 17, 18]] j) → ∀ q ∈ [15], (q = 16 ∨ q ∈ clsAt [[], [0], [0, 1], [], [3], [0, 1, 2, 3, 4], [], [], [0, 1, 2, 3, 4, 5, 6, 7], [0, 1, 2, 3, 4, 5, 6, 7, 8], [0, 1, 2, 3, 4, 5, 6, 7, 8, 9], [0, 1, 2, 3, 4, 5, 6, 7, 8, 9, 10], [0, 1, 2, 3, 4, 5, 6, 7, 8, 9, 10], [0, 1, 2, 3, 4, 5, 6, 7, 8, 9, 10], [0, 1, 2, 3, 4, 5, 6, 7, 8, 9, 10], [], [0, 1, 2, 3, 4, 5, 6, 7, 8, 9, 10, 11, 15], [0, 1, 2, 3, 4, 5, 6, 7, 8, 9, 10, 11, 12, 15, 16], [0, 1, 2, 3, 4, 5, 6, 7, 8, 9, 10, 11, 12, 13, 15, 16, 17], [0, 1, 2, 3, 4, 5, 6, 7, 8, 9, 10, 11, 12, 13, 14, 15, 16, 17, 18]] 16) → p ≠ q → val p ≠ val q) (fun _ _ h => by rw [fset_eq] at h; cases h) (phiS_cons_st (C := fun j => j ≠ 16 ∧ 16 ∉ clsAt [[], [0], [0, 1], [], [3], [0, 1, 2, 3, 4], [], [], [0, 1, 2, 3, 4, 5, 6, 7], [0, 1, 2, 3, 4, 5, 6, 7, 8], [0, 1, 2, 3, 4, 5, 6, 7, 8, 9], [0, 1, 2, 3, 4, 5, 6, 7, 8, 9, 10], [0, 1, 2, 3, 4, 5, 6, 7, 8, 9, 10], [0, 1, 2, 3, 4, 5, 6, 7, 8, 9, 10], [0, 1, 2, 3, 4, 5, 6, 7, 8, 9, 10], [], [0, 1, 2, 3, 4, 5, 6, 7, 8, 9, 10, 11, 15], [0, 1, 2, 3, 4, 5, 6, 7, 8, 9, 10, 11, 12, 15, 16], [0, 1, 2, 3, 4, 5, 6, 7, 8, 9, 10, 11, 12, 13, 15, 16, 17], [0, 1, 2, 3, 4, 5, 6, 7, 8, 9, 10, 11, 12, 13, 14, 15, 16, 17, 18]] j ∧ ∀ p ∈ [15], (p = j ∨ p ∈ clsAt [[], [0], [0, 1], [], [3], [0, 1, 2, 3, 4], [], [], [0, 1, 2, 3, 4, 5, 6, 7], [0, 1, 2, 3, 4, 5, 6, 7, 8], [0, 1, 2, 3, 4, 5, 6, 7, 8, 9], [0, 1, 2, 3, 4, 5, 6, 7, 8, 9, 10], [0, 1, 2, 3, 4, 5, 6, 7, 8, 9, 10], [0, 1, 2, 3, 4, 5, 6, 7, 8, 9, 10], [0, 1, 2, 3, 4, 5, 6, 7, 8, 9, 10], [], [0, 1, 2, 3, 4, 5, 6, 7, 8, 9, 10, 11, 15], [0, 1, 2, 3, 4, 5, 6, 7, 8, 9, 10, 11, 12, 15, 16], [0, 1, 2, 3, 4, 5, 6, 7, 8, 9, 10, 11, 12, 13, 15, 16, 17], [0, 1, 2, 3, 4, 5, 6, 7, 8, 9, 10, 11, 12, 13, 14, 15, 16, 17, 18]] j) → ∀ q ∈ [15], (q = 16 ∨ q ∈ clsAt [[], [0], [0, 1], [], [3], [0, 1, 2, 3, 4], [], [], [0, 1, 2, 3, 4, 5, 6, 7], [0, 1, 2, 3, 4, 5, 6, 7, 8], [0, 1, 2, 3, 4, 5, 6, 7, 8, 9], [0, 1, 2, 3, 4, 5, 6, 7, 8, 9, 10], [0, 1, 2, 3, 4, 5, 6, 7, 8, 9, 10], [0, 1, 2, 3, 4, 5, 6, 7, 8, 9, 10], [0, 1, 2, 3, 4, 5, 6, 7, 8, 9, 10], [], [0, 1, 2, 3, 4, 5, 6, 7, 8, 9, 10, 11, 15], [0, 1, 2, 3, 4, 5, 6, 7, 8, 9, 10, 11, 12, 15, 16], [0, 1, 2, 3, 4, 5, 6, 7, 8, 9, 10, 11, 12, 13, 15, 16, 17], [0, 1, 2, 3, 4, 5, 6, 7, 8, 9, 10, 11, 12, 13, 14, 15, 16, 17, 18]] 16) → p ≠ q → val p ≠ val q) (fun _ _ h => by rw [fset_eq] at h; cases h) (phiS_cons_st (C := fun j => j ≠ 16 ∧ 16 ∉ clsAt [[], [0], [0, 1], [], [3], [0, 1, 2, 3, 4], [], [], [0, 1, 2, 3, 4, 5, 6, 7], [0, 1, 2, 3, 4, 5, 6, 7, 8], [0, 1, 2, 3, 4, 5, 6, 7, 8, 9], [0, 1, 2, 3, 4, 5, 6, 7, 8, 9, 10], [0, 1, 2, 3, 4, 5, 6, 7, 8, 9, 10], [0, 1, 2, 3, 4, 5, 6, 7, 8, 9, 10], [0, 1, 2, 3, 4, 5, 6, 7, 8, 9, 10], [], [0, 1, 2, 3, 4, 5, 6, 7, 8, 9, 10, 11, 15], [0, 1, 2, 3, 4, 5, 6, 7, 8, 9, 10, 11, 12, 15, 16], [0, 1, 2, 3, 4, 5, 6, 7, 8, 9, 10, 11, 12, 13, 15, 16, 17], [0, 1, 2, 3, 4, 5, 6, 7, 8, 9, 10, 11, 12, 13, 14, 15, 16, 17, 18]] j ∧ ∀ p ∈ [15], (p = j ∨ p ∈ clsAt [[], [0], [0, 1], [], [3], [0, 1, 2, 3, 4], [], [], [0, 1, 2, 3, 4, 5, 6, 7], [0, 1, 2, 3, 4, 5, 6, 7, 8], [0, 1, 2, 3, 4, 5, 6, 7, 8, 9], [0, 1, 2, 3, 4, 5, 6, 7, 8, 9, 10], [0, 1, 2, 3, 4, 5, 6, 7, 8, 9, 10], [0, 1, 2, 3, 4, 5, 6, 7, 8, 9, 10], [0, 1, 2, 3, 4, 5, 6, 7, 8, 9, 10], [], [0, 1, 2, 3, 4, 5, 6, 7, 8, 9, 10, 11, 15], [0, 1, 2, 3, 4, 5, 6, 7, 8, 9, 10, 11, 12, 15, 16], [0, 1, 2, 3, 4, 5, 6, 7, 8, 9, 10, 11, 12, 13, 15, 16, 17], [0, 1, 2, 3, 4, 5, 6, 7, 8, 9, 10, 11, 12, 13, 14, 15, 16, 17, 18]] j) → ∀ q ∈ [15], (q = 16 ∨ q ∈ clsAt [[], [0], [0, 1], [], [3], [0, 1, 2, 3, 4], [], [], [0, 1, 2, 3, 4, 5, 6, 7], [0, 1, 2, 3, 4, 5, 6, 7, 8], [0, 1, 2, 3, 4, 5, 6, 7, 8, 9], [0, 1, 2, 3, 4, 5, 6, 7, 8, 9, 10], [0, 1, 2, 3, 4, 5, 6, 7, 8, 9, 10], [0, 1, 2, 3, 4, 5, 6, 7, 8, 9, 10], [0, 1, 2, 3, 4, 5, 6, 7, 8, 9, 10], [], [0, 1, 2, 3, 4, 5, 6, 7, 8, 9, 10, 11, 15], [0, 1, 2, 3, 4, 5, 6, 7, 8, 9, 10, 11, 12, 15, 16], [0, 1, 2, 3, 4, 5, 6, 7, 8, 9, 10, 11, 12, 13, 15, 16, 17], [0, 1, 2, 3, 4, 5, 6, 7, 8, 9, 10, 11, 12, 13, 14, 15, 16, 17, 18]] 16) → p ≠ q → val p ≠ val q) (fun _ _ h => by rw [fset_eq] at h; cases h) (phiS_cons_st (C := fun j => j ≠ 16 ∧ 16 ∉ clsAt [[], [0], [0, 1], [], [3], [0, 1, 2, 3, 4], [], [], [0, 1, 2, 3, 4, 5, 6, 7], [0, 1, 2, 3, 4, 5, 6, 7, 8], [0, 1, 2, 3, 4, 5, 6, 7, 8, 9], [0, 1, 2, 3, 4, 5, 6, 7, 8, 9, 10], [0, 1, 2, 3, 4, 5, 6, 7, 8, 9, 10], [0, 1, 2, 3, 4, 5, 6, 7, 8, 9, 10], [0, 1, 2, 3, 4, 5, 6, 7, 8, 9, 10], [], [0, 1, 2, 3, 4, 5, 6, 7, 8, 9, 10, 11, 15], [0, 1, 2, 3, 4, 5, 6, 7, 8, 9, 10, 11, 12, 15, 16], [0, 1, 2, 3, 4, 5, 6, 7, 8, 9, 10, 11, 12, 13, 15, 16, 17], [0, 1, 2, 3, 4, 5, 6, 7, 8, 9, 10, 11, 12, 13, 14, 15, 16, 17, 18]] j ∧ ∀ p ∈ [15], (p = j ∨ p ∈ clsAt [[], [0], [0, 1], [], [3], [0, 1, 2, 3, 4], [], [], [0, 1, 2, 3, 4, 5, 6, 7], [0, 1, 2, 3, 4, 5, 6, 7, 8], [0, 1, 2, 3, 4, 5, 6, 7, 8, 9], [0, 1, 2, 3, 4, 5, 6, 7, 8, 9, 10], [0, 1, 2, 3, 4, 5, 6, 7, 8, 9, 10], [0, 1, 2, 3, 4, 5, 6, 7, 8, 9, 10], [0, 1, 2, 3, 4, 5, 6, 7, 8, 9, 10], [], [0, 1, 2, 3, 4, 5, 6, 7, 8, 9, 10, 11, 15], [0, 1, 2, 3, 4, 5, 6, 7, 8, 9, 10, 11, 12, 15, 16], [0, 1, 2, 3, 4, 5, 6, 7, 8, 9, 10, 11, 12, 13, 15, 16, 17], [0, 1, 2, 3, 4, 5, 6, 7, 8, 9, 10, 11, 12, 13, 14, 15, 16, 17, 18]] j) → ∀ q ∈ [15], (q = 16 ∨ q ∈ clsAt [[], [0], [0, 1], [], [3], [0, 1, 2, 3, 4], [], [], [0, 1, 2, 3, 4, 5, 6, 7], [0, 1, 2, 3, 4, 5, 6, 7, 8], [0, 1, 2, 3, 4, 5, 6, 7, 8, 9], [0, 1, 2, 3, 4, 5, 6, 7, 8, 9, 10], [0, 1, 2, 3, 4, 5, 6, 7, 8, 9, 10], [0, 1, 2, 3, 4, 5, 6, 7, 8, 9, 10], [0, 1, 2, 3, 4, 5, 6, 7, 8, 9, 10], [], [0, 1, 2, 3, 4, 5, 6, 7, 8, 9, 10, 11, 15], [0, 1, 2, 3, 4, 5, 6, 7, 8, 9, 10, 11, 12, 15, 16], [0, 1, 2, 3, 4, 5, 6, 7, 8, 9, 10, 11, 12, 13, 15, 16, 17], [0, 1, 2, 3, 4, 5, 6, 7, 8, 9, 10, 11, 12, 13, 14, 15, 16, 17, 18]] 16) → p ≠ q → val p ≠ val q) (fun _ ⟨g, h1, h2, _⟩ => ⟨g, h1, h2, fun h => by rw [fset_eq] at h; cases h⟩) (phiS_cons_st (C := fun j => j ≠ 16 ∧ 16 ∉ clsAt [[], [0], [0, 1], [], [3], [0, 1, 2, 3, 4], [], [], [0, 1, 2, 3, 4, 5, 6, 7], [0, 1, 2, 3, 4, 5, 6, 7, 8], [0, 1, 2, 3, 4, 5, 6, 7, 8, 9], [0, 1, 2, 3, 4, 5, 6, 7, 8, 9, 10], [0, 1, 2, 3, 4, 5, 6, 7, 8, 9, 10], [0, 1, 2, 3, 4, 5, 6, 7, 8, 9, 10], [0, 1, 2, 3, 4, 5, 6, 7, 8, 9, 10], [], [0, 1, 2, 3, 4, 5, 6, 7, 8, 9, 10, 11, 15], [0, 1, 2, 3, 4, 5, 6, 7, 8, 9, 10, 11, 12, 15, 16], [0, 1, 2, 3, 4, 5, 6, 7, 8, 9, 10, 11, 12, 13, 15, 16, 17], [0, 1, 2, 3, 4, 5, 6, 7, 8, 9, 10, 11, 12, 13, 14, 15, 16, 17, 18]] j ∧ ∀ p ∈ [15], (p = j ∨ p ∈ clsAt [[], [0], [0, 1], [], [3], [0, 1, 2, 3, 4], [], [], [0, 1, 2, 3, 4, 5, 6, 7], [0, 1, 2, 3, 4, 5, 6, 7, 8], [0, 1, 2, 3, 4, 5, 6, 7, 8, 9], [0, 1, 2, 3, 4, 5, 6, 7, 8, 9, 10], [0, 1, 2, 3, 4, 5, 6, 7, 8, 9, 10], [0, 1, 2, 3, 4, 5, 6, 7, 8, 9, 10], [0, 1, 2, 3, 4, 5, 6, 7, 8, 9, 10], [], [0, 1, 2, 3, 4, 5, 6, 7, 8, 9, 10, 11, 15], [0, 1, 2, 3, 4, 5, 6, 7, 8, 9, 10, 11, 12, 15, 16], [0, 1, 2, 3, 4, 5, 6, 7, 8, 9, 10, 11, 12, 13, 15, 16, 17], [0, 1, 2, 3, 4, 5, 6, 7, 8, 9, 10, 11, 12, 13, 14, 15, 16, 17, 18]] j) → ∀ q ∈ [15], (q = 16 ∨ q ∈ clsAt [[], [0], [0, 1], [], [3], [0, 1, 2, 3, 4], [], [], [0, 1, 2, 3, 4, 5, 6, 7], [0, 1, 2, 3, 4, 5, 6, 7, 8], [0, 1, 2, 3, 4, 5, 6, 7, 8, 9], [0, 1, 2, 3, 4, 5, 6, 7, 8, 9, 10], [0, 1, 2, 3, 4, 5, 6, 7, 8, 9, 10], [0, 1, 2, 3, 4, 5, 6, 7, 8, 9, 10], [0, 1, 2, 3, 4, 5, 6, 7, 8, 9, 10], [], [0, 1, 2, 3, 4, 5, 6, 7, 8, 9, 10, 11, 15], [0, 1, 2, 3, 4, 5, 6, 7, 8, 9, 10, 11, 12, 15, 16], [0, 1, 2, 3, 4, 5, 6, 7, 8, 9, 10, 11, 12, 13, 15, 16, 17], [0, 1, 2, 3, 4, 5, 6, 7, 8, 9, 10, 11, 12, 13, 14, 15, 16, 17, 18]] 16) → p ≠ q → val p ≠ val q) (fun hc => absurd rfl hc.1) (fun _ _ h => h)))))) j ⟨hj, hn, hA⟩
              · intro val fl wR19 hfl hb halc hd
                have e0 : val 0 = .pointer (some ⟨g1, 0, none⟩) := hd 0 (by omega)
                have e1 : val 1 = .agg #[.slice (some ⟨bR, oR, none⟩) rv.reaches.length c, .slice A' rv.shoals.length c'] := hd 1 (by omega)
                have e3 : val 3 = .pointer (some ⟨g1, 2, none⟩) := hd 3 (by omega)
                have e4 : val 4 = .slice (some ⟨bS, oS, none⟩) sides.length d := hd 4 (by omega)
                have e7 : val 7 = .slice Aw l.length cw := hd 7 (by omega)
                have e9 : val 9 = .tuple #[.agg #[.int .i64 (shaRes rv sides l).lo, .int .i64 (shaRes rv sides l).hi], .int .i64 (shaRes rv sides l).pass, .int .i64 (shaRes rv sides l).hour, .int .i64 (shaErr rv sides l)] := hd 9 (by omega)
                have e10 : val 10 = .tuple #[.agg #[.int .i64 (shaRes rv sides l).lo, .int .i64 (shaRes rv sides l).hi], .int .i64 (shaRes rv sides l).pass, .int .i64 (shaRes rv sides l).hour, .int .i64 (shaErr rv sides l)] := hd 10 (by omega)
                have e11 : val 11 = .agg #[.int .i64 (shaRes rv sides l).lo, .int .i64 (shaRes rv sides l).hi] := hd 11 (by omega)
                have e12 : val 12 = .int .i64 (shaRes rv sides l).pass := hd 12 (by omega)
                have e13 : val 13 = .int .i64 (shaRes rv sides l).hour := hd 13 (by omega)
                have e14 : val 14 = .int .i64 (shaErr rv sides l) := hd 14 (by omega)
                obtain ⟨ga15_19, e15, qa15_19⟩ := hd 16 (by omega)
                change val 15 = _ at e15
                have e17 : val 17 = .int .i64 (shaRes rv sides l).pass := hd 17 (by omega)
                have e18 : val 18 = .int .i64 (shaRes rv sides l).hour := hd 18 (by omega)
                refine EL.ends (cs := [.pointer (some ⟨g1, 0, none⟩), .agg #[.slice (some ⟨bR, oR, none⟩) rv.reaches.length c, .slice A' rv.shoals.length c'], val 2, .pointer (some ⟨g1, 2, none⟩), .slice (some ⟨bS, oS, none⟩) sides.length d, val 5, val 6, .slice Aw l.length cw, val 8, .tuple #[.agg #[.int .i64 (shaRes rv sides l).lo, .int .i64 (shaRes rv sides l).hi], .int .i64 (shaRes rv sides l).pass, .int .i64 (shaRes rv sides l).hour, .int .i64 (shaErr rv sides l)], .tuple #[.agg #[.int .i64 (shaRes rv sides l).lo, .int .i64 (shaRes rv sides l).hi], .int .i64 (shaRes rv sides l).pass, .int .i64 (shaRes rv sides l).hour, .int .i64 (shaErr rv sides l)], .agg #[.int .i64 (shaRes rv sides l).lo, .int .i64 (shaRes rv sides l).hi], .int .i64 (shaRes rv sides l).pass, .int .i64 (shaRes rv sides l).hour, .int .i64 (shaErr rv sides l), .pointer (some ⟨ga15_19, 0, none⟩), val 16, .int .i64 (shaRes rv sides l).pass, .int .i64 (shaRes rv sides l).hour]) ⟨e0, e1, rfl, e3, e4, rfl, rfl, e7, rfl, e9, e10, e11, e12, e13, e14, e15, rfl, e17, e18, trivial⟩ rfl ?_
                replace q1 := q1.below hb q1.lt
                replace q2 := q2.below hb q2.lt
                have bge29 := alc_ge halc (i := 15) rfl rfl e15
                have n1_29 : g1 ≠ ga15_19 := Nat.ne_of_lt (Nat.lt_of_lt_of_le lt_1 bge29)
                have n2_29 : g2 ≠ ga15_19 := Nat.ne_of_lt (Nat.lt_of_lt_of_le lt_2 bge29)
                have bhbw_29 := Nat.le_trans hbw.size bge29
                have bbF_29 := Nat.le_trans bF.size bge29
                replace hbw := Below.on hbw hb hbw.size
                replace bF := Below.on bF hb bF.size
                refine EL.val (x_assign rfl) rfl ?_
                refine EL.nil ?_
                refine EX.seq ?_
                refine EC.seq ?_
                refine EC.seq ?_
                refine EC.region ?_
                refine EL.val (x_move rfl) rfl ?_
                refine EL.val (x_neq rfl rfl (by first | assumption | exact decide_eq_true (by omega))) rfl ?_
                refine EL.nil ?_
                refine EX.seq ?_
                refine EC.yes rfl ?_
                refine EC.seq ?_
                refine EC.region ?_
                refine EL.val (x_move rfl) rfl ?_
                refine EL.val (x_eql rfl rfl (by first | assumption | exact decide_eq_true (by omega))) rfl ?_
                refine EL.val (x_move rfl) rfl ?_
                refine EL.valg rfl rfl (x_move rfl) rfl ?_
                refine EL.valg rfl rfl (x_eql rfl rfl (by first | assumption | exact decide_eq_true (by omega))) rfl ?_
                refine EL.val (x_pick_t rfl rfl) rfl ?_
                refine EL.val (x_move rfl) rfl ?_
                refine EL.valg rfl rfl (ld_23 rfl (qa15_19.at (j := 0) rfl) (qa15_19.at (j := 1) rfl)) rfl ?_
                refine EL.valg rfl rfl (bd_23_) rfl ?_
                refine EL.valg rfl rfl (eql_23 (r := true) rfl rfl (by simp [hv_3, hv_4])) rfl ?_
                refine EL.val (x_pick_t rfl rfl) rfl ?_
                refine EL.val (x_move rfl) rfl ?_
                refine EL.callg rfl rfl cl_16 rfl (known_any _) ?_
                rintro e w30 ⟨rfl, hc30⟩
                refine ⟨_, rfl, ?_⟩
                replace q1 := q1.below hc30 q1.lt
                replace q2 := q2.below hc30 q2.lt
                replace qa15_19 := qa15_19.below hc30 qa15_19.lt
                replace hbw := Below.on hbw hc30 hbw.size
                replace bF := Below.on bF hc30 bF.size
                clear hc30
                refine EL.val (x_pick_t rfl rfl) rfl ?_
                refine EL.val (x_assign rfl) rfl ?_
                refine EL.nil ?_
                refine EX.seq ?_
                refine EC.ret ?_
                refine EX.seq_ret ?_
                exact EX.done (res1 rfl rfl) ⟨rfl, hbw⟩
end Go.Proofs.Ytncnlhkmdljgpaa
