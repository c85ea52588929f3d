/- River: the law RiverWays, its walk (printed by gen_w29.py). -/
import Derived.Test.YtncnlhkmdljgpaaW26
import Derived.Test.YtncnlhkmdljgpaaW19
import Derived.Test.YtncnlhkmdljgpaaWaysMath
import Derived.Test.YtncnlhkmdljgpaaLaw3
import Derived.Test.YtncnlhkmdljgpaaExR29
set_option linter.unusedVariables false
set_option linter.unusedSimpArgs false
namespace Go.Proofs.Ytncnlhkmdljgpaa
open Go Go.RowKit

theorem pass_info2 : (Try.prog.info? 101).map (fun i => (i.zero, i.size, i.bytes)) = some (some (.agg #[.int .i64 0, .int .i64 0, .int .i64 0]), 3, 24) := by kernel_rfl
theorem pass_elem2 : Elem Try.prog 99 101 3 24 := Elem.mk' Try.underlying99 pass_info2 rfl (by omega)
theorem passes_all {l : List Pass} {w : World} {B : Nat} {A : Option Addr} {n c : Nat} (hr : Rd w B 3 (.slice A n c) n (passesC l)) (h0 : 0 < l.length) : ∃ b o, A = some ⟨b, o, none⟩ ∧ ∀ k, k < l.length → PassAt w b (o + k * 3) (l.getD k pass0) := by
  obtain ⟨b, o, e, _, _⟩ := passes_cells l 0 h0 w B A n c hr
  refine ⟨b, o, e, fun k hk => ?_⟩
  obtain ⟨b1, o1, e1, _, h1⟩ := passes_cells l k hk w B A n c hr
  rw [e] at e1
  injection e1 with e1
  injection e1 with e2 e3
  subst e2
  subst e3
  exact h1
theorem passBad_vals {n h : Int} : ∀ {l : List Pass}, passBad n h l = 0 ∨ passBad n h l = 7 ∨ passBad n h l = 3
  | [] => .inl rfl
  | x :: l => by
    rw [passBad]
    split
    · exact .inr (.inl rfl)
    · split
      · exact .inr (.inr rfl)
      · exact passBad_vals
theorem own_some {w : World} {base e size m c : Nat} {A : Option Addr} {xs : List Value} (h : w.ownsRow base e size (.slice A m c) m xs) (hm : 0 < m) : ∃ g, A = some ⟨g, 0, none⟩ := by
  obtain ⟨_, ⟨_, h0⟩ | ⟨g, _, _, h1, _⟩⟩ := h
  · omega
  · injection h1 with h1; exact ⟨g, h1⟩
theorem row_ne {w : World} {base e size n c g k T : Nat} {xs : List Value} {cs : Array Value} (h : w.ownsRow base e size (.slice (some ⟨g, 0, none⟩) n c) n xs) (hq : Blk w k T cs) (hT : Nat.beq T e = false) : k ≠ g := fun e1 => by
  subst e1
  obtain ⟨_, ⟨h0, _⟩ | ⟨g', cap, cur, h1, _, hg, _⟩⟩ := h
  · cases h0
  · injection h1 with h1
    injection h1 with h1
    injection h1 with h1 _
    subst h1
    have h2 : some (Obj.cells cs T (0, 0)) = some (Obj.cells cur e (0, 0)) := hq.symm.trans hg
    injection h2 with h2
    injection h2 with _ h3
    exact Nat.ne_of_beq_eq_false hT h3
theorem dep_good (rv : River) (sides : List (List Bd)) (v u s : Value) (vs ss : List Value) (w : World) (B : Nat) (hr : RdRiver w B v u rv vs) (hs : RdSides w B s sides ss) (hB : B ≤ w.heap.size) (hf : Fine rv sides) (hst : startErr rv sides = 0) {p t : Int} (hp : inB 0 (placesOf rv.reaches - 1) p = true) (ht : inB 0 (((sides.getD 0 []).length : Nat) - 1 : Int) t = true) :
    Calls Try.prog 33 #[.agg #[v, u], s, .int .i64 p, .int .i64 t] w fun e w' => e = .returned (.tuple #[.agg #[.int .i64 (depthAt rv sides p t).lo, .int .i64 (depthAt rv sides p t).hi], .int .i64 0]) ∧ Below w.heap.size w w' := by
  have f1 := hf.nreaches
  have f2 := hf.nshoals
  have f5 := hf.nsides
  exact dep_ok rv sides v u s vs ss w B hr hs hB (by omega) (by omega) hf.curves (by omega) hf.sidesB p t hst hp ht
theorem shallow_good (rv : River) (sides : List (List Bd)) (v u s : Value) (vs ss : List Value) (l : List Pass) (vl : Value) (w : World) (B : Nat) (hr : RdRiver w B v u rv vs) (hs : RdSides w B s sides ss) (hB : B ≤ w.heap.size) (hw : Rd w B 3 vl l.length (passesC l)) (hf : Fine rv sides) (hst : startErr rv sides = 0) (hok : WayOk rv sides l) :
    Calls Try.prog 51 #[.agg #[v, u], s, vl] w fun e w' => e = .returned (.tuple #[.agg #[.int .i64 (shUp rv sides l l.length).lo, .int .i64 (shUp rv sides l l.length).hi], .int .i64 (shUp rv sides l l.length).pass, .int .i64 (shUp rv sides l l.length).hour, .int .i64 0]) ∧ Below w.heap.size w w' := by
  have f1 := hf.nreaches
  have f2 := hf.nshoals
  have f5 := hf.nsides
  obtain ⟨h1, h2⟩ := sha_ok hst (way_zero hok)
  have key := shallow_any rv sides v u s vs ss l vl w B hr hs hB hw (by omega) (by omega) hf.curves (by omega) hf.sidesB
  rw [h1, h2] at key
  exact key

theorem in_true (b : Bd) (n : Int) (w : World) (h1 : b.lo ≤ n) (h2 : n ≤ b.hi) :
    Calls Try.prog 54 #[.agg #[.int .i64 b.lo, .int .i64 b.hi], .int .i64 n] w fun e w' => e = .returned (.bool true) ∧ Below w.heap.size w w' := by
  have hbw := Below.refl w.heap.size w
  refine EC.enter 15 Try.func54 rfl rfl rfl ?_
  refine EC.seq ?_
  refine EC.region ?_
  refine EL.newP (bx_23 rfl) rfl ?_
  intro g1 w1 q1 hb1 hg1 hl1
  have bhbw_1 := Nat.le_trans hbw.size hg1
  replace hbw := Below.on hbw hb1 hbw.size
  clear hb1 hg1 hl1
  refine EL.val (x_assign rfl) rfl ?_
  refine EL.nil ?_
  refine EX.seq ?_
  refine EC.seq ?_
  refine EC.region ?_
  refine EL.val (x_move rfl) rfl ?_
  refine EL.val (fa_23_0 rfl) rfl ?_
  refine EL.val (ld_3 rfl (q1.at (j := 0) rfl)) rfl ?_
  refine EL.val (x_geq rfl rfl (by first | assumption | exact decide_eq_true (by omega))) rfl ?_
  refine EL.val (x_move rfl) rfl ?_
  refine EL.valg rfl rfl (x_move rfl) rfl ?_
  refine EL.valg rfl rfl (fa_23_1 rfl) rfl ?_
  refine EL.valg rfl rfl (ld_3 rfl (q1.at (j := 1) rfl)) rfl ?_
  refine EL.valg rfl rfl (x_leq rfl rfl (by first | assumption | exact decide_eq_true (by omega))) rfl ?_
  refine EL.val (x_pick_t rfl rfl) rfl ?_
  refine EL.val (x_assign rfl) rfl ?_
  refine EL.nil ?_
  refine EX.seq ?_
  refine EC.ret ?_
  exact EX.done (res1 rfl rfl) ⟨rfl, hbw⟩

set_option maxHeartbeats 16000000 in
set_option maxRecDepth 100000 in
theorem ways_law (rv : River) (sides : List (List Bd)) (v u s : Value) (vs ss : List Value) (l : List Pass) (vl : Value) (cut : Nat) (hcut : cut ≤ 255) (w : World) (B : Nat) (hr : RdRiver w B v u rv vs) (hs : RdSides w B s sides ss) (hB : B ≤ w.heap.size) (hwy : Rd w B 3 vl l.length (passesC l)) :
    Calls Try.prog 14 #[.agg #[v, u, s], vl, .int .u8 (cut : Nat)] w fun e w' => e = .returned (.bool true) ∧ Below w.heap.size w w' := by
  obtain ⟨Aw, cw, rfl, _⟩ := hwy.shape
  obtain ⟨A, c, rfl, _⟩ := hr.reaches.shape
  obtain ⟨A', c', rfl, _⟩ := hr.shoals.shape
  obtain ⟨D, d, rfl, _⟩ := hs.rd.shape
  have hbw := Below.refl w.heap.size w
  refine EC.enter 377 Try.func14 rfl rfl rfl ?_
  refine EC.seq ?_
  refine EC.region ?_
  refine EL.newP (bx_54 rfl) rfl ?_
  intro g1 w1 q1 hb1 hg1 hl1
  have bhbw_1 := Nat.le_trans hbw.size hg1
  replace hbw := Below.on hbw hb1 hbw.size
  clear hb1 hg1 hl1
  refine EL.val (x_assign rfl) rfl ?_
  refine EL.nil ?_
  refine EX.seq ?_
  refine EC.seq ?_
  refine EC.seq ?_
  refine EC.region ?_
  refine EL.val (ld_54 rfl (q1.at (j := 0) rfl) (q1.at (j := 1) rfl) (q1.at (j := 2) rfl)) rfl ?_
  refine EL.call (cl_44 rfl) rfl (valid_any rv sides _ _ _ vs ss _ _ (hr.below (hbw.mono hB)) (hs.below (hbw.mono hB)) (Nat.le_trans hB hbw.size)) ?_
  rintro e w_l ⟨rfl | ⟨rfl, hfine, hst⟩, hc_⟩
  ·
    refine ⟨_, rfl, ?_⟩
    replace q1 := q1.below hc_ q1.lt
    replace hbw := Below.on hbw hc_ hbw.size
    clear hc_
    refine EL.val (x_not rfl) rfl ?_
    refine EL.val (x_move rfl) rfl ?_
    refine EL.skip rfl rfl rfl rfl ?_
    refine EL.skip rfl rfl rfl rfl ?_
    refine EL.skip rfl rfl rfl rfl ?_
    refine EL.val (x_pick_t rfl rfl) rfl ?_
    refine EL.val (x_move rfl) rfl ?_
    refine EL.skip rfl rfl rfl rfl ?_
    refine EL.skip rfl rfl rfl rfl ?_
    refine EL.skip rfl rfl rfl rfl ?_
    refine EL.val (x_pick_t rfl rfl) rfl ?_
    refine EL.nil ?_
    refine EX.seq ?_
    refine EC.yes rfl ?_
    refine EC.seq ?_
    refine EC.region ?_
    refine EL.call cl_16 rfl (known_any _) ?_
    rintro e w2 ⟨rfl, hc2⟩
    refine ⟨_, rfl, ?_⟩
    replace q1 := q1.below hc2 q1.lt
    replace hbw := Below.on hbw hc2 hbw.size
    clear hc2
    refine EL.val (x_assign rfl) rfl ?_
    refine EL.nil ?_
    refine EX.seq ?_
    refine EC.ret ?_
    refine EX.seq_ret ?_
    exact EX.done (res1 rfl rfl) ⟨rfl, hbw⟩
  ·
    have f1 := hfine.nreaches
    have f2 := hfine.nshoals
    have f3 := hfine.curves
    have f4 := hfine.sidesB
    have f5 := hfine.nsides
    have hS := (startErr_ok hst).2
    have hok := (startErr_ok hst).1
    have hhr := hS.hours
    have hmany := hS.many
    have hsm := hS.river.some
    obtain ⟨bS, oS, rfl, _, hsc⟩ := sides_all hs (by omega)
    have hs0 := hs.side 0 (by omega)
    obtain ⟨A0, ca0, e0, _⟩ := hs0.shape
    have c0 := hsc 0 (by omega)
    rw [e0] at c0
    refine ⟨_, rfl, ?_⟩
    replace q1 := q1.below hc_ q1.lt
    replace hbw := Below.on hbw hc_ hbw.size
    clear hc_
    refine EL.val (x_not rfl) rfl ?_
    refine EL.val (x_move rfl) rfl ?_
    refine EL.valg rfl rfl (x_move rfl) rfl ?_
    refine EL.valg rfl rfl (ln_99 rfl) rfl ?_
    by_cases h1l : l.length < 1
    ·
      refine EL.valg rfl rfl (x_lss rfl rfl (by first | assumption | exact decide_eq_true (by omega))) rfl ?_
      refine EL.val (x_pick_f rfl rfl) rfl ?_
      refine EL.val (x_move rfl) rfl ?_
      refine EL.skip rfl rfl rfl rfl ?_
      refine EL.skip rfl rfl rfl rfl ?_
      refine EL.skip rfl rfl rfl rfl ?_
      refine EL.val (x_pick_t rfl rfl) rfl ?_
      refine EL.nil ?_
      refine EX.seq ?_
      refine EC.yes rfl ?_
      refine EC.seq ?_
      refine EC.region ?_
      refine EL.call cl_16 rfl (known_any _) ?_
      rintro e w3 ⟨rfl, hc3⟩
      refine ⟨_, rfl, ?_⟩
      replace q1 := q1.below hc3 q1.lt
      replace hbw := Below.on hbw hc3 hbw.size
      clear hc3
      refine EL.val (x_assign rfl) rfl ?_
      refine EL.nil ?_
      refine EX.seq ?_
      refine EC.ret ?_
      refine EX.seq_ret ?_
      exact EX.done (res1 rfl rfl) ⟨rfl, hbw⟩
    ·
      obtain ⟨bw, ow, rfl, hpc⟩ := passes_all hwy (by omega)
      refine EL.valg rfl rfl (x_lss rfl rfl (by first | assumption | exact decide_eq_false (by omega))) rfl ?_
      refine EL.val (x_pick_f rfl rfl) rfl ?_
      refine EL.val (x_move rfl) rfl ?_
      refine EL.valg rfl rfl (x_move rfl) rfl ?_
      refine EL.valg rfl rfl (ln_99 rfl) rfl ?_
      by_cases h20 : 20 < l.length
      ·
        refine EL.valg rfl rfl (x_gtr rfl rfl (by first | assumption | exact decide_eq_true (by omega))) rfl ?_
        refine EL.val (x_pick_f rfl rfl) rfl ?_
        refine EL.nil ?_
        refine EX.seq ?_
        refine EC.yes rfl ?_
        refine EC.seq ?_
        refine EC.region ?_
        refine EL.call cl_16 rfl (known_any _) ?_
        rintro e w4 ⟨rfl, hc4⟩
        refine ⟨_, rfl, ?_⟩
        replace q1 := q1.below hc4 q1.lt
        replace hbw := Below.on hbw hc4 hbw.size
        clear hc4
        refine EL.val (x_assign rfl) rfl ?_
        refine EL.nil ?_
        refine EX.seq ?_
        refine EC.ret ?_
        refine EX.seq_ret ?_
        exact EX.done (res1 rfl rfl) ⟨rfl, hbw⟩
      ·
        refine EL.valg rfl rfl (x_gtr rfl rfl (by first | assumption | exact decide_eq_false (by omega))) rfl ?_
        refine EL.val (x_pick_f rfl rfl) rfl ?_
        refine EL.nil ?_
        refine EX.seq ?_
        refine EC.no rfl ?_
        refine EC.skip ?_
        refine EX.seq ?_
        refine EC.seq ?_
        by_cases hce : wayErr (placesOf rv.reaches) ((sides.getD 0 []).length : Nat) l = 0
        ·
          have hway := way_ok_of (n := 0) hce
          have hlh := way_lohi hS hway
          obtain ⟨pi, pm, ⟨hpi, hpm⟩, bp1, bp2, bp3, hall⟩ := way_best hS hway
          have hub := shUp_bd hS hway.ok (Nat.le_refl _)
          have hpd := way_depth hS hway hpi hpm
          obtain ⟨hpp, hph⟩ := hway.ok pi hpi
          have hph_ := bdOk_iff.1 hph
          have hpc1 := hpc pi hpi
          have lt_1 := q1.lt
          refine EC.regionS [[], [0], [0, 1], [], [3], [0, 1, 2, 3, 4], [], [], [0, 1, 2, 3, 4, 5, 6, 7], [0, 1, 2, 3, 4, 5, 6, 7, 8], [0, 1, 2, 3, 4, 5, 6, 7, 8, 9], [0, 1, 2, 3, 4, 5, 6, 7, 8, 9, 10], [0, 1, 2, 3, 4, 5, 6, 7, 8, 9, 10], [0, 1, 2, 3, 4, 5, 6, 7, 8, 9, 10], [0, 1, 2, 3, 4, 5, 6, 7, 8, 9, 10], [], [0, 1, 2, 3, 4, 5, 6, 7, 8, 9, 10, 11, 15], [0, 1, 2, 3, 4, 5, 6, 7, 8, 9, 10, 11, 12, 15, 16], [0, 1, 2, 3, 4, 5, 6, 7, 8, 9, 10, 11, 12, 13, 15, 16, 17], [0, 1, 2, 3, 4, 5, 6, 7, 8, 9, 10, 11, 12, 13, 14, 15, 16, 17, 18]] 19 [15] [16] (fun _ w_ => Below w_l.heap.size w_l w_) (phiS (fun i_ r => match i_ with | 0 => r 0 = .pointer (some ⟨g1, 0, none⟩) | 1 => r 1 = .agg #[.slice A rv.reaches.length c, .slice A' rv.shoals.length c'] | 3 => r 3 = .pointer (some ⟨g1, 2, none⟩) | 4 => r 4 = .slice (some ⟨bS, oS, none⟩) sides.length d | 7 => r 7 = .slice (some ⟨bw, ow, none⟩) l.length cw | 9 => r 9 = .tuple #[.agg #[.int .i64 (shUp rv sides l l.length).lo, .int .i64 (shUp rv sides l l.length).hi], .int .i64 (shUp rv sides l l.length).pass, .int .i64 (shUp rv sides l l.length).hour, .int .i64 0] | 10 => r 10 = .tuple #[.agg #[.int .i64 (shUp rv sides l l.length).lo, .int .i64 (shUp rv sides l l.length).hi], .int .i64 (shUp rv sides l l.length).pass, .int .i64 (shUp rv sides l l.length).hour, .int .i64 0] | 11 => r 11 = .agg #[.int .i64 (shUp rv sides l l.length).lo, .int .i64 (shUp rv sides l l.length).hi] | 12 => r 12 = .int .i64 (shUp rv sides l l.length).pass | 13 => r 13 = .int .i64 (shUp rv sides l l.length).hour | 14 => r 14 = .int .i64 0 | 17 => r 17 = .int .i64 (shUp rv sides l l.length).pass | 18 => r 18 = .int .i64 (shUp rv sides l l.length).hour | _ => True) [(2, fun fl r w_ => fl 16 = false → (∃ a b vs, r 2 = .agg #[a, b] ∧ RdRiver w_ w_.heap.size a b rv vs)), (5, fun fl r w_ => fl 16 = false → (∃ v ss, r 5 = v ∧ RdSides w_ w_.heap.size v sides ss)), (6, fun fl r w_ => fl 16 = false → (∃ g_, r 6 = .slice (some ⟨g_, 0, none⟩) 0 0 ∧ Blk w_ g_ 101 #[] ∧ w_l.heap.size ≤ g_)), (8, fun fl r w_ => fl 16 = false → (∃ v, r 8 = v ∧ w_.ownsRow w_l.heap.size 101 3 v l.length (passesC l))), (15, fun fl r w_ => ∃ g_, r 15 = .pointer (some ⟨g_, 0, none⟩) ∧ w_l.heap.size ≤ g_ ∧ (fl 16 = false → Blk w_ g_ 23 #[.int .i64 0, .int .i64 0])), (16, fun _ r w_ => ∃ g_, r 15 = .pointer (some ⟨g_, 0, none⟩) ∧ Blk w_ g_ 23 #[.int .i64 (shUp rv sides l l.length).lo, .int .i64 (shUp rv sides l l.length).hi])]) (by kernel_rfl) rfl rfl (by intro i hi; simp at hi; first | (subst hi; exact ⟨by simp, by omega⟩) | (rcases hi with rfl | rfl | rfl <;> exact ⟨by simp, by omega⟩) | (rcases hi with rfl | rfl <;> exact ⟨by simp, by omega⟩)) (base_below w_l) (phiS_cons (monoS_till mono_riv) (phiS_cons (monoS_till mono_sid) (phiS_cons (monoS_till mono_bs) (phiS_cons (monoS_till mono_row) (phiS_cons monoS_alloc (phiS_cons monoS_store (phiS_nil))))))) (fun i_ hi_ hs_ => ?_) (fun i_ hi_ => ?_) ?_
          · match i_, hi_ with
            | 0, _ =>
              intro val fl w1 a hb ha hd hfl
              have ha := ha.sub (Sub.ins (d := 3) (Sub.nil _) rfl)
              exact ss_val ha rfl rfl (fa_54_0 rfl) rfl rfl
            | 1, _ =>
              intro val fl w1 a hb ha hd hfl
              have e0 : val 0 = .pointer (some ⟨g1, 0, none⟩) := hd 0 (memB_mem.1 rfl)
              have ha := ha.sub (Sub.ins (d := 46) (Sub.nil _) (dep_get rfl e0))
              exact ss_val ha rfl rfl (ld_47 rfl ((q1.below hb q1.lt).at (j := 0) rfl) ((q1.below hb q1.lt).at (j := 1) rfl)) rfl rfl
            | 2, _ =>
              intro val fl w1 a hb ha hd hfl
              have e1 : val 1 = .agg #[.slice A rv.reaches.length c, .slice A' rv.shoals.length c'] := hd 1 (memB_mem.1 rfl)
              have ha := ha.sub (Sub.ins (d := 47) (Sub.nil _) (dep_get rfl e1))
              refine ss_call ha rfl rfl (cl_24 rfl) (copied_any rv _ _ vs _ B (hr.below ((Below.on hbw hb hbw.size).mono hB)) (Nat.le_trans hB (Below.on hbw hb hbw.size).size) (by omega) (by omega) f3) rfl ?_
              rintro e w' ⟨⟨v1, u1, vs1, rfl, hcp⟩, hb'⟩
              exact ⟨_, rfl, hb', fun _ => ⟨_, _, _, rfl, hcp⟩⟩
            | 3, _ =>
              intro val fl w1 a hb ha hd hfl
              have ha := ha.sub (Sub.ins (d := 3) (Sub.nil _) rfl)
              exact ss_val ha rfl rfl (fa_54_1 rfl) rfl rfl
            | 4, _ =>
              intro val fl w1 a hb ha hd hfl
              have e3 : val 3 = .pointer (some ⟨g1, 2, none⟩) := hd 3 (memB_mem.1 rfl)
              have ha := ha.sub (Sub.ins (d := 49) (Sub.nil _) (dep_get rfl e3))
              exact ss_val ha rfl rfl (ld_52 rfl ((q1.below hb q1.lt).at (j := 2) rfl)) rfl rfl
            | 5, _ =>
              intro val fl w1 a hb ha hd hfl
              have e4 : val 4 = .slice (some ⟨bS, oS, none⟩) sides.length d := hd 4 (memB_mem.1 rfl)
              have ha := ha.sub (Sub.ins (d := 50) (Sub.nil _) (dep_get rfl e4))
              refine ss_call ha rfl rfl (cl_34 rfl) (forecast_any sides _ ss _ B (hs.below ((Below.on hbw hb hbw.size).mono hB)) (Nat.le_trans hB (Below.on hbw hb hbw.size).size) (by omega) f4) rfl ?_
              rintro e w' ⟨⟨v1, ss1, rfl, hcp⟩, hb'⟩
              exact ⟨_, rfl, hb', fun _ => ⟨_, _, rfl, hcp⟩⟩
            | 6, _ =>
              intro val fl w1 a hb ha hd hfl
              have ha := ha.sub (Sub.nil _)
              exact ss_newS ha rfl rfl (bs_99_0) rfl (fun g w' hq _ hge => fun _ => ⟨g, rfl, hq, Nat.le_trans hb.size hge⟩)
            | 7, _ =>
              intro val fl w1 a hb ha hd hfl
              have ha := ha.sub (Sub.ins (d := 1) (Sub.nil _) rfl)
              exact ss_val ha rfl rfl (x_move rfl) rfl rfl
            | 8, _ =>
              intro val fl w1 a hb ha hd hfl
              obtain ⟨g6_, e6, q6_, h6_⟩ := hd 6 (memB_mem.1 rfl) (hfl 16 (by simp) (memB_mem.1 rfl))
              change val 6 = _ at e6
              have e7 : val 7 = .slice (some ⟨bw, ow, none⟩) l.length cw := hd 7 (memB_mem.1 rfl)
              have ha := ha.sub (Sub.ins (d := 53) (Sub.ins (d := 52) (Sub.nil _) (dep_get rfl e6)) (dep_get rfl e7))
              exact ss_copy pass_elem2 ha rfl rfl rfl q6_ h6_ (hwy.below ((Below.on hbw hb hbw.size).mono hB)) (passesC_one _) (by omega) rfl hb.size rfl (fun v' w' ho => fun _ => ⟨_, rfl, ho⟩)
            | 9, _ =>
              intro val fl w1 a hb ha hd hfl
              obtain ⟨a2_, b2_, vs2_, e2, q2_⟩ := hd 2 (memB_mem.1 rfl) (hfl 16 (by simp) (memB_mem.1 rfl))
              obtain ⟨v5_, ss5_, e5, q5_⟩ := hd 5 (memB_mem.1 rfl) (hfl 16 (by simp) (memB_mem.1 rfl))
              obtain ⟨v8_, e8, q8_⟩ := hd 8 (memB_mem.1 rfl) (hfl 16 (by simp) (memB_mem.1 rfl))
              have ha := ha.sub (Sub.ins (d := 54) (Sub.ins (d := 51) (Sub.ins (d := 48) (Sub.nil _) (dep_get rfl e2)) (dep_get rfl e5)) (dep_get rfl e8))
              refine ss_call ha rfl rfl (cl_51 rfl rfl rfl) (shallow_good rv sides _ _ _ _ _ l _ _ w1.heap.size q2_ q5_ (Nat.le_refl _) (Rd.of_own q8_) hfine hst hway) rfl ?_
              rintro e w' ⟨rfl, hb'⟩
              exact ⟨_, rfl, hb', rfl⟩
            | 10, _ =>
              intro val fl w1 a hb ha hd hfl
              have e9 : val 9 = .tuple #[.agg #[.int .i64 (shUp rv sides l l.length).lo, .int .i64 (shUp rv sides l l.length).hi], .int .i64 (shUp rv sides l l.length).pass, .int .i64 (shUp rv sides l l.length).hour, .int .i64 0] := hd 9 (memB_mem.1 rfl)
              have ha := ha.sub (Sub.ins (d := 55) (Sub.nil _) (dep_get rfl e9))
              exact ss_val ha rfl rfl (x_move rfl) rfl rfl
            | 11, _ =>
              intro val fl w1 a hb ha hd hfl
              have e10 : val 10 = .tuple #[.agg #[.int .i64 (shUp rv sides l l.length).lo, .int .i64 (shUp rv sides l l.length).hi], .int .i64 (shUp rv sides l l.length).pass, .int .i64 (shUp rv sides l l.length).hour, .int .i64 0] := hd 10 (memB_mem.1 rfl)
              have ha := ha.sub (Sub.ins (d := 45) (Sub.nil _) (dep_get rfl e10))
              exact ss_val ha rfl rfl (x_extract rfl rfl) rfl rfl
            | 12, _ =>
              intro val fl w1 a hb ha hd hfl
              have e10 : val 10 = .tuple #[.agg #[.int .i64 (shUp rv sides l l.length).lo, .int .i64 (shUp rv sides l l.length).hi], .int .i64 (shUp rv sides l l.length).pass, .int .i64 (shUp rv sides l l.length).hour, .int .i64 0] := hd 10 (memB_mem.1 rfl)
              have ha := ha.sub (Sub.ins (d := 45) (Sub.nil _) (dep_get rfl e10))
              exact ss_val ha rfl rfl (x_extract rfl rfl) rfl rfl
            | 13, _ =>
              intro val fl w1 a hb ha hd hfl
              have e10 : val 10 = .tuple #[.agg #[.int .i64 (shUp rv sides l l.length).lo, .int .i64 (shUp rv sides l l.length).hi], .int .i64 (shUp rv sides l l.length).pass, .int .i64 (shUp rv sides l l.length).hour, .int .i64 0] := hd 10 (memB_mem.1 rfl)
              have ha := ha.sub (Sub.ins (d := 45) (Sub.nil _) (dep_get rfl e10))
              exact ss_val ha rfl rfl (x_extract rfl rfl) rfl rfl
            | 14, _ =>
              intro val fl w1 a hb ha hd hfl
              have e10 : val 10 = .tuple #[.agg #[.int .i64 (shUp rv sides l l.length).lo, .int .i64 (shUp rv sides l l.length).hi], .int .i64 (shUp rv sides l l.length).pass, .int .i64 (shUp rv sides l l.length).hour, .int .i64 0] := hd 10 (memB_mem.1 rfl)
              have ha := ha.sub (Sub.ins (d := 45) (Sub.nil _) (dep_get rfl e10))
              exact ss_val ha rfl rfl (x_extract rfl rfl) rfl rfl
            | 15, _ =>
              intro val fl w1 a hb ha hd hfl
              have ha := ha.sub (Sub.nil _)
              exact ss_newP ha rfl rfl al_23 (fun g w' hq _ hge => ⟨g, rfl, Nat.le_trans hb.size hge, fun _ => hq⟩)
            | 16, _ =>
              exact absurd (by simp) hs_
            | 17, _ =>
              intro val fl w1 a hb ha hd hfl
              have e12 : val 12 = .int .i64 (shUp rv sides l l.length).pass := hd 12 (memB_mem.1 rfl)
              have ha := ha.sub (Sub.ins (d := 57) (Sub.nil _) (dep_get rfl e12))
              exact ss_val ha rfl rfl (x_assign rfl) rfl rfl
            | 18, _ =>
              intro val fl w1 a hb ha hd hfl
              have e13 : val 13 = .int .i64 (shUp rv sides l l.length).hour := hd 13 (memB_mem.1 rfl)
              have ha := ha.sub (Sub.ins (d := 58) (Sub.nil _) (dep_get rfl e13))
              exact ss_val ha rfl rfl (x_assign rfl) rfl rfl
            | k + 19, h => exact absurd h (by omega)
          · simp only [List.mem_singleton] at hi_; subst hi_
            intro val fl w1 a hb hfi ha hd hfl
            obtain ⟨g15_, e15, hg15_, q15_⟩ := hd 15 (memB_mem.1 rfl)
            change val 15 = _ at e15
            have e11 : val 11 = .agg #[.int .i64 (shUp rv sides l l.length).lo, .int .i64 (shUp rv sides l l.length).hi] := hd 11 (memB_mem.1 rfl)
            have ha := ha.sub (Sub.ins (d := 56) (Sub.ins (d := 7) (Sub.nil _) (dep_get rfl e15)) (dep_get rfl e11))
            refine ts_store ha rfl rfl rfl (q15_ hfi) sz_23 rfl rfl rfl rfl ?_
            intro w' hq hgr
            refine ⟨undef, rfl, hgr.size, below_store hb hgr hg15_, ⟨g15_, e15, hq⟩, fun j _ hj hn hA => ?_⟩
            exact phiS_cons_st (C := fun j => j ≠ 16 ∧ 16 ∉ clsAt [[], [0], [0, 1], [], [3], [0, 1, 2, 3, 4], [], [], [0, 1, 2, 3, 4, 5, 6, 7], [0, 1, 2, 3, 4, 5, 6, 7, 8], [0, 1, 2, 3, 4, 5, 6, 7, 8, 9], [0, 1, 2, 3, 4, 5, 6, 7, 8, 9, 10], [0, 1, 2, 3, 4, 5, 6, 7, 8, 9, 10], [0, 1, 2, 3, 4, 5, 6, 7, 8, 9, 10], [0, 1, 2, 3, 4, 5, 6, 7, 8, 9, 10], [], [0, 1, 2, 3, 4, 5, 6, 7, 8, 9, 10, 11, 15], [0, 1, 2, 3, 4, 5, 6, 7, 8, 9, 10, 11, 12, 15, 16], [0, 1, 2, 3, 4, 5, 6, 7, 8, 9, 10, 11, 12, 13, 15, 16, 17], [0, 1, 2, 3, 4, 5, 6, 7, 8, 9, 10, 11, 12, 13, 14, 15, 16, 17, 18]] j ∧ ∀ p ∈ [15], (p = j ∨ p ∈ clsAt [[], [0], [0, 1], [], [3], [0, 1, 2, 3, 4], [], [], [0, 1, 2, 3, 4, 5, 6, 7], [0, 1, 2, 3, 4, 5, 6, 7, 8], [0, 1, 2, 3, 4, 5, 6, 7, 8, 9], [0, 1, 2, 3, 4, 5, 6, 7, 8, 9, 10], [0, 1, 2, 3, 4, 5, 6, 7, 8, 9, 10], [0, 1, 2, 3, 4, 5, 6, 7, 8, 9, 10], [0, 1, 2, 3, 4, 5, 6, 7, 8, 9, 10], [], [0, 1, 2, 3, 4, 5, 6, 7, 8, 9, 10, 11, 15], [0, 1, 2, 3, 4, 5, 6, 7, 8, 9, 10, 11, 12, 15, 16], [0, 1, 2, 3, 4, 5, 6, 7, 8, 9, 10, 11, 12, 13, 15, 16, 17], [0, 1, 2, 3, 4, 5, 6, 7, 8, 9, 10, 11, 12, 13, 14, 15, 16, 17, 18]] j) → ∀ q ∈ [15], (q = 16 ∨ q ∈ clsAt [[], [0], [0, 1], [], [3], [0, 1, 2, 3, 4], [], [], [0, 1, 2, 3, 4, 5, 6, 7], [0, 1, 2, 3, 4, 5, 6, 7, 8], [0, 1, 2, 3, 4, 5, 6, 7, 8, 9], [0, 1, 2, 3, 4, 5, 6, 7, 8, 9, 10], [0, 1, 2, 3, 4, 5, 6, 7, 8, 9, 10], [0, 1, 2, 3, 4, 5, 6, 7, 8, 9, 10], [0, 1, 2, 3, 4, 5, 6, 7, 8, 9, 10], [], [0, 1, 2, 3, 4, 5, 6, 7, 8, 9, 10, 11, 15], [0, 1, 2, 3, 4, 5, 6, 7, 8, 9, 10, 11, 12, 15, 16], [0, 1, 2, 3, 4, 5, 6, 7, 8, 9, 10, 11, 12, 13, 15, 16, 17], [0, 1, 2, 3, 4, 5, 6, 7, 8, 9, 10, 11, 12, 13, 14, 15, 16, 17, 18]] 16) → p ≠ q → val p ≠ val q) (fun _ _ h => by rw [fset_eq] at h; cases h) (phiS_cons_st (C := fun j => j ≠ 16 ∧ 16 ∉ clsAt [[], [0], [0, 1], [], [3], [0, 1, 2, 3, 4], [], [], [0, 1, 2, 3, 4, 5, 6, 7], [0, 1, 2, 3, 4, 5, 6, 7, 8], [0, 1, 2, 3, 4, 5, 6, 7, 8, 9], [0, 1, 2, 3, 4, 5, 6, 7, 8, 9, 10], [0, 1, 2, 3, 4, 5, 6, 7, 8, 9, 10], [0, 1, 2, 3, 4, 5, 6, 7, 8, 9, 10], [0, 1, 2, 3, 4, 5, 6, 7, 8, 9, 10], [], [0, 1, 2, 3, 4, 5, 6, 7, 8, 9, 10, 11, 15], [0, 1, 2, 3, 4, 5, 6, 7, 8, 9, 10, 11, 12, 15, 16], [0, 1, 2, 3, 4, 5, 6, 7, 8, 9, 10, 11, 12, 13, 15, 16, 17], [0, 1, 2, 3, 4, 5, 6, 7, 8, 9, 10, 11, 12, 13, 14, 15, 16, 17, 18]] j ∧ ∀ p ∈ [15], (p = j ∨ p ∈ clsAt [[], [0], [0, 1], [], [3], [0, 1, 2, 3, 4], [], [], [0, 1, 2, 3, 4, 5, 6, 7], [0, 1, 2, 3, 4, 5, 6, 7, 8], [0, 1, 2, 3, 4, 5, 6, 7, 8, 9], [0, 1, 2, 3, 4, 5, 6, 7, 8, 9, 10], [0, 1, 2, 3, 4, 5, 6, 7, 8, 9, 10], [0, 1, 2, 3, 4, 5, 6, 7, 8, 9, 10], [0, 1, 2, 3, 4, 5, 6, 7, 8, 9, 10], [], [0, 1, 2, 3, 4, 5, 6, 7, 8, 9, 10, 11, 15], [0, 1, 2, 3, 4, 5, 6, 7, 8, 9, 10, 11, 12, 15, 16], [0, 1, 2, 3, 4, 5, 6, 7, 8, 9, 10, 11, 12, 13, 15, 16, 17], [0, 1, 2, 3, 4, 5, 6, 7, 8, 9, 10, 11, 12, 13, 14, 15, 16, 17, 18]] j) → ∀ q ∈ [15], (q = 16 ∨ q ∈ clsAt [[], [0], [0, 1], [], [3], [0, 1, 2, 3, 4], [], [], [0, 1, 2, 3, 4, 5, 6, 7], [0, 1, 2, 3, 4, 5, 6, 7, 8], [0, 1, 2, 3, 4, 5, 6, 7, 8, 9], [0, 1, 2, 3, 4, 5, 6, 7, 8, 9, 10], [0, 1, 2, 3, 4, 5, 6, 7, 8, 9, 10], [0, 1, 2, 3, 4, 5, 6, 7, 8, 9, 10], [0, 1, 2, 3, 4, 5, 6, 7, 8, 9, 10], [], [0, 1, 2, 3, 4, 5, 6, 7, 8, 9, 10, 11, 15], [0, 1, 2, 3, 4, 5, 6, 7, 8, 9, 10, 11, 12, 15, 16], [0, 1, 2, 3, 4, 5, 6, 7, 8, 9, 10, 11, 12, 13, 15, 16, 17], [0, 1, 2, 3, 4, 5, 6, 7, 8, 9, 10, 11, 12, 13, 14, 15, 16, 17, 18]] 16) → p ≠ q → val p ≠ val q) (fun _ _ h => by rw [fset_eq] at h; cases h) (phiS_cons_st (C := fun j => j ≠ 16 ∧ 16 ∉ clsAt [[], [0], [0, 1], [], [3], [0, 1, 2, 3, 4], [], [], [0, 1, 2, 3, 4, 5, 6, 7], [0, 1, 2, 3, 4, 5, 6, 7, 8], [0, 1, 2, 3, 4, 5, 6, 7, 8, 9], [0, 1, 2, 3, 4, 5, 6, 7, 8, 9, 10], [0, 1, 2, 3, 4, 5, 6, 7, 8, 9, 10], [0, 1, 2, 3, 4, 5, 6, 7, 8, 9, 10], [0, 1, 2, 3, 4, 5, 6, 7, 8, 9, 10], [], [0, 1, 2, 3, 4, 5, 6, 7, 8, 9, 10, 11, 15], [0, 1, 2, 3, 4, 5, 6, 7, 8, 9, 10, 11, 12, 15, 16], [0, 1, 2, 3, 4, 5, 6, 7, 8, 9, 10, 11, 12, 13, 15, 16, 17], [0, 1, 2, 3, 4, 5, 6, 7, 8, 9, 10, 11, 12, 13, 14, 15, 16, 17, 18]] j ∧ ∀ p ∈ [15], (p = j ∨ p ∈ clsAt [[], [0], [0, 1], [], [3], [0, 1, 2, 3, 4], [], [], [0, 1, 2, 3, 4, 5, 6, 7], [0, 1, 2, 3, 4, 5, 6, 7, 8], [0, 1, 2, 3, 4, 5, 6, 7, 8, 9], [0, 1, 2, 3, 4, 5, 6, 7, 8, 9, 10], [0, 1, 2, 3, 4, 5, 6, 7, 8, 9, 10], [0, 1, 2, 3, 4, 5, 6, 7, 8, 9, 10], [0, 1, 2, 3, 4, 5, 6, 7, 8, 9, 10], [], [0, 1, 2, 3, 4, 5, 6, 7, 8, 9, 10, 11, 15], [0, 1, 2, 3, 4, 5, 6, 7, 8, 9, 10, 11, 12, 15, 16], [0, 1, 2, 3, 4, 5, 6, 7, 8, 9, 10, 11, 12, 13, 15, 16, 17], [0, 1, 2, 3, 4, 5, 6, 7, 8, 9, 10, 11, 12, 13, 14, 15, 16, 17, 18]] j) → ∀ q ∈ [15], (q = 16 ∨ q ∈ clsAt [[], [0], [0, 1], [], [3], [0, 1, 2, 3, 4], [], [], [0, 1, 2, 3, 4, 5, 6, 7], [0, 1, 2, 3, 4, 5, 6, 7, 8], [0, 1, 2, 3, 4, 5, 6, 7, 8, 9], [0, 1, 2, 3, 4, 5, 6, 7, 8, 9, 10], [0, 1, 2, 3, 4, 5, 6, 7, 8, 9, 10], [0, 1, 2, 3, 4, 5, 6, 7, 8, 9, 10], [0, 1, 2, 3, 4, 5, 6, 7, 8, 9, 10], [], [0, 1, 2, 3, 4, 5, 6, 7, 8, 9, 10, 11, 15], [0, 1, 2, 3, 4, 5, 6, 7, 8, 9, 10, 11, 12, 15, 16], [0, 1, 2, 3, 4, 5, 6, 7, 8, 9, 10, 11, 12, 13, 15, 16, 17], [0, 1, 2, 3, 4, 5, 6, 7, 8, 9, 10, 11, 12, 13, 14, 15, 16, 17, 18]] 16) → p ≠ q → val p ≠ val q) (fun _ _ h => by rw [fset_eq] at h; cases h) (phiS_cons_st (C := fun j => j ≠ 16 ∧ 16 ∉ clsAt [[], [0], [0, 1], [], [3], [0, 1, 2, 3, 4], [], [], [0, 1, 2, 3, 4, 5, 6, 7], [0, 1, 2, 3, 4, 5, 6, 7, 8], [0, 1, 2, 3, 4, 5, 6, 7, 8, 9], [0, 1, 2, 3, 4, 5, 6, 7, 8, 9, 10], [0, 1, 2, 3, 4, 5, 6, 7, 8, 9, 10], [0, 1, 2, 3, 4, 5, 6, 7, 8, 9, 10], [0, 1, 2, 3, 4, 5, 6, 7, 8, 9, 10], [], [0, 1, 2, 3, 4, 5, 6, 7, 8, 9, 10, 11, 15], [0, 1, 2, 3, 4, 5, 6, 7, 8, 9, 10, 11, 12, 15, 16], [0, 1, 2, 3, 4, 5, 6, 7, 8, 9, 10, 11, 12, 13, 15, 16, 17], [0, 1, 2, 3, 4, 5, 6, 7, 8, 9, 10, 11, 12, 13, 14, 15, 16, 17, 18]] j ∧ ∀ p ∈ [15], (p = j ∨ p ∈ clsAt [[], [0], [0, 1], [], [3], [0, 1, 2, 3, 4], [], [], [0, 1, 2, 3, 4, 5, 6, 7], [0, 1, 2, 3, 4, 5, 6, 7, 8], [0, 1, 2, 3, 4, 5, 6, 7, 8, 9], [0, 1, 2, 3, 4, 5, 6, 7, 8, 9, 10], [0, 1, 2, 3, 4, 5, 6, 7, 8, 9, 10], [0, 1, 2, 3, 4, 5, 6, 7, 8, 9, 10], [0, 1, 2, 3, 4, 5, 6, 7, 8, 9, 10], [], [0, 1, 2, 3, 4, 5, 6, 7, 8, 9, 10, 11, 15], [0, 1, 2, 3, 4, 5, 6, 7, 8, 9, 10, 11, 12, 15, 16], [0, 1, 2, 3, 4, 5, 6, 7, 8, 9, 10, 11, 12, 13, 15, 16, 17], [0, 1, 2, 3, 4, 5, 6, 7, 8, 9, 10, 11, 12, 13, 14, 15, 16, 17, 18]] j) → ∀ q ∈ [15], (q = 16 ∨ q ∈ clsAt [[], [0], [0, 1], [], [3], [0, 1, 2, 3, 4], [], [], [0, 1, 2, 3, 4, 5, 6, 7], [0, 1, 2, 3, 4, 5, 6, 7, 8], [0, 1, 2, 3, 4, 5, 6, 7, 8, 9], [0, 1, 2, 3, 4, 5, 6, 7, 8, 9, 10], [0, 1, 2, 3, 4, 5, 6, 7, 8, 9, 10], [0, 1, 2, 3, 4, 5, 6, 7, 8, 9, 10], [0, 1, 2, 3, 4, 5, 6, 7, 8, 9, 10], [], [0, 1, 2, 3, 4, 5, 6, 7, 8, 9, 10, 11, 15], [0, 1, 2, 3, 4, 5, 6, 7, 8, 9, 10, 11, 12, 15, 16], [0, 1, 2, 3, 4, 5, 6, 7, 8, 9, 10, 11, 12, 13, 15, 16, 17], [0, 1, 2, 3, 4, 5, 6, 7, 8, 9, 10, 11, 12, 13, 14, 15, 16, 17, 18]] 16) → p ≠ q → val p ≠ val q) (fun _ _ h => by rw [fset_eq] at h; cases h) (phiS_cons_st (C := fun j => j ≠ 16 ∧ 16 ∉ clsAt [[], [0], [0, 1], [], [3], [0, 1, 2, 3, 4], [], [], [0, 1, 2, 3, 4, 5, 6, 7], [0, 1, 2, 3, 4, 5, 6, 7, 8], [0, 1, 2, 3, 4, 5, 6, 7, 8, 9], [0, 1, 2, 3, 4, 5, 6, 7, 8, 9, 10], [0, 1, 2, 3, 4, 5, 6, 7, 8, 9, 10], [0, 1, 2, 3, 4, 5, 6, 7, 8, 9, 10], [0, 1, 2, 3, 4, 5, 6, 7, 8, 9, 10], [], [0, 1, 2, 3, 4, 5, 6, 7, 8, 9, 10, 11, 15], [0, 1, 2, 3, 4, 5, 6, 7, 8, 9, 10, 11, 12, 15, 16], [0, 1, 2, 3, 4, 5, 6, 7, 8, 9, 10, 11, 12, 13, 15, 16, 17], [0, 1, 2, 3, 4, 5, 6, 7, 8, 9, 10, 11, 12, 13, 14, 15, 16, 17, 18]] j ∧ ∀ p ∈ [15], (p = j ∨ p ∈ clsAt [[], [0], [0, 1], [], [3], [0, 1, 2, 3, 4], [], [], [0, 1, 2, 3, 4, 5, 6, 7], [0, 1, 2, 3, 4, 5, 6, 7, 8], [0, 1, 2, 3, 4, 5, 6, 7, 8, 9], [0, 1, 2, 3, 4, 5, 6, 7, 8, 9, 10], [0, 1, 2, 3, 4, 5, 6, 7, 8, 9, 10], [0, 1, 2, 3, 4, 5, 6, 7, 8, 9, 10], [0, 1, 2, 3, 4, 5, 6, 7, 8, 9, 10], [], [0, 1, 2, 3, 4, 5, 6, 7, 8, 9, 10, 11, 15], [0, 1, 2, 3, 4, 5, 6, 7, 8, 9, 10, 11, 12, 15, 16], [0, 1, 2, 3, 4, 5, 6, 7, 8, 9, 10, 11, 12, 13, 15, 16, 17], [0, 1, 2, 3, 4, 5, 6, 7, 8, 9, 10, 11, 12, 13, 14, 15, 16, 17, 18]] j) → ∀ q ∈ [15], (q = 16 ∨ q ∈ clsAt [[], [0], [0, 1], [], [3], [0, 1, 2, 3, 4], [], [], [0, 1, 2, 3, 4, 5, 6, 7], [0, 1, 2, 3, 4, 5, 6, 7, 8], [0, 1, 2, 3, 4, 5, 6, 7, 8, 9], [0, 1, 2, 3, 4, 5, 6, 7, 8, 9, 10], [0, 1, 2, 3, 4, 5, 6, 7, 8, 9, 10], [0, 1, 2, 3, 4, 5, 6, 7, 8, 9, 10], [0, 1, 2, 3, 4, 5, 6, 7, 8, 9, 10], [], [0, 1, 2, 3, 4, 5, 6, 7, 8, 9, 10, 11, 15], [0, 1, 2, 3, 4, 5, 6, 7, 8, 9, 10, 11, 12, 15, 16], [0, 1, 2, 3, 4, 5, 6, 7, 8, 9, 10, 11, 12, 13, 15, 16, 17], [0, 1, 2, 3, 4, 5, 6, 7, 8, 9, 10, 11, 12, 13, 14, 15, 16, 17, 18]] 16) → p ≠ q → val p ≠ val q) (fun _ ⟨g, h1, h2, _⟩ => ⟨g, h1, h2, fun h => by rw [fset_eq] at h; cases h⟩) (phiS_cons_st (C := fun j => j ≠ 16 ∧ 16 ∉ clsAt [[], [0], [0, 1], [], [3], [0, 1, 2, 3, 4], [], [], [0, 1, 2, 3, 4, 5, 6, 7], [0, 1, 2, 3, 4, 5, 6, 7, 8], [0, 1, 2, 3, 4, 5, 6, 7, 8, 9], [0, 1, 2, 3, 4, 5, 6, 7, 8, 9, 10], [0, 1, 2, 3, 4, 5, 6, 7, 8, 9, 10], [0, 1, 2, 3, 4, 5, 6, 7, 8, 9, 10], [0, 1, 2, 3, 4, 5, 6, 7, 8, 9, 10], [], [0, 1, 2, 3, 4, 5, 6, 7, 8, 9, 10, 11, 15], [0, 1, 2, 3, 4, 5, 6, 7, 8, 9, 10, 11, 12, 15, 16], [0, 1, 2, 3, 4, 5, 6, 7, 8, 9, 10, 11, 12, 13, 15, 16, 17], [0, 1, 2, 3, 4, 5, 6, 7, 8, 9, 10, 11, 12, 13, 14, 15, 16, 17, 18]] j ∧ ∀ p ∈ [15], (p = j ∨ p ∈ clsAt [[], [0], [0, 1], [], [3], [0, 1, 2, 3, 4], [], [], [0, 1, 2, 3, 4, 5, 6, 7], [0, 1, 2, 3, 4, 5, 6, 7, 8], [0, 1, 2, 3, 4, 5, 6, 7, 8, 9], [0, 1, 2, 3, 4, 5, 6, 7, 8, 9, 10], [0, 1, 2, 3, 4, 5, 6, 7, 8, 9, 10], [0, 1, 2, 3, 4, 5, 6, 7, 8, 9, 10], [0, 1, 2, 3, 4, 5, 6, 7, 8, 9, 10], [], [0, 1, 2, 3, 4, 5, 6, 7, 8, 9, 10, 11, 15], [0, 1, 2, 3, 4, 5, 6, 7, 8, 9, 10, 11, 12, 15, 16], [0, 1, 2, 3, 4, 5, 6, 7, 8, 9, 10, 11, 12, 13, 15, 16, 17], [0, 1, 2, 3, 4, 5, 6, 7, 8, 9, 10, 11, 12, 13, 14, 15, 16, 17, 18]] j) → ∀ q ∈ [15], (q = 16 ∨ q ∈ clsAt [[], [0], [0, 1], [], [3], [0, 1, 2, 3, 4], [], [], [0, 1, 2, 3, 4, 5, 6, 7], [0, 1, 2, 3, 4, 5, 6, 7, 8], [0, 1, 2, 3, 4, 5, 6, 7, 8, 9], [0, 1, 2, 3, 4, 5, 6, 7, 8, 9, 10], [0, 1, 2, 3, 4, 5, 6, 7, 8, 9, 10], [0, 1, 2, 3, 4, 5, 6, 7, 8, 9, 10], [0, 1, 2, 3, 4, 5, 6, 7, 8, 9, 10], [], [0, 1, 2, 3, 4, 5, 6, 7, 8, 9, 10, 11, 15], [0, 1, 2, 3, 4, 5, 6, 7, 8, 9, 10, 11, 12, 15, 16], [0, 1, 2, 3, 4, 5, 6, 7, 8, 9, 10, 11, 12, 13, 15, 16, 17], [0, 1, 2, 3, 4, 5, 6, 7, 8, 9, 10, 11, 12, 13, 14, 15, 16, 17, 18]] 16) → p ≠ q → val p ≠ val q) (fun hc => absurd rfl hc.1) (fun _ _ h => h)))))) j ⟨hj, hn, hA⟩
          · intro val fl wR3 hfl hb halc hd
            have e0 : val 0 = .pointer (some ⟨g1, 0, none⟩) := hd 0 (by omega)
            have e1 : val 1 = .agg #[.slice A rv.reaches.length c, .slice A' rv.shoals.length c'] := hd 1 (by omega)
            have e3 : val 3 = .pointer (some ⟨g1, 2, none⟩) := hd 3 (by omega)
            have e4 : val 4 = .slice (some ⟨bS, oS, none⟩) sides.length d := hd 4 (by omega)
            have e7 : val 7 = .slice (some ⟨bw, ow, none⟩) l.length cw := hd 7 (by omega)
            have e9 : val 9 = .tuple #[.agg #[.int .i64 (shUp rv sides l l.length).lo, .int .i64 (shUp rv sides l l.length).hi], .int .i64 (shUp rv sides l l.length).pass, .int .i64 (shUp rv sides l l.length).hour, .int .i64 0] := hd 9 (by omega)
            have e10 : val 10 = .tuple #[.agg #[.int .i64 (shUp rv sides l l.length).lo, .int .i64 (shUp rv sides l l.length).hi], .int .i64 (shUp rv sides l l.length).pass, .int .i64 (shUp rv sides l l.length).hour, .int .i64 0] := hd 10 (by omega)
            have e11 : val 11 = .agg #[.int .i64 (shUp rv sides l l.length).lo, .int .i64 (shUp rv sides l l.length).hi] := hd 11 (by omega)
            have e12 : val 12 = .int .i64 (shUp rv sides l l.length).pass := hd 12 (by omega)
            have e13 : val 13 = .int .i64 (shUp rv sides l l.length).hour := hd 13 (by omega)
            have e14 : val 14 = .int .i64 0 := hd 14 (by omega)
            obtain ⟨ga15_3, e15, qa15_3⟩ := hd 16 (by omega)
            change val 15 = _ at e15
            have e17 : val 17 = .int .i64 (shUp rv sides l l.length).pass := hd 17 (by omega)
            have e18 : val 18 = .int .i64 (shUp rv sides l l.length).hour := hd 18 (by omega)
            refine EL.ends (cs := [.pointer (some ⟨g1, 0, none⟩), .agg #[.slice A rv.reaches.length c, .slice A' rv.shoals.length c'], val 2, .pointer (some ⟨g1, 2, none⟩), .slice (some ⟨bS, oS, none⟩) sides.length d, val 5, val 6, .slice (some ⟨bw, ow, none⟩) l.length cw, val 8, .tuple #[.agg #[.int .i64 (shUp rv sides l l.length).lo, .int .i64 (shUp rv sides l l.length).hi], .int .i64 (shUp rv sides l l.length).pass, .int .i64 (shUp rv sides l l.length).hour, .int .i64 0], .tuple #[.agg #[.int .i64 (shUp rv sides l l.length).lo, .int .i64 (shUp rv sides l l.length).hi], .int .i64 (shUp rv sides l l.length).pass, .int .i64 (shUp rv sides l l.length).hour, .int .i64 0], .agg #[.int .i64 (shUp rv sides l l.length).lo, .int .i64 (shUp rv sides l l.length).hi], .int .i64 (shUp rv sides l l.length).pass, .int .i64 (shUp rv sides l l.length).hour, .int .i64 0, .pointer (some ⟨ga15_3, 0, none⟩), val 16, .int .i64 (shUp rv sides l l.length).pass, .int .i64 (shUp rv sides l l.length).hour]) ⟨e0, e1, rfl, e3, e4, rfl, rfl, e7, rfl, e9, e10, e11, e12, e13, e14, e15, rfl, e17, e18, trivial⟩ rfl ?_
            replace q1 := q1.below hb q1.lt
            have bge5 := alc_ge halc (i := 15) rfl rfl e15
            have n1_5 : g1 ≠ ga15_3 := Nat.ne_of_lt (Nat.lt_of_lt_of_le lt_1 bge5)
            have bhbw_5 := Nat.le_trans hbw.size bge5
            replace hbw := Below.on hbw hb hbw.size
            refine EL.val (x_assign rfl) rfl ?_
            refine EL.nil ?_
            refine EX.seq ?_
            refine EC.seq ?_
            refine EC.seq ?_
            refine EC.region ?_
            refine EL.val (x_move rfl) rfl ?_
            rw [bp1, bp2]
            refine EL.val (x_neq rfl rfl (by first | assumption | exact decide_eq_false (by omega))) rfl ?_
            refine EL.nil ?_
            refine EX.seq ?_
            refine EC.no rfl ?_
            refine EC.skip ?_
            refine EX.seq ?_
            refine EC.seq ?_
            refine EC.seq ?_
            refine EC.region ?_
            refine EL.val (x_move rfl) rfl ?_
            refine EL.val (x_lss rfl rfl (by first | assumption | exact decide_eq_false (by omega))) rfl ?_
            refine EL.val (x_move rfl) rfl ?_
            refine EL.valg rfl rfl (x_move rfl) rfl ?_
            refine EL.valg rfl rfl (x_move rfl) rfl ?_
            refine EL.valg rfl rfl (ln_99 rfl) rfl ?_
            refine EL.valg rfl rfl (x_geq rfl rfl (by first | assumption | exact decide_eq_false (by omega))) rfl ?_
            refine EL.val (x_pick_f rfl rfl) rfl ?_
            refine EL.val (x_move rfl) rfl ?_
            refine EL.valg rfl rfl (x_move rfl) rfl ?_
            refine EL.valg rfl rfl (x_move rfl) rfl ?_
            refine EL.valg rfl rfl (ix_99 (k := pi) rfl rfl hpi) rfl ?_
            refine EL.valg rfl rfl (fa_101_1 rfl) rfl ?_
            refine EL.valg rfl rfl (ld_23 rfl (below_load hbw hpc1.c1) (below_load hbw hpc1.c2)) rfl ?_
            refine EL.valg rfl rfl (x_move rfl) rfl ?_
            refine EL.callg rfl rfl (cl_54 rfl rfl) rfl (in_true (l.getD pi pass0).hours _ _ (by omega) (by omega)) ?_
            rintro e w6 ⟨rfl, hc6⟩
            refine ⟨_, rfl, ?_⟩
            replace q1 := q1.below hc6 q1.lt
            replace qa15_3 := qa15_3.below hc6 qa15_3.lt
            replace hbw := Below.on hbw hc6 hbw.size
            clear hc6
            refine EL.valg rfl rfl (x_not rfl) rfl ?_
            refine EL.val (x_pick_f rfl rfl) rfl ?_
            refine EL.val (x_move rfl) rfl ?_
            refine EL.valg rfl rfl (fa_23_0 rfl) rfl ?_
            refine EL.valg rfl rfl (ld_3 rfl (qa15_3.at (j := 0) rfl)) rfl ?_
            refine EL.valg rfl rfl (x_lss rfl rfl (by first | assumption | exact decide_eq_false (by omega))) rfl ?_
            refine EL.val (x_pick_f rfl rfl) rfl ?_
            refine EL.val (x_move rfl) rfl ?_
            refine EL.valg rfl rfl (fa_23_0 rfl) rfl ?_
            refine EL.valg rfl rfl (ld_3 rfl (qa15_3.at (j := 0) rfl)) rfl ?_
            refine EL.valg rfl rfl (fa_23_1 rfl) rfl ?_
            refine EL.valg rfl rfl (ld_3 rfl (qa15_3.at (j := 1) rfl)) rfl ?_
            refine EL.valg rfl rfl (x_gtr rfl rfl (by first | assumption | exact decide_eq_false (by omega))) rfl ?_
            refine EL.val (x_pick_f rfl rfl) rfl ?_
            refine EL.nil ?_
            refine EX.seq ?_
            refine EC.no rfl ?_
            refine EC.skip ?_
            refine EX.seq ?_
            refine EC.seq ?_
            have lt_1 := q1.lt
            have lt_5 := qa15_3.lt
            refine EC.regionS [[], [0], [0, 1], [], [3], [0, 1, 2, 3, 4], [], [], [6, 7], [6, 7, 8], [6, 7, 8, 9], [], [0, 1, 2, 3, 4, 5, 6, 7, 8, 9, 10, 11], [0, 1, 2, 3, 4, 5, 6, 7, 8, 9, 10, 11, 12], [0, 1, 2, 3, 4, 5, 6, 7, 8, 9, 10, 11, 12, 13], [0, 1, 2, 3, 4, 5, 6, 7, 8, 9, 10, 11, 12, 13], [], [0, 1, 2, 3, 4, 5, 6, 7, 8, 9, 10, 11, 12, 13, 14, 16], [0, 1, 2, 3, 4, 5, 6, 7, 8, 9, 10, 11, 12, 13, 14, 15, 16, 17]] 18 [16] [17] (fun _ w_ => Below w6.heap.size w6 w_) (phiS (fun i_ r => match i_ with | 0 => r 0 = .pointer (some ⟨g1, 0, none⟩) | 1 => r 1 = .agg #[.slice A rv.reaches.length c, .slice A' rv.shoals.length c'] | 3 => r 3 = .pointer (some ⟨g1, 2, none⟩) | 4 => r 4 = .slice (some ⟨bS, oS, none⟩) sides.length d | 6 => r 6 = .slice (some ⟨bw, ow, none⟩) l.length cw | 7 => r 7 = .int .i64 (pi : Nat) | 8 => r 8 = .pointer (some ⟨bw, ow + pi * 3, none⟩) | 9 => r 9 = .pointer (some ⟨bw, ow + pi * 3, none⟩) | 10 => r 10 = .int .i64 (l.getD pi pass0).place | 11 => r 11 = .int .i64 ((l.getD pi pass0).hours.lo + (pm : Nat)) | 12 => r 12 = .tuple #[.agg #[.int .i64 (depthAt rv sides (l.getD pi pass0).place ((l.getD pi pass0).hours.lo + (pm : Nat))).lo, .int .i64 (depthAt rv sides (l.getD pi pass0).place ((l.getD pi pass0).hours.lo + (pm : Nat))).hi], .int .i64 0] | 13 => r 13 = .tuple #[.agg #[.int .i64 (depthAt rv sides (l.getD pi pass0).place ((l.getD pi pass0).hours.lo + (pm : Nat))).lo, .int .i64 (depthAt rv sides (l.getD pi pass0).place ((l.getD pi pass0).hours.lo + (pm : Nat))).hi], .int .i64 0] | 14 => r 14 = .agg #[.int .i64 (depthAt rv sides (l.getD pi pass0).place ((l.getD pi pass0).hours.lo + (pm : Nat))).lo, .int .i64 (depthAt rv sides (l.getD pi pass0).place ((l.getD pi pass0).hours.lo + (pm : Nat))).hi] | 15 => r 15 = .int .i64 0 | _ => True) [(2, fun fl r w_ => fl 17 = false → (∃ a b vs, r 2 = .agg #[a, b] ∧ RdRiver w_ w_.heap.size a b rv vs)), (5, fun fl r w_ => fl 17 = false → (∃ v ss, r 5 = v ∧ RdSides w_ w_.heap.size v sides ss)), (16, fun fl r w_ => ∃ g_, r 16 = .pointer (some ⟨g_, 0, none⟩) ∧ w6.heap.size ≤ g_ ∧ (fl 17 = false → Blk w_ g_ 23 #[.int .i64 0, .int .i64 0])), (17, fun _ r w_ => ∃ g_, r 16 = .pointer (some ⟨g_, 0, none⟩) ∧ Blk w_ g_ 23 #[.int .i64 (depthAt rv sides (l.getD pi pass0).place ((l.getD pi pass0).hours.lo + (pm : Nat))).lo, .int .i64 (depthAt rv sides (l.getD pi pass0).place ((l.getD pi pass0).hours.lo + (pm : Nat))).hi])]) (by kernel_rfl) rfl rfl (by intro i hi; simp at hi; first | (subst hi; exact ⟨by simp, by omega⟩) | (rcases hi with rfl | rfl | rfl <;> exact ⟨by simp, by omega⟩) | (rcases hi with rfl | rfl <;> exact ⟨by simp, by omega⟩)) (base_below w6) (phiS_cons (monoS_till mono_riv) (phiS_cons (monoS_till mono_sid) (phiS_cons monoS_alloc (phiS_cons monoS_store (phiS_nil))))) (fun i_ hi_ hs_ => ?_) (fun i_ hi_ => ?_) ?_
            · match i_, hi_ with
              | 0, _ =>
                intro val fl w1 a hb ha hd hfl
                have ha := ha.sub (Sub.ins (d := 3) (Sub.nil _) rfl)
                exact ss_val ha rfl rfl (fa_54_0 rfl) rfl rfl
              | 1, _ =>
                intro val fl w1 a hb ha hd hfl
                have e0 : val 0 = .pointer (some ⟨g1, 0, none⟩) := hd 0 (memB_mem.1 rfl)
                have ha := ha.sub (Sub.ins (d := 110) (Sub.nil _) (dep_get rfl e0))
                exact ss_val ha rfl rfl (ld_47 rfl ((q1.below hb q1.lt).at (j := 0) rfl) ((q1.below hb q1.lt).at (j := 1) rfl)) rfl rfl
              | 2, _ =>
                intro val fl w1 a hb ha hd hfl
                have e1 : val 1 = .agg #[.slice A rv.reaches.length c, .slice A' rv.shoals.length c'] := hd 1 (memB_mem.1 rfl)
                have ha := ha.sub (Sub.ins (d := 111) (Sub.nil _) (dep_get rfl e1))
                refine ss_call ha rfl rfl (cl_24 rfl) (copied_any rv _ _ vs _ B (hr.below ((Below.on hbw hb hbw.size).mono hB)) (Nat.le_trans hB (Below.on hbw hb hbw.size).size) (by omega) (by omega) f3) rfl ?_
                rintro e w' ⟨⟨v1, u1, vs1, rfl, hcp⟩, hb'⟩
                exact ⟨_, rfl, hb', fun _ => ⟨_, _, _, rfl, hcp⟩⟩
              | 3, _ =>
                intro val fl w1 a hb ha hd hfl
                have ha := ha.sub (Sub.ins (d := 3) (Sub.nil _) rfl)
                exact ss_val ha rfl rfl (fa_54_1 rfl) rfl rfl
              | 4, _ =>
                intro val fl w1 a hb ha hd hfl
                have e3 : val 3 = .pointer (some ⟨g1, 2, none⟩) := hd 3 (memB_mem.1 rfl)
                have ha := ha.sub (Sub.ins (d := 113) (Sub.nil _) (dep_get rfl e3))
                exact ss_val ha rfl rfl (ld_52 rfl ((q1.below hb q1.lt).at (j := 2) rfl)) rfl rfl
              | 5, _ =>
                intro val fl w1 a hb ha hd hfl
                have e4 : val 4 = .slice (some ⟨bS, oS, none⟩) sides.length d := hd 4 (memB_mem.1 rfl)
                have ha := ha.sub (Sub.ins (d := 114) (Sub.nil _) (dep_get rfl e4))
                refine ss_call ha rfl rfl (cl_34 rfl) (forecast_any sides _ ss _ B (hs.below ((Below.on hbw hb hbw.size).mono hB)) (Nat.le_trans hB (Below.on hbw hb hbw.size).size) (by omega) f4) rfl ?_
                rintro e w' ⟨⟨v1, ss1, rfl, hcp⟩, hb'⟩
                exact ⟨_, rfl, hb', fun _ => ⟨_, _, rfl, hcp⟩⟩
              | 6, _ =>
                intro val fl w1 a hb ha hd hfl
                have ha := ha.sub (Sub.ins (d := 1) (Sub.nil _) rfl)
                exact ss_val ha rfl rfl (x_move rfl) rfl rfl
              | 7, _ =>
                intro val fl w1 a hb ha hd hfl
                have ha := ha.sub (Sub.ins (d := 8) (Sub.nil _) rfl)
                exact ss_val ha rfl rfl (x_move rfl) rfl rfl
              | 8, _ =>
                intro val fl w1 a hb ha hd hfl
                have e6 : val 6 = .slice (some ⟨bw, ow, none⟩) l.length cw := hd 6 (memB_mem.1 rfl)
                have e7 : val 7 = .int .i64 (pi : Nat) := hd 7 (memB_mem.1 rfl)
                have ha := ha.sub (Sub.ins (d := 117) (Sub.ins (d := 116) (Sub.nil _) (dep_get rfl e6)) (dep_get rfl e7))
                exact ss_val ha rfl rfl (ix_99 (k := pi) rfl rfl hpi) rfl rfl
              | 9, _ =>
                intro val fl w1 a hb ha hd hfl
                have e8 : val 8 = .pointer (some ⟨bw, ow + pi * 3, none⟩) := hd 8 (memB_mem.1 rfl)
                have ha := ha.sub (Sub.ins (d := 118) (Sub.nil _) (dep_get rfl e8))
                exact ss_val ha rfl rfl (fa_101_0 rfl) rfl rfl
              | 10, _ =>
                intro val fl w1 a hb ha hd hfl
                have e9 : val 9 = .pointer (some ⟨bw, ow + pi * 3, none⟩) := hd 9 (memB_mem.1 rfl)
                have ha := ha.sub (Sub.ins (d := 119) (Sub.nil _) (dep_get rfl e9))
                exact ss_val ha rfl rfl (ld_3 rfl (below_load (Below.on hbw hb hbw.size) hpc1.c0)) rfl rfl
              | 11, _ =>
                intro val fl w1 a hb ha hd hfl
                have ha := ha.sub (Sub.ins (d := 9) (Sub.nil _) rfl)
                exact ss_val ha rfl rfl (x_move rfl) rfl rfl
              | 12, _ =>
                intro val fl w1 a hb ha hd hfl
                obtain ⟨a2_, b2_, vs2_, e2, q2_⟩ := hd 2 (memB_mem.1 rfl) (hfl 17 (by simp) (memB_mem.1 rfl))
                obtain ⟨v5_, ss5_, e5, q5_⟩ := hd 5 (memB_mem.1 rfl) (hfl 17 (by simp) (memB_mem.1 rfl))
                have e10 : val 10 = .int .i64 (l.getD pi pass0).place := hd 10 (memB_mem.1 rfl)
                have e11 : val 11 = .int .i64 ((l.getD pi pass0).hours.lo + (pm : Nat)) := hd 11 (memB_mem.1 rfl)
                have ha := ha.sub (Sub.ins (d := 121) (Sub.ins (d := 120) (Sub.ins (d := 115) (Sub.ins (d := 112) (Sub.nil _) (dep_get rfl e2)) (dep_get rfl e5)) (dep_get rfl e10)) (dep_get rfl e11))
                refine ss_call ha rfl rfl (cl_33 rfl rfl rfl rfl) (dep_good rv sides _ _ _ _ _ _ w1.heap.size q2_ q5_ (Nat.le_refl _) hfine hst hpp (inB_iff.2 (by omega))) rfl ?_
                rintro e w' ⟨rfl, hb'⟩
                exact ⟨_, rfl, hb', rfl⟩
              | 13, _ =>
                intro val fl w1 a hb ha hd hfl
                have e12 : val 12 = .tuple #[.agg #[.int .i64 (depthAt rv sides (l.getD pi pass0).place ((l.getD pi pass0).hours.lo + (pm : Nat))).lo, .int .i64 (depthAt rv sides (l.getD pi pass0).place ((l.getD pi pass0).hours.lo + (pm : Nat))).hi], .int .i64 0] := hd 12 (memB_mem.1 rfl)
                have ha := ha.sub (Sub.ins (d := 122) (Sub.nil _) (dep_get rfl e12))
                exact ss_val ha rfl rfl (x_move rfl) rfl rfl
              | 14, _ =>
                intro val fl w1 a hb ha hd hfl
                have e13 : val 13 = .tuple #[.agg #[.int .i64 (depthAt rv sides (l.getD pi pass0).place ((l.getD pi pass0).hours.lo + (pm : Nat))).lo, .int .i64 (depthAt rv sides (l.getD pi pass0).place ((l.getD pi pass0).hours.lo + (pm : Nat))).hi], .int .i64 0] := hd 13 (memB_mem.1 rfl)
                have ha := ha.sub (Sub.ins (d := 109) (Sub.nil _) (dep_get rfl e13))
                exact ss_val ha rfl rfl (x_extract rfl rfl) rfl rfl
              | 15, _ =>
                intro val fl w1 a hb ha hd hfl
                have e13 : val 13 = .tuple #[.agg #[.int .i64 (depthAt rv sides (l.getD pi pass0).place ((l.getD pi pass0).hours.lo + (pm : Nat))).lo, .int .i64 (depthAt rv sides (l.getD pi pass0).place ((l.getD pi pass0).hours.lo + (pm : Nat))).hi], .int .i64 0] := hd 13 (memB_mem.1 rfl)
                have ha := ha.sub (Sub.ins (d := 109) (Sub.nil _) (dep_get rfl e13))
                exact ss_val ha rfl rfl (x_extract rfl rfl) rfl rfl
              | 16, _ =>
                intro val fl w1 a hb ha hd hfl
                have ha := ha.sub (Sub.nil _)
                exact ss_newP ha rfl rfl al_23 (fun g w' hq _ hge => ⟨g, rfl, Nat.le_trans hb.size hge, fun _ => hq⟩)
              | 17, _ =>
                exact absurd (by simp) hs_
              | k + 18, h => exact absurd h (by omega)
            · simp only [List.mem_singleton] at hi_; subst hi_
              intro val fl w1 a hb hfi ha hd hfl
              obtain ⟨g16_, e16, hg16_, q16_⟩ := hd 16 (memB_mem.1 rfl)
              change val 16 = _ at e16
              have e14 : val 14 = .agg #[.int .i64 (depthAt rv sides (l.getD pi pass0).place ((l.getD pi pass0).hours.lo + (pm : Nat))).lo, .int .i64 (depthAt rv sides (l.getD pi pass0).place ((l.getD pi pass0).hours.lo + (pm : Nat))).hi] := hd 14 (memB_mem.1 rfl)
              have ha := ha.sub (Sub.ins (d := 123) (Sub.ins (d := 11) (Sub.nil _) (dep_get rfl e16)) (dep_get rfl e14))
              refine ts_store ha rfl rfl rfl (q16_ hfi) sz_23 rfl rfl rfl rfl ?_
              intro w' hq hgr
              refine ⟨undef, rfl, hgr.size, below_store hb hgr hg16_, ⟨g16_, e16, hq⟩, fun j _ hj hn hA => ?_⟩
              exact phiS_cons_st (C := fun j => j ≠ 17 ∧ 17 ∉ clsAt [[], [0], [0, 1], [], [3], [0, 1, 2, 3, 4], [], [], [6, 7], [6, 7, 8], [6, 7, 8, 9], [], [0, 1, 2, 3, 4, 5, 6, 7, 8, 9, 10, 11], [0, 1, 2, 3, 4, 5, 6, 7, 8, 9, 10, 11, 12], [0, 1, 2, 3, 4, 5, 6, 7, 8, 9, 10, 11, 12, 13], [0, 1, 2, 3, 4, 5, 6, 7, 8, 9, 10, 11, 12, 13], [], [0, 1, 2, 3, 4, 5, 6, 7, 8, 9, 10, 11, 12, 13, 14, 16], [0, 1, 2, 3, 4, 5, 6, 7, 8, 9, 10, 11, 12, 13, 14, 15, 16, 17]] j ∧ ∀ p ∈ [16], (p = j ∨ p ∈ clsAt [[], [0], [0, 1], [], [3], [0, 1, 2, 3, 4], [], [], [6, 7], [6, 7, 8], [6, 7, 8, 9], [], [0, 1, 2, 3, 4, 5, 6, 7, 8, 9, 10, 11], [0, 1, 2, 3, 4, 5, 6, 7, 8, 9, 10, 11, 12], [0, 1, 2, 3, 4, 5, 6, 7, 8, 9, 10, 11, 12, 13], [0, 1, 2, 3, 4, 5, 6, 7, 8, 9, 10, 11, 12, 13], [], [0, 1, 2, 3, 4, 5, 6, 7, 8, 9, 10, 11, 12, 13, 14, 16], [0, 1, 2, 3, 4, 5, 6, 7, 8, 9, 10, 11, 12, 13, 14, 15, 16, 17]] j) → ∀ q ∈ [16], (q = 17 ∨ q ∈ clsAt [[], [0], [0, 1], [], [3], [0, 1, 2, 3, 4], [], [], [6, 7], [6, 7, 8], [6, 7, 8, 9], [], [0, 1, 2, 3, 4, 5, 6, 7, 8, 9, 10, 11], [0, 1, 2, 3, 4, 5, 6, 7, 8, 9, 10, 11, 12], [0, 1, 2, 3, 4, 5, 6, 7, 8, 9, 10, 11, 12, 13], [0, 1, 2, 3, 4, 5, 6, 7, 8, 9, 10, 11, 12, 13], [], [0, 1, 2, 3, 4, 5, 6, 7, 8, 9, 10, 11, 12, 13, 14, 16], [0, 1, 2, 3, 4, 5, 6, 7, 8, 9, 10, 11, 12, 13, 14, 15, 16, 17]] 17) → p ≠ q → val p ≠ val q) (fun _ _ h => by rw [fset_eq] at h; cases h) (phiS_cons_st (C := fun j => j ≠ 17 ∧ 17 ∉ clsAt [[], [0], [0, 1], [], [3], [0, 1, 2, 3, 4], [], [], [6, 7], [6, 7, 8], [6, 7, 8, 9], [], [0, 1, 2, 3, 4, 5, 6, 7, 8, 9, 10, 11], [0, 1, 2, 3, 4, 5, 6, 7, 8, 9, 10, 11, 12], [0, 1, 2, 3, 4, 5, 6, 7, 8, 9, 10, 11, 12, 13], [0, 1, 2, 3, 4, 5, 6, 7, 8, 9, 10, 11, 12, 13], [], [0, 1, 2, 3, 4, 5, 6, 7, 8, 9, 10, 11, 12, 13, 14, 16], [0, 1, 2, 3, 4, 5, 6, 7, 8, 9, 10, 11, 12, 13, 14, 15, 16, 17]] j ∧ ∀ p ∈ [16], (p = j ∨ p ∈ clsAt [[], [0], [0, 1], [], [3], [0, 1, 2, 3, 4], [], [], [6, 7], [6, 7, 8], [6, 7, 8, 9], [], [0, 1, 2, 3, 4, 5, 6, 7, 8, 9, 10, 11], [0, 1, 2, 3, 4, 5, 6, 7, 8, 9, 10, 11, 12], [0, 1, 2, 3, 4, 5, 6, 7, 8, 9, 10, 11, 12, 13], [0, 1, 2, 3, 4, 5, 6, 7, 8, 9, 10, 11, 12, 13], [], [0, 1, 2, 3, 4, 5, 6, 7, 8, 9, 10, 11, 12, 13, 14, 16], [0, 1, 2, 3, 4, 5, 6, 7, 8, 9, 10, 11, 12, 13, 14, 15, 16, 17]] j) → ∀ q ∈ [16], (q = 17 ∨ q ∈ clsAt [[], [0], [0, 1], [], [3], [0, 1, 2, 3, 4], [], [], [6, 7], [6, 7, 8], [6, 7, 8, 9], [], [0, 1, 2, 3, 4, 5, 6, 7, 8, 9, 10, 11], [0, 1, 2, 3, 4, 5, 6, 7, 8, 9, 10, 11, 12], [0, 1, 2, 3, 4, 5, 6, 7, 8, 9, 10, 11, 12, 13], [0, 1, 2, 3, 4, 5, 6, 7, 8, 9, 10, 11, 12, 13], [], [0, 1, 2, 3, 4, 5, 6, 7, 8, 9, 10, 11, 12, 13, 14, 16], [0, 1, 2, 3, 4, 5, 6, 7, 8, 9, 10, 11, 12, 13, 14, 15, 16, 17]] 17) → p ≠ q → val p ≠ val q) (fun _ _ h => by rw [fset_eq] at h; cases h) (phiS_cons_st (C := fun j => j ≠ 17 ∧ 17 ∉ clsAt [[], [0], [0, 1], [], [3], [0, 1, 2, 3, 4], [], [], [6, 7], [6, 7, 8], [6, 7, 8, 9], [], [0, 1, 2, 3, 4, 5, 6, 7, 8, 9, 10, 11], [0, 1, 2, 3, 4, 5, 6, 7, 8, 9, 10, 11, 12], [0, 1, 2, 3, 4, 5, 6, 7, 8, 9, 10, 11, 12, 13], [0, 1, 2, 3, 4, 5, 6, 7, 8, 9, 10, 11, 12, 13], [], [0, 1, 2, 3, 4, 5, 6, 7, 8, 9, 10, 11, 12, 13, 14, 16], [0, 1, 2, 3, 4, 5, 6, 7, 8, 9, 10, 11, 12, 13, 14, 15, 16, 17]] j ∧ ∀ p ∈ [16], (p = j ∨ p ∈ clsAt [[], [0], [0, 1], [], [3], [0, 1, 2, 3, 4], [], [], [6, 7], [6, 7, 8], [6, 7, 8, 9], [], [0, 1, 2, 3, 4, 5, 6, 7, 8, 9, 10, 11], [0, 1, 2, 3, 4, 5, 6, 7, 8, 9, 10, 11, 12], [0, 1, 2, 3, 4, 5, 6, 7, 8, 9, 10, 11, 12, 13], [0, 1, 2, 3, 4, 5, 6, 7, 8, 9, 10, 11, 12, 13], [], [0, 1, 2, 3, 4, 5, 6, 7, 8, 9, 10, 11, 12, 13, 14, 16], [0, 1, 2, 3, 4, 5, 6, 7, 8, 9, 10, 11, 12, 13, 14, 15, 16, 17]] j) → ∀ q ∈ [16], (q = 17 ∨ q ∈ clsAt [[], [0], [0, 1], [], [3], [0, 1, 2, 3, 4], [], [], [6, 7], [6, 7, 8], [6, 7, 8, 9], [], [0, 1, 2, 3, 4, 5, 6, 7, 8, 9, 10, 11], [0, 1, 2, 3, 4, 5, 6, 7, 8, 9, 10, 11, 12], [0, 1, 2, 3, 4, 5, 6, 7, 8, 9, 10, 11, 12, 13], [0, 1, 2, 3, 4, 5, 6, 7, 8, 9, 10, 11, 12, 13], [], [0, 1, 2, 3, 4, 5, 6, 7, 8, 9, 10, 11, 12, 13, 14, 16], [0, 1, 2, 3, 4, 5, 6, 7, 8, 9, 10, 11, 12, 13, 14, 15, 16, 17]] 17) → p ≠ q → val p ≠ val q) (fun _ ⟨g, h1, h2, _⟩ => ⟨g, h1, h2, fun h => by rw [fset_eq] at h; cases h⟩) (phiS_cons_st (C := fun j => j ≠ 17 ∧ 17 ∉ clsAt [[], [0], [0, 1], [], [3], [0, 1, 2, 3, 4], [], [], [6, 7], [6, 7, 8], [6, 7, 8, 9], [], [0, 1, 2, 3, 4, 5, 6, 7, 8, 9, 10, 11], [0, 1, 2, 3, 4, 5, 6, 7, 8, 9, 10, 11, 12], [0, 1, 2, 3, 4, 5, 6, 7, 8, 9, 10, 11, 12, 13], [0, 1, 2, 3, 4, 5, 6, 7, 8, 9, 10, 11, 12, 13], [], [0, 1, 2, 3, 4, 5, 6, 7, 8, 9, 10, 11, 12, 13, 14, 16], [0, 1, 2, 3, 4, 5, 6, 7, 8, 9, 10, 11, 12, 13, 14, 15, 16, 17]] j ∧ ∀ p ∈ [16], (p = j ∨ p ∈ clsAt [[], [0], [0, 1], [], [3], [0, 1, 2, 3, 4], [], [], [6, 7], [6, 7, 8], [6, 7, 8, 9], [], [0, 1, 2, 3, 4, 5, 6, 7, 8, 9, 10, 11], [0, 1, 2, 3, 4, 5, 6, 7, 8, 9, 10, 11, 12], [0, 1, 2, 3, 4, 5, 6, 7, 8, 9, 10, 11, 12, 13], [0, 1, 2, 3, 4, 5, 6, 7, 8, 9, 10, 11, 12, 13], [], [0, 1, 2, 3, 4, 5, 6, 7, 8, 9, 10, 11, 12, 13, 14, 16], [0, 1, 2, 3, 4, 5, 6, 7, 8, 9, 10, 11, 12, 13, 14, 15, 16, 17]] j) → ∀ q ∈ [16], (q = 17 ∨ q ∈ clsAt [[], [0], [0, 1], [], [3], [0, 1, 2, 3, 4], [], [], [6, 7], [6, 7, 8], [6, 7, 8, 9], [], [0, 1, 2, 3, 4, 5, 6, 7, 8, 9, 10, 11], [0, 1, 2, 3, 4, 5, 6, 7, 8, 9, 10, 11, 12], [0, 1, 2, 3, 4, 5, 6, 7, 8, 9, 10, 11, 12, 13], [0, 1, 2, 3, 4, 5, 6, 7, 8, 9, 10, 11, 12, 13], [], [0, 1, 2, 3, 4, 5, 6, 7, 8, 9, 10, 11, 12, 13, 14, 16], [0, 1, 2, 3, 4, 5, 6, 7, 8, 9, 10, 11, 12, 13, 14, 15, 16, 17]] 17) → p ≠ q → val p ≠ val q) (fun hc => absurd rfl hc.1) (fun _ _ h => h)))) j ⟨hj, hn, hA⟩
            · intro val fl wR8 hfl hb halc hd
              have e0 : val 0 = .pointer (some ⟨g1, 0, none⟩) := hd 0 (by omega)
              have e1 : val 1 = .agg #[.slice A rv.reaches.length c, .slice A' rv.shoals.length c'] := hd 1 (by omega)
              have e3 : val 3 = .pointer (some ⟨g1, 2, none⟩) := hd 3 (by omega)
              have e4 : val 4 = .slice (some ⟨bS, oS, none⟩) sides.length d := hd 4 (by omega)
              have e6 : val 6 = .slice (some ⟨bw, ow, none⟩) l.length cw := hd 6 (by omega)
              have e7 : val 7 = .int .i64 (pi : Nat) := hd 7 (by omega)
              have e8 : val 8 = .pointer (some ⟨bw, ow + pi * 3, none⟩) := hd 8 (by omega)
              have e9 : val 9 = .pointer (some ⟨bw, ow + pi * 3, none⟩) := hd 9 (by omega)
              have e10 : val 10 = .int .i64 (l.getD pi pass0).place := hd 10 (by omega)
              have e11 : val 11 = .int .i64 ((l.getD pi pass0).hours.lo + (pm : Nat)) := hd 11 (by omega)
              have e12 : val 12 = .tuple #[.agg #[.int .i64 (depthAt rv sides (l.getD pi pass0).place ((l.getD pi pass0).hours.lo + (pm : Nat))).lo, .int .i64 (depthAt rv sides (l.getD pi pass0).place ((l.getD pi pass0).hours.lo + (pm : Nat))).hi], .int .i64 0] := hd 12 (by omega)
              have e13 : val 13 = .tuple #[.agg #[.int .i64 (depthAt rv sides (l.getD pi pass0).place ((l.getD pi pass0).hours.lo + (pm : Nat))).lo, .int .i64 (depthAt rv sides (l.getD pi pass0).place ((l.getD pi pass0).hours.lo + (pm : Nat))).hi], .int .i64 0] := hd 13 (by omega)
              have e14 : val 14 = .agg #[.int .i64 (depthAt rv sides (l.getD pi pass0).place ((l.getD pi pass0).hours.lo + (pm : Nat))).lo, .int .i64 (depthAt rv sides (l.getD pi pass0).place ((l.getD pi pass0).hours.lo + (pm : Nat))).hi] := hd 14 (by omega)
              have e15 : val 15 = .int .i64 0 := hd 15 (by omega)
              obtain ⟨ga16_8, e16, qa16_8⟩ := hd 17 (by omega)
              change val 16 = _ at e16
              refine EL.ends (cs := [.pointer (some ⟨g1, 0, none⟩), .agg #[.slice A rv.reaches.length c, .slice A' rv.shoals.length c'], val 2, .pointer (some ⟨g1, 2, none⟩), .slice (some ⟨bS, oS, none⟩) sides.length d, val 5, .slice (some ⟨bw, ow, none⟩) l.length cw, .int .i64 (pi : Nat), .pointer (some ⟨bw, ow + pi * 3, none⟩), .pointer (some ⟨bw, ow + pi * 3, none⟩), .int .i64 (l.getD pi pass0).place, .int .i64 ((l.getD pi pass0).hours.lo + (pm : Nat)), .tuple #[.agg #[.int .i64 (depthAt rv sides (l.getD pi pass0).place ((l.getD pi pass0).hours.lo + (pm : Nat))).lo, .int .i64 (depthAt rv sides (l.getD pi pass0).place ((l.getD pi pass0).hours.lo + (pm : Nat))).hi], .int .i64 0], .tuple #[.agg #[.int .i64 (depthAt rv sides (l.getD pi pass0).place ((l.getD pi pass0).hours.lo + (pm : Nat))).lo, .int .i64 (depthAt rv sides (l.getD pi pass0).place ((l.getD pi pass0).hours.lo + (pm : Nat))).hi], .int .i64 0], .agg #[.int .i64 (depthAt rv sides (l.getD pi pass0).place ((l.getD pi pass0).hours.lo + (pm : Nat))).lo, .int .i64 (depthAt rv sides (l.getD pi pass0).place ((l.getD pi pass0).hours.lo + (pm : Nat))).hi], .int .i64 0, .pointer (some ⟨ga16_8, 0, none⟩), val 17]) ⟨e0, e1, rfl, e3, e4, rfl, e6, e7, e8, e9, e10, e11, e12, e13, e14, e15, e16, rfl, trivial⟩ rfl ?_
              replace q1 := q1.below hb q1.lt
              replace qa15_3 := qa15_3.below hb qa15_3.lt
              have bge7 := alc_ge halc (i := 16) rfl rfl e16
              have n1_7 : g1 ≠ ga16_8 := Nat.ne_of_lt (Nat.lt_of_lt_of_le lt_1 bge7)
              have n5_7 : ga15_3 ≠ ga16_8 := Nat.ne_of_lt (Nat.lt_of_lt_of_le lt_5 bge7)
              have bhbw_7 := Nat.le_trans hbw.size bge7
              replace hbw := Below.on hbw hb hbw.size
              refine EL.val (x_assign rfl) rfl ?_
              refine EL.nil ?_
              refine EX.seq ?_
              refine EC.seq ?_
              refine EC.seq ?_
              refine EC.region ?_
              refine EL.val (x_move rfl) rfl ?_
              refine EL.val (x_neq rfl rfl (by first | assumption | exact decide_eq_false (by omega))) rfl ?_
              refine EL.val (x_move rfl) rfl ?_
              refine EL.valg rfl rfl (fa_23_0 rfl) rfl ?_
              refine EL.valg rfl rfl (ld_3 rfl (qa16_8.at (j := 0) rfl)) rfl ?_
              refine EL.valg rfl rfl (fa_23_0 rfl) rfl ?_
              refine EL.valg rfl rfl (ld_3 rfl (qa15_3.at (j := 0) rfl)) rfl ?_
              refine EL.valg rfl rfl (x_neq rfl rfl (by first | assumption | exact decide_eq_false (by omega))) rfl ?_
              refine EL.val (x_pick_f rfl rfl) rfl ?_
              refine EL.nil ?_
              refine EX.seq ?_
              refine EC.no rfl ?_
              refine EC.skip ?_
              refine EX.seq ?_
              refine EC.seq ?_
              refine EC.seq ?_
              refine EC.region ?_
              refine EL.val (x_assign rfl) rfl ?_
              refine EL.nil ?_
              refine EX.seq ?_
              refine EC.block ?_
              refine EC.loopD [6, 12, 13, 14, 15, 16, 134, 135, 136, 137, 138, 139, 140, 141, 142, 143, 144, 145, 146, 147, 148, 149, 150, 151, 152, 153, 154, 155, 156, 157, 158, 159, 160, 161, 162, 163, 164, 165, 166, 167, 168, 169, 170, 171, 172, 173, 174, 175, 176, 177, 178, 179, 180, 181, 182, 183, 184, 185, 186, 187, 188, 189, 190, 191, 192, 193, 194, 195, 196, 197, 198, 199, 200, 201, 202, 203, 204, 205, 206, 207, 208, 209, 210, 211, 212, 213, 214, 215, 216, 217, 218, 219, 220, 221, 222, 223, 224, 225, 226, 227, 228, 229, 230, 231, 232, 233, 234, 235] (fun x : Nat => [(12, .int .i64 (x : Nat))]) (fun x W => x ≤ l.length ∧ Blk W g1 54 #[.slice A rv.reaches.length c, .slice A' rv.shoals.length c', .slice (some ⟨bS, oS, none⟩) sides.length d] ∧ Blk W ga15_3 23 #[.int .i64 (shUp rv sides l l.length).lo, .int .i64 (shUp rv sides l l.length).hi] ∧ Below w.heap.size w W) (fun x => l.length - x) 0 ⟨Nat.zero_le _, q1, qa15_3, hbw⟩ ⟨rfl, trivial⟩ ?_
              clear q1 qa15_3 hbw
              rintro i wr ⟨hi, q1, qa15_3, hbw⟩
              by_cases hlt : i < l.length
              ·
                have hci := hpc i hlt
                obtain ⟨hip, hih⟩ := hway.ok i hlt
                have hih_ := bdOk_iff.1 hih
                have hN := hoursN_eq hih_.2.1
                obtain ⟨n, en⟩ : ∃ n, n = cut % hoursN (l.getD i pass0).hours := ⟨_, rfl⟩
                have hn : n < hoursN (l.getD i pass0).hours := by rw [en]; exact Nat.mod_lt _ (by omega)
                have hdd := way_depth hS hway hlt hn
                have hal := hall i n ⟨hlt, hn⟩
                have tn : ((cut : Nat) : Int).tmod ((l.getD i pass0).hours.hi - (l.getD i pass0).hours.lo + 1) = ((n : Nat) : Int) := by rw [← hN, en, Int.ofNat_tmod]
                have hal2 := hal.2
                refine EC.seq ?_
                refine EC.seq ?_
                refine EC.region ?_
                refine EL.val (x_move rfl) rfl ?_
                refine EL.val (x_move rfl) rfl ?_
                refine EL.val (ln_99 rfl) rfl ?_
                refine EL.val (x_lss rfl rfl (by first | assumption | exact decide_eq_true (by omega))) rfl ?_
                refine EL.nil ?_
                refine EX.seq ?_
                refine EC.yes rfl ?_
                refine EC.skip ?_
                refine EX.seq ?_
                refine EC.seq ?_
                refine EC.block ?_
                refine EC.seq ?_
                refine EC.seq ?_
                refine EC.region ?_
                refine EL.val (x_move rfl) rfl ?_
                refine EL.val (x_move rfl) rfl ?_
                refine EL.val (ix_99 (k := i) rfl rfl hlt) rfl ?_
                refine EL.val (fa_101_1 rfl) rfl ?_
                refine EL.val (ld_23 rfl (below_load hbw hci.c1) (below_load hbw hci.c2)) rfl ?_
                refine EL.newP al_23 rfl ?_
                intro g8 w8 q8 hb8 hg8 hl8
                have n1_8 : g1 ≠ g8 := Nat.ne_of_lt (Nat.lt_of_lt_of_le q1.lt hg8)
                have n5_8 : ga15_3 ≠ g8 := Nat.ne_of_lt (Nat.lt_of_lt_of_le qa15_3.lt hg8)
                have bhbw_8 := Nat.le_trans hbw.size hg8
                replace q1 := q1.below hb8 q1.lt
                replace qa15_3 := qa15_3.below hb8 qa15_3.lt
                replace hbw := Below.on hbw hb8 hbw.size
                clear hb8 hg8 hl8
                refine EL.store rfl rfl q8 sz_23 rfl rfl rfl rfl ?_
                intro w9 hq9 hg9
                replace q1 := q1.grown hg9 (fun h => n1_8 (Option.some.inj h))
                replace qa15_3 := qa15_3.grown hg9 (fun h => n5_8 (Option.some.inj h))
                replace hbw := below_store hbw hg9 bhbw_8
                replace q8 := hq9
                clear hg9 hq9
                refine EL.nil ?_
                refine EX.seq ?_
                refine EC.seq ?_
                refine EC.regionQ (by kernel_rfl) (by kernel_rfl) ?_
                refine EQ.val (fun _ hw => (fa_23_0 rfl)) rfl ?_
                refine EQ.val (fun _ hw => (ld_3 rfl (below_load hw (q8.at (j := 0) rfl)))) rfl ?_
                refine EQ.val (fun _ hw => (x_lss rfl rfl (by first | assumption | exact decide_eq_false (by omega)))) rfl ?_
                refine EQ.val (fun _ hw => (x_move rfl)) rfl ?_
                refine EQ.valg rfl rfl (fun _ hw => (fa_23_0 rfl)) rfl ?_
                refine EQ.valg rfl rfl (fun _ hw => (ld_3 rfl (below_load hw (q8.at (j := 0) rfl)))) rfl ?_
                refine EQ.valg rfl rfl (fun _ hw => (fa_23_1 rfl)) rfl ?_
                refine EQ.valg rfl rfl (fun _ hw => (ld_3 rfl (below_load hw (q8.at (j := 1) rfl)))) rfl ?_
                refine EQ.valg rfl rfl (fun _ hw => (x_gtr rfl rfl (by first | assumption | exact decide_eq_false (by omega)))) rfl ?_
                refine EQ.val (fun _ hw => (x_pick_f rfl rfl)) rfl ?_
                refine EQ.val (fun _ hw => (x_move rfl)) rfl ?_
                refine EQ.valg rfl rfl (fun _ hw => (fa_23_1 rfl)) rfl ?_
                refine EQ.valg rfl rfl (fun _ hw => (ld_3 rfl (below_load hw (q8.at (j := 1) rfl)))) rfl ?_
                refine EQ.valg rfl rfl (fun _ hw => (fa_54_1 rfl)) rfl ?_
                refine EQ.valg rfl rfl (fun _ hw => (ld_52 rfl (below_load hw (q1.at (j := 2) rfl)))) rfl ?_
                refine EQ.valg rfl rfl (fun _ hw => (ix_52 (k := 0) rfl rfl (by omega))) rfl ?_
                refine EQ.valg rfl rfl (fun _ hw => (ld_28 rfl (below_load hw (below_load hbw c0)))) rfl ?_
                refine EQ.valg rfl rfl (fun _ hw => (ln_28 rfl)) rfl ?_
                refine EQ.valg rfl rfl (fun _ hw => (x_geq rfl rfl (by first | assumption | exact decide_eq_false (by omega)))) rfl ?_
                refine EQ.val (fun _ hw => (x_pick_f rfl rfl)) rfl ?_
                refine EQ.fin (fun w10 hw_ => ?_)
                replace q1 := q1.below hw_ q1.lt
                replace qa15_3 := qa15_3.below hw_ qa15_3.lt
                replace q8 := q8.below hw_ q8.lt
                replace hbw := Below.on hbw hw_ hbw.size
                clear hw_
                refine EX.seq ?_
                refine EC.no rfl ?_
                refine EC.skip ?_
                refine EX.seq ?_
                refine EC.seq ?_
                refine EC.regionQ (by kernel_rfl) (by kernel_rfl) ?_
                refine EQ.val (fun _ hw => (x_move rfl)) rfl ?_
                refine EQ.val (fun _ hw => (x_move rfl)) rfl ?_
                refine EQ.val (fun _ hw => (ix_99 (k := i) rfl rfl hlt)) rfl ?_
                refine EQ.val (fun _ hw => (fa_101_1 rfl)) rfl ?_
                refine EQ.val (fun _ hw => (fa_23_0 rfl)) rfl ?_
                refine EQ.val (fun _ hw => (ld_3 rfl (below_load hw (below_load hbw hci.c1)))) rfl ?_
                refine EQ.val (fun _ hw => (x_move rfl)) rfl ?_
                refine EQ.val (fun _ hw => (cv_5_3 rfl (IntWalk.i64_in _ ⟨by omega, by omega⟩))) rfl ?_
                refine EQ.val (fun _ hw => (x_move rfl)) rfl ?_
                refine EQ.val (fun _ hw => (x_move rfl)) rfl ?_
                refine EQ.val (fun _ hw => (ix_99 (k := i) rfl rfl hlt)) rfl ?_
                refine EQ.val (fun _ hw => (fa_101_1 rfl)) rfl ?_
                refine EQ.val (fun _ hw => (fa_23_1 rfl)) rfl ?_
                refine EQ.val (fun _ hw => (ld_3 rfl (below_load hw (below_load hbw hci.c2)))) rfl ?_
                refine EQ.val (fun _ hw => (x_move rfl)) rfl ?_
                refine EQ.val (fun _ hw => (x_move rfl)) rfl ?_
                refine EQ.val (fun _ hw => (ix_99 (k := i) rfl rfl hlt)) rfl ?_
                refine EQ.val (fun _ hw => (fa_101_1 rfl)) rfl ?_
                refine EQ.val (fun _ hw => (fa_23_0 rfl)) rfl ?_
                refine EQ.val (fun _ hw => (ld_3 rfl (below_load hw (below_load hbw hci.c1)))) rfl ?_
                refine EQ.val (fun _ hw => (x_sub rfl rfl (by first | assumption | exact IntWalk.i64_in _ ⟨by omega, by omega⟩))) rfl ?_
                refine EQ.val (fun _ hw => (x_add rfl rfl (by first | assumption | exact IntWalk.i64_in _ ⟨by omega, by omega⟩))) rfl ?_
                refine EQ.val (fun _ hw => (x_rem rfl rfl (by omega) tn)) rfl ?_
                refine EQ.val (fun _ hw => (x_add rfl rfl (by first | assumption | exact IntWalk.i64_in _ ⟨by omega, by omega⟩))) rfl ?_
                refine EQ.val (fun _ hw => (x_assign rfl)) rfl ?_
                refine EQ.fin (fun w11 hw_ => ?_)
                replace q1 := q1.below hw_ q1.lt
                replace qa15_3 := qa15_3.below hw_ qa15_3.lt
                replace q8 := q8.below hw_ q8.lt
                replace hbw := Below.on hbw hw_ hbw.size
                clear hw_
                refine EX.seq ?_
                refine EC.seq ?_
                have lt_1 := q1.lt
                have lt_5 := qa15_3.lt
                have lt_8 := q8.lt
                refine EC.regionS [[], [0], [0, 1], [], [3], [0, 1, 2, 3, 4], [], [], [6, 7], [6, 7, 8], [6, 7, 8, 9], [], [0, 1, 2, 3, 4, 5, 6, 7, 8, 9, 10, 11], [0, 1, 2, 3, 4, 5, 6, 7, 8, 9, 10, 11, 12], [0, 1, 2, 3, 4, 5, 6, 7, 8, 9, 10, 11, 12, 13], [0, 1, 2, 3, 4, 5, 6, 7, 8, 9, 10, 11, 12, 13], [], [0, 1, 2, 3, 4, 5, 6, 7, 8, 9, 10, 11, 12, 13, 14, 16], [0, 1, 2, 3, 4, 5, 6, 7, 8, 9, 10, 11, 12, 13, 14, 15, 16, 17]] 18 [16] [17] (fun _ w_ => Below w11.heap.size w11 w_) (phiS (fun i_ r => match i_ with | 0 => r 0 = .pointer (some ⟨g1, 0, none⟩) | 1 => r 1 = .agg #[.slice A rv.reaches.length c, .slice A' rv.shoals.length c'] | 3 => r 3 = .pointer (some ⟨g1, 2, none⟩) | 4 => r 4 = .slice (some ⟨bS, oS, none⟩) sides.length d | 6 => r 6 = .slice (some ⟨bw, ow, none⟩) l.length cw | 7 => r 7 = .int .i64 (i : Nat) | 8 => r 8 = .pointer (some ⟨bw, ow + i * 3, none⟩) | 9 => r 9 = .pointer (some ⟨bw, ow + i * 3, none⟩) | 10 => r 10 = .int .i64 (l.getD i pass0).place | 11 => r 11 = .int .i64 ((l.getD i pass0).hours.lo + (n : Nat)) | 12 => r 12 = .tuple #[.agg #[.int .i64 (depthAt rv sides (l.getD i pass0).place ((l.getD i pass0).hours.lo + (n : Nat))).lo, .int .i64 (depthAt rv sides (l.getD i pass0).place ((l.getD i pass0).hours.lo + (n : Nat))).hi], .int .i64 0] | 13 => r 13 = .tuple #[.agg #[.int .i64 (depthAt rv sides (l.getD i pass0).place ((l.getD i pass0).hours.lo + (n : Nat))).lo, .int .i64 (depthAt rv sides (l.getD i pass0).place ((l.getD i pass0).hours.lo + (n : Nat))).hi], .int .i64 0] | 14 => r 14 = .agg #[.int .i64 (depthAt rv sides (l.getD i pass0).place ((l.getD i pass0).hours.lo + (n : Nat))).lo, .int .i64 (depthAt rv sides (l.getD i pass0).place ((l.getD i pass0).hours.lo + (n : Nat))).hi] | 15 => r 15 = .int .i64 0 | _ => True) [(2, fun fl r w_ => fl 17 = false → (∃ a b vs, r 2 = .agg #[a, b] ∧ RdRiver w_ w_.heap.size a b rv vs)), (5, fun fl r w_ => fl 17 = false → (∃ v ss, r 5 = v ∧ RdSides w_ w_.heap.size v sides ss)), (16, fun fl r w_ => ∃ g_, r 16 = .pointer (some ⟨g_, 0, none⟩) ∧ w11.heap.size ≤ g_ ∧ (fl 17 = false → Blk w_ g_ 23 #[.int .i64 0, .int .i64 0])), (17, fun _ r w_ => ∃ g_, r 16 = .pointer (some ⟨g_, 0, none⟩) ∧ Blk w_ g_ 23 #[.int .i64 (depthAt rv sides (l.getD i pass0).place ((l.getD i pass0).hours.lo + (n : Nat))).lo, .int .i64 (depthAt rv sides (l.getD i pass0).place ((l.getD i pass0).hours.lo + (n : Nat))).hi])]) (by kernel_rfl) rfl rfl (by intro i hi; simp at hi; first | (subst hi; exact ⟨by simp, by omega⟩) | (rcases hi with rfl | rfl | rfl <;> exact ⟨by simp, by omega⟩) | (rcases hi with rfl | rfl <;> exact ⟨by simp, by omega⟩)) (base_below w11) (phiS_cons (monoS_till mono_riv) (phiS_cons (monoS_till mono_sid) (phiS_cons monoS_alloc (phiS_cons monoS_store (phiS_nil))))) (fun i_ hi_ hs_ => ?_) (fun i_ hi_ => ?_) ?_
                · match i_, hi_ with
                  | 0, _ =>
                    intro val fl w1 a hb ha hd hfl
                    have ha := ha.sub (Sub.ins (d := 3) (Sub.nil _) rfl)
                    exact ss_val ha rfl rfl (fa_54_0 rfl) rfl rfl
                  | 1, _ =>
                    intro val fl w1 a hb ha hd hfl
                    have e0 : val 0 = .pointer (some ⟨g1, 0, none⟩) := hd 0 (memB_mem.1 rfl)
                    have ha := ha.sub (Sub.ins (d := 190) (Sub.nil _) (dep_get rfl e0))
                    exact ss_val ha rfl rfl (ld_47 rfl ((q1.below hb q1.lt).at (j := 0) rfl) ((q1.below hb q1.lt).at (j := 1) rfl)) rfl rfl
                  | 2, _ =>
                    intro val fl w1 a hb ha hd hfl
                    have e1 : val 1 = .agg #[.slice A rv.reaches.length c, .slice A' rv.shoals.length c'] := hd 1 (memB_mem.1 rfl)
                    have ha := ha.sub (Sub.ins (d := 191) (Sub.nil _) (dep_get rfl e1))
                    refine ss_call ha rfl rfl (cl_24 rfl) (copied_any rv _ _ vs _ B (hr.below ((Below.on hbw hb hbw.size).mono hB)) (Nat.le_trans hB (Below.on hbw hb hbw.size).size) (by omega) (by omega) f3) rfl ?_
                    rintro e w' ⟨⟨v1, u1, vs1, rfl, hcp⟩, hb'⟩
                    exact ⟨_, rfl, hb', fun _ => ⟨_, _, _, rfl, hcp⟩⟩
                  | 3, _ =>
                    intro val fl w1 a hb ha hd hfl
                    have ha := ha.sub (Sub.ins (d := 3) (Sub.nil _) rfl)
                    exact ss_val ha rfl rfl (fa_54_1 rfl) rfl rfl
                  | 4, _ =>
                    intro val fl w1 a hb ha hd hfl
                    have e3 : val 3 = .pointer (some ⟨g1, 2, none⟩) := hd 3 (memB_mem.1 rfl)
                    have ha := ha.sub (Sub.ins (d := 193) (Sub.nil _) (dep_get rfl e3))
                    exact ss_val ha rfl rfl (ld_52 rfl ((q1.below hb q1.lt).at (j := 2) rfl)) rfl rfl
                  | 5, _ =>
                    intro val fl w1 a hb ha hd hfl
                    have e4 : val 4 = .slice (some ⟨bS, oS, none⟩) sides.length d := hd 4 (memB_mem.1 rfl)
                    have ha := ha.sub (Sub.ins (d := 194) (Sub.nil _) (dep_get rfl e4))
                    refine ss_call ha rfl rfl (cl_34 rfl) (forecast_any sides _ ss _ B (hs.below ((Below.on hbw hb hbw.size).mono hB)) (Nat.le_trans hB (Below.on hbw hb hbw.size).size) (by omega) f4) rfl ?_
                    rintro e w' ⟨⟨v1, ss1, rfl, hcp⟩, hb'⟩
                    exact ⟨_, rfl, hb', fun _ => ⟨_, _, rfl, hcp⟩⟩
                  | 6, _ =>
                    intro val fl w1 a hb ha hd hfl
                    have ha := ha.sub (Sub.ins (d := 1) (Sub.nil _) rfl)
                    exact ss_val ha rfl rfl (x_move rfl) rfl rfl
                  | 7, _ =>
                    intro val fl w1 a hb ha hd hfl
                    have ha := ha.sub (Sub.ins (d := 12) (Sub.nil _) rfl)
                    exact ss_val ha rfl rfl (x_move rfl) rfl rfl
                  | 8, _ =>
                    intro val fl w1 a hb ha hd hfl
                    have e6 : val 6 = .slice (some ⟨bw, ow, none⟩) l.length cw := hd 6 (memB_mem.1 rfl)
                    have e7 : val 7 = .int .i64 (i : Nat) := hd 7 (memB_mem.1 rfl)
                    have ha := ha.sub (Sub.ins (d := 197) (Sub.ins (d := 196) (Sub.nil _) (dep_get rfl e6)) (dep_get rfl e7))
                    exact ss_val ha rfl rfl (ix_99 (k := i) rfl rfl hlt) rfl rfl
                  | 9, _ =>
                    intro val fl w1 a hb ha hd hfl
                    have e8 : val 8 = .pointer (some ⟨bw, ow + i * 3, none⟩) := hd 8 (memB_mem.1 rfl)
                    have ha := ha.sub (Sub.ins (d := 198) (Sub.nil _) (dep_get rfl e8))
                    exact ss_val ha rfl rfl (fa_101_0 rfl) rfl rfl
                  | 10, _ =>
                    intro val fl w1 a hb ha hd hfl
                    have e9 : val 9 = .pointer (some ⟨bw, ow + i * 3, none⟩) := hd 9 (memB_mem.1 rfl)
                    have ha := ha.sub (Sub.ins (d := 199) (Sub.nil _) (dep_get rfl e9))
                    exact ss_val ha rfl rfl (ld_3 rfl (below_load (Below.on hbw hb hbw.size) hci.c0)) rfl rfl
                  | 11, _ =>
                    intro val fl w1 a hb ha hd hfl
                    have ha := ha.sub (Sub.ins (d := 14) (Sub.nil _) rfl)
                    exact ss_val ha rfl rfl (x_move rfl) rfl rfl
                  | 12, _ =>
                    intro val fl w1 a hb ha hd hfl
                    obtain ⟨a2_, b2_, vs2_, e2, q2_⟩ := hd 2 (memB_mem.1 rfl) (hfl 17 (by simp) (memB_mem.1 rfl))
                    obtain ⟨v5_, ss5_, e5, q5_⟩ := hd 5 (memB_mem.1 rfl) (hfl 17 (by simp) (memB_mem.1 rfl))
                    have e10 : val 10 = .int .i64 (l.getD i pass0).place := hd 10 (memB_mem.1 rfl)
                    have e11 : val 11 = .int .i64 ((l.getD i pass0).hours.lo + (n : Nat)) := hd 11 (memB_mem.1 rfl)
                    have ha := ha.sub (Sub.ins (d := 201) (Sub.ins (d := 200) (Sub.ins (d := 195) (Sub.ins (d := 192) (Sub.nil _) (dep_get rfl e2)) (dep_get rfl e5)) (dep_get rfl e10)) (dep_get rfl e11))
                    refine ss_call ha rfl rfl (cl_33 rfl rfl rfl rfl) (dep_good rv sides _ _ _ _ _ _ w1.heap.size q2_ q5_ (Nat.le_refl _) hfine hst hip (inB_iff.2 (by omega))) rfl ?_
                    rintro e w' ⟨rfl, hb'⟩
                    exact ⟨_, rfl, hb', rfl⟩
                  | 13, _ =>
                    intro val fl w1 a hb ha hd hfl
                    have e12 : val 12 = .tuple #[.agg #[.int .i64 (depthAt rv sides (l.getD i pass0).place ((l.getD i pass0).hours.lo + (n : Nat))).lo, .int .i64 (depthAt rv sides (l.getD i pass0).place ((l.getD i pass0).hours.lo + (n : Nat))).hi], .int .i64 0] := hd 12 (memB_mem.1 rfl)
                    have ha := ha.sub (Sub.ins (d := 202) (Sub.nil _) (dep_get rfl e12))
                    exact ss_val ha rfl rfl (x_move rfl) rfl rfl
                  | 14, _ =>
                    intro val fl w1 a hb ha hd hfl
                    have e13 : val 13 = .tuple #[.agg #[.int .i64 (depthAt rv sides (l.getD i pass0).place ((l.getD i pass0).hours.lo + (n : Nat))).lo, .int .i64 (depthAt rv sides (l.getD i pass0).place ((l.getD i pass0).hours.lo + (n : Nat))).hi], .int .i64 0] := hd 13 (memB_mem.1 rfl)
                    have ha := ha.sub (Sub.ins (d := 189) (Sub.nil _) (dep_get rfl e13))
                    exact ss_val ha rfl rfl (x_extract rfl rfl) rfl rfl
                  | 15, _ =>
                    intro val fl w1 a hb ha hd hfl
                    have e13 : val 13 = .tuple #[.agg #[.int .i64 (depthAt rv sides (l.getD i pass0).place ((l.getD i pass0).hours.lo + (n : Nat))).lo, .int .i64 (depthAt rv sides (l.getD i pass0).place ((l.getD i pass0).hours.lo + (n : Nat))).hi], .int .i64 0] := hd 13 (memB_mem.1 rfl)
                    have ha := ha.sub (Sub.ins (d := 189) (Sub.nil _) (dep_get rfl e13))
                    exact ss_val ha rfl rfl (x_extract rfl rfl) rfl rfl
                  | 16, _ =>
                    intro val fl w1 a hb ha hd hfl
                    have ha := ha.sub (Sub.nil _)
                    exact ss_newP ha rfl rfl al_23 (fun g w' hq _ hge => ⟨g, rfl, Nat.le_trans hb.size hge, fun _ => hq⟩)
                  | 17, _ =>
                    exact absurd (by simp) hs_
                  | k + 18, h => exact absurd h (by omega)
                · simp only [List.mem_singleton] at hi_; subst hi_
                  intro val fl w1 a hb hfi ha hd hfl
                  obtain ⟨g16_, e16, hg16_, q16_⟩ := hd 16 (memB_mem.1 rfl)
                  change val 16 = _ at e16
                  have e14 : val 14 = .agg #[.int .i64 (depthAt rv sides (l.getD i pass0).place ((l.getD i pass0).hours.lo + (n : Nat))).lo, .int .i64 (depthAt rv sides (l.getD i pass0).place ((l.getD i pass0).hours.lo + (n : Nat))).hi] := hd 14 (memB_mem.1 rfl)
                  have ha := ha.sub (Sub.ins (d := 203) (Sub.ins (d := 15) (Sub.nil _) (dep_get rfl e16)) (dep_get rfl e14))
                  refine ts_store ha rfl rfl rfl (q16_ hfi) sz_23 rfl rfl rfl rfl ?_
                  intro w' hq hgr
                  refine ⟨undef, rfl, hgr.size, below_store hb hgr hg16_, ⟨g16_, e16, hq⟩, fun j _ hj hn hA => ?_⟩
                  exact phiS_cons_st (C := fun j => j ≠ 17 ∧ 17 ∉ clsAt [[], [0], [0, 1], [], [3], [0, 1, 2, 3, 4], [], [], [6, 7], [6, 7, 8], [6, 7, 8, 9], [], [0, 1, 2, 3, 4, 5, 6, 7, 8, 9, 10, 11], [0, 1, 2, 3, 4, 5, 6, 7, 8, 9, 10, 11, 12], [0, 1, 2, 3, 4, 5, 6, 7, 8, 9, 10, 11, 12, 13], [0, 1, 2, 3, 4, 5, 6, 7, 8, 9, 10, 11, 12, 13], [], [0, 1, 2, 3, 4, 5, 6, 7, 8, 9, 10, 11, 12, 13, 14, 16], [0, 1, 2, 3, 4, 5, 6, 7, 8, 9, 10, 11, 12, 13, 14, 15, 16, 17]] j ∧ ∀ p ∈ [16], (p = j ∨ p ∈ clsAt [[], [0], [0, 1], [], [3], [0, 1, 2, 3, 4], [], [], [6, 7], [6, 7, 8], [6, 7, 8, 9], [], [0, 1, 2, 3, 4, 5, 6, 7, 8, 9, 10, 11], [0, 1, 2, 3, 4, 5, 6, 7, 8, 9, 10, 11, 12], [0, 1, 2, 3, 4, 5, 6, 7, 8, 9, 10, 11, 12, 13], [0, 1, 2, 3, 4, 5, 6, 7, 8, 9, 10, 11, 12, 13], [], [0, 1, 2, 3, 4, 5, 6, 7, 8, 9, 10, 11, 12, 13, 14, 16], [0, 1, 2, 3, 4, 5, 6, 7, 8, 9, 10, 11, 12, 13, 14, 15, 16, 17]] j) → ∀ q ∈ [16], (q = 17 ∨ q ∈ clsAt [[], [0], [0, 1], [], [3], [0, 1, 2, 3, 4], [], [], [6, 7], [6, 7, 8], [6, 7, 8, 9], [], [0, 1, 2, 3, 4, 5, 6, 7, 8, 9, 10, 11], [0, 1, 2, 3, 4, 5, 6, 7, 8, 9, 10, 11, 12], [0, 1, 2, 3, 4, 5, 6, 7, 8, 9, 10, 11, 12, 13], [0, 1, 2, 3, 4, 5, 6, 7, 8, 9, 10, 11, 12, 13], [], [0, 1, 2, 3, 4, 5, 6, 7, 8, 9, 10, 11, 12, 13, 14, 16], [0, 1, 2, 3, 4, 5, 6, 7, 8, 9, 10, 11, 12, 13, 14, 15, 16, 17]] 17) → p ≠ q → val p ≠ val q) (fun _ _ h => by rw [fset_eq] at h; cases h) (phiS_cons_st (C := fun j => j ≠ 17 ∧ 17 ∉ clsAt [[], [0], [0, 1], [], [3], [0, 1, 2, 3, 4], [], [], [6, 7], [6, 7, 8], [6, 7, 8, 9], [], [0, 1, 2, 3, 4, 5, 6, 7, 8, 9, 10, 11], [0, 1, 2, 3, 4, 5, 6, 7, 8, 9, 10, 11, 12], [0, 1, 2, 3, 4, 5, 6, 7, 8, 9, 10, 11, 12, 13], [0, 1, 2, 3, 4, 5, 6, 7, 8, 9, 10, 11, 12, 13], [], [0, 1, 2, 3, 4, 5, 6, 7, 8, 9, 10, 11, 12, 13, 14, 16], [0, 1, 2, 3, 4, 5, 6, 7, 8, 9, 10, 11, 12, 13, 14, 15, 16, 17]] j ∧ ∀ p ∈ [16], (p = j ∨ p ∈ clsAt [[], [0], [0, 1], [], [3], [0, 1, 2, 3, 4], [], [], [6, 7], [6, 7, 8], [6, 7, 8, 9], [], [0, 1, 2, 3, 4, 5, 6, 7, 8, 9, 10, 11], [0, 1, 2, 3, 4, 5, 6, 7, 8, 9, 10, 11, 12], [0, 1, 2, 3, 4, 5, 6, 7, 8, 9, 10, 11, 12, 13], [0, 1, 2, 3, 4, 5, 6, 7, 8, 9, 10, 11, 12, 13], [], [0, 1, 2, 3, 4, 5, 6, 7, 8, 9, 10, 11, 12, 13, 14, 16], [0, 1, 2, 3, 4, 5, 6, 7, 8, 9, 10, 11, 12, 13, 14, 15, 16, 17]] j) → ∀ q ∈ [16], (q = 17 ∨ q ∈ clsAt [[], [0], [0, 1], [], [3], [0, 1, 2, 3, 4], [], [], [6, 7], [6, 7, 8], [6, 7, 8, 9], [], [0, 1, 2, 3, 4, 5, 6, 7, 8, 9, 10, 11], [0, 1, 2, 3, 4, 5, 6, 7, 8, 9, 10, 11, 12], [0, 1, 2, 3, 4, 5, 6, 7, 8, 9, 10, 11, 12, 13], [0, 1, 2, 3, 4, 5, 6, 7, 8, 9, 10, 11, 12, 13], [], [0, 1, 2, 3, 4, 5, 6, 7, 8, 9, 10, 11, 12, 13, 14, 16], [0, 1, 2, 3, 4, 5, 6, 7, 8, 9, 10, 11, 12, 13, 14, 15, 16, 17]] 17) → p ≠ q → val p ≠ val q) (fun _ _ h => by rw [fset_eq] at h; cases h) (phiS_cons_st (C := fun j => j ≠ 17 ∧ 17 ∉ clsAt [[], [0], [0, 1], [], [3], [0, 1, 2, 3, 4], [], [], [6, 7], [6, 7, 8], [6, 7, 8, 9], [], [0, 1, 2, 3, 4, 5, 6, 7, 8, 9, 10, 11], [0, 1, 2, 3, 4, 5, 6, 7, 8, 9, 10, 11, 12], [0, 1, 2, 3, 4, 5, 6, 7, 8, 9, 10, 11, 12, 13], [0, 1, 2, 3, 4, 5, 6, 7, 8, 9, 10, 11, 12, 13], [], [0, 1, 2, 3, 4, 5, 6, 7, 8, 9, 10, 11, 12, 13, 14, 16], [0, 1, 2, 3, 4, 5, 6, 7, 8, 9, 10, 11, 12, 13, 14, 15, 16, 17]] j ∧ ∀ p ∈ [16], (p = j ∨ p ∈ clsAt [[], [0], [0, 1], [], [3], [0, 1, 2, 3, 4], [], [], [6, 7], [6, 7, 8], [6, 7, 8, 9], [], [0, 1, 2, 3, 4, 5, 6, 7, 8, 9, 10, 11], [0, 1, 2, 3, 4, 5, 6, 7, 8, 9, 10, 11, 12], [0, 1, 2, 3, 4, 5, 6, 7, 8, 9, 10, 11, 12, 13], [0, 1, 2, 3, 4, 5, 6, 7, 8, 9, 10, 11, 12, 13], [], [0, 1, 2, 3, 4, 5, 6, 7, 8, 9, 10, 11, 12, 13, 14, 16], [0, 1, 2, 3, 4, 5, 6, 7, 8, 9, 10, 11, 12, 13, 14, 15, 16, 17]] j) → ∀ q ∈ [16], (q = 17 ∨ q ∈ clsAt [[], [0], [0, 1], [], [3], [0, 1, 2, 3, 4], [], [], [6, 7], [6, 7, 8], [6, 7, 8, 9], [], [0, 1, 2, 3, 4, 5, 6, 7, 8, 9, 10, 11], [0, 1, 2, 3, 4, 5, 6, 7, 8, 9, 10, 11, 12], [0, 1, 2, 3, 4, 5, 6, 7, 8, 9, 10, 11, 12, 13], [0, 1, 2, 3, 4, 5, 6, 7, 8, 9, 10, 11, 12, 13], [], [0, 1, 2, 3, 4, 5, 6, 7, 8, 9, 10, 11, 12, 13, 14, 16], [0, 1, 2, 3, 4, 5, 6, 7, 8, 9, 10, 11, 12, 13, 14, 15, 16, 17]] 17) → p ≠ q → val p ≠ val q) (fun _ ⟨g, h1, h2, _⟩ => ⟨g, h1, h2, fun h => by rw [fset_eq] at h; cases h⟩) (phiS_cons_st (C := fun j => j ≠ 17 ∧ 17 ∉ clsAt [[], [0], [0, 1], [], [3], [0, 1, 2, 3, 4], [], [], [6, 7], [6, 7, 8], [6, 7, 8, 9], [], [0, 1, 2, 3, 4, 5, 6, 7, 8, 9, 10, 11], [0, 1, 2, 3, 4, 5, 6, 7, 8, 9, 10, 11, 12], [0, 1, 2, 3, 4, 5, 6, 7, 8, 9, 10, 11, 12, 13], [0, 1, 2, 3, 4, 5, 6, 7, 8, 9, 10, 11, 12, 13], [], [0, 1, 2, 3, 4, 5, 6, 7, 8, 9, 10, 11, 12, 13, 14, 16], [0, 1, 2, 3, 4, 5, 6, 7, 8, 9, 10, 11, 12, 13, 14, 15, 16, 17]] j ∧ ∀ p ∈ [16], (p = j ∨ p ∈ clsAt [[], [0], [0, 1], [], [3], [0, 1, 2, 3, 4], [], [], [6, 7], [6, 7, 8], [6, 7, 8, 9], [], [0, 1, 2, 3, 4, 5, 6, 7, 8, 9, 10, 11], [0, 1, 2, 3, 4, 5, 6, 7, 8, 9, 10, 11, 12], [0, 1, 2, 3, 4, 5, 6, 7, 8, 9, 10, 11, 12, 13], [0, 1, 2, 3, 4, 5, 6, 7, 8, 9, 10, 11, 12, 13], [], [0, 1, 2, 3, 4, 5, 6, 7, 8, 9, 10, 11, 12, 13, 14, 16], [0, 1, 2, 3, 4, 5, 6, 7, 8, 9, 10, 11, 12, 13, 14, 15, 16, 17]] j) → ∀ q ∈ [16], (q = 17 ∨ q ∈ clsAt [[], [0], [0, 1], [], [3], [0, 1, 2, 3, 4], [], [], [6, 7], [6, 7, 8], [6, 7, 8, 9], [], [0, 1, 2, 3, 4, 5, 6, 7, 8, 9, 10, 11], [0, 1, 2, 3, 4, 5, 6, 7, 8, 9, 10, 11, 12], [0, 1, 2, 3, 4, 5, 6, 7, 8, 9, 10, 11, 12, 13], [0, 1, 2, 3, 4, 5, 6, 7, 8, 9, 10, 11, 12, 13], [], [0, 1, 2, 3, 4, 5, 6, 7, 8, 9, 10, 11, 12, 13, 14, 16], [0, 1, 2, 3, 4, 5, 6, 7, 8, 9, 10, 11, 12, 13, 14, 15, 16, 17]] 17) → p ≠ q → val p ≠ val q) (fun hc => absurd rfl hc.1) (fun _ _ h => h)))) j ⟨hj, hn, hA⟩
                · intro val fl wR18 hfl hb halc hd
                  have e0 : val 0 = .pointer (some ⟨g1, 0, none⟩) := hd 0 (by omega)
                  have e1 : val 1 = .agg #[.slice A rv.reaches.length c, .slice A' rv.shoals.length c'] := hd 1 (by omega)
                  have e3 : val 3 = .pointer (some ⟨g1, 2, none⟩) := hd 3 (by omega)
                  have e4 : val 4 = .slice (some ⟨bS, oS, none⟩) sides.length d := hd 4 (by omega)
                  have e6 : val 6 = .slice (some ⟨bw, ow, none⟩) l.length cw := hd 6 (by omega)
                  have e7 : val 7 = .int .i64 (i : Nat) := hd 7 (by omega)
                  have e8 : val 8 = .pointer (some ⟨bw, ow + i * 3, none⟩) := hd 8 (by omega)
                  have e9 : val 9 = .pointer (some ⟨bw, ow + i * 3, none⟩) := hd 9 (by omega)
                  have e10 : val 10 = .int .i64 (l.getD i pass0).place := hd 10 (by omega)
                  have e11 : val 11 = .int .i64 ((l.getD i pass0).hours.lo + (n : Nat)) := hd 11 (by omega)
                  have e12 : val 12 = .tuple #[.agg #[.int .i64 (depthAt rv sides (l.getD i pass0).place ((l.getD i pass0).hours.lo + (n : Nat))).lo, .int .i64 (depthAt rv sides (l.getD i pass0).place ((l.getD i pass0).hours.lo + (n : Nat))).hi], .int .i64 0] := hd 12 (by omega)
                  have e13 : val 13 = .tuple #[.agg #[.int .i64 (depthAt rv sides (l.getD i pass0).place ((l.getD i pass0).hours.lo + (n : Nat))).lo, .int .i64 (depthAt rv sides (l.getD i pass0).place ((l.getD i pass0).hours.lo + (n : Nat))).hi], .int .i64 0] := hd 13 (by omega)
                  have e14 : val 14 = .agg #[.int .i64 (depthAt rv sides (l.getD i pass0).place ((l.getD i pass0).hours.lo + (n : Nat))).lo, .int .i64 (depthAt rv sides (l.getD i pass0).place ((l.getD i pass0).hours.lo + (n : Nat))).hi] := hd 14 (by omega)
                  have e15 : val 15 = .int .i64 0 := hd 15 (by omega)
                  obtain ⟨ga16_18, e16, qa16_18⟩ := hd 17 (by omega)
                  change val 16 = _ at e16
                  refine EL.ends (cs := [.pointer (some ⟨g1, 0, none⟩), .agg #[.slice A rv.reaches.length c, .slice A' rv.shoals.length c'], val 2, .pointer (some ⟨g1, 2, none⟩), .slice (some ⟨bS, oS, none⟩) sides.length d, val 5, .slice (some ⟨bw, ow, none⟩) l.length cw, .int .i64 (i : Nat), .pointer (some ⟨bw, ow + i * 3, none⟩), .pointer (some ⟨bw, ow + i * 3, none⟩), .int .i64 (l.getD i pass0).place, .int .i64 ((l.getD i pass0).hours.lo + (n : Nat)), .tuple #[.agg #[.int .i64 (depthAt rv sides (l.getD i pass0).place ((l.getD i pass0).hours.lo + (n : Nat))).lo, .int .i64 (depthAt rv sides (l.getD i pass0).place ((l.getD i pass0).hours.lo + (n : Nat))).hi], .int .i64 0], .tuple #[.agg #[.int .i64 (depthAt rv sides (l.getD i pass0).place ((l.getD i pass0).hours.lo + (n : Nat))).lo, .int .i64 (depthAt rv sides (l.getD i pass0).place ((l.getD i pass0).hours.lo + (n : Nat))).hi], .int .i64 0], .agg #[.int .i64 (depthAt rv sides (l.getD i pass0).place ((l.getD i pass0).hours.lo + (n : Nat))).lo, .int .i64 (depthAt rv sides (l.getD i pass0).place ((l.getD i pass0).hours.lo + (n : Nat))).hi], .int .i64 0, .pointer (some ⟨ga16_18, 0, none⟩), val 17]) ⟨e0, e1, rfl, e3, e4, rfl, e6, e7, e8, e9, e10, e11, e12, e13, e14, e15, e16, rfl, trivial⟩ rfl ?_
                  replace q1 := q1.below hb q1.lt
                  replace qa15_3 := qa15_3.below hb qa15_3.lt
                  replace q8 := q8.below hb q8.lt
                  have bge12 := alc_ge halc (i := 16) rfl rfl e16
                  have n1_12 : g1 ≠ ga16_18 := Nat.ne_of_lt (Nat.lt_of_lt_of_le lt_1 bge12)
                  have n5_12 : ga15_3 ≠ ga16_18 := Nat.ne_of_lt (Nat.lt_of_lt_of_le lt_5 bge12)
                  have n8_12 : g8 ≠ ga16_18 := Nat.ne_of_lt (Nat.lt_of_lt_of_le lt_8 bge12)
                  have bhbw_12 := Nat.le_trans hbw.size bge12
                  replace hbw := Below.on hbw hb hbw.size
                  refine EL.val (x_assign rfl) rfl ?_
                  refine EL.nil ?_
                  refine EX.seq ?_
                  refine EC.seq ?_
                  refine EC.region ?_
                  refine EL.val (x_move rfl) rfl ?_
                  refine EL.val (x_neq rfl rfl (by first | assumption | exact decide_eq_false (by omega))) rfl ?_
                  refine EL.val (x_move rfl) rfl ?_
                  refine EL.valg rfl rfl (fa_23_0 rfl) rfl ?_
                  refine EL.valg rfl rfl (ld_3 rfl (qa16_18.at (j := 0) rfl)) rfl ?_
                  refine EL.valg rfl rfl (fa_23_0 rfl) rfl ?_
                  refine EL.valg rfl rfl (ld_3 rfl (qa15_3.at (j := 0) rfl)) rfl ?_
                  refine EL.valg rfl rfl (x_lss rfl rfl (by first | assumption | exact decide_eq_false (by omega))) rfl ?_
                  refine EL.val (x_pick_f rfl rfl) rfl ?_
                  refine EL.val (x_move rfl) rfl ?_
                  refine EL.valg rfl rfl (fa_23_0 rfl) rfl ?_
                  refine EL.valg rfl rfl (ld_3 rfl (qa16_18.at (j := 0) rfl)) rfl ?_
                  refine EL.valg rfl rfl (fa_23_0 rfl) rfl ?_
                  refine EL.valg rfl rfl (ld_3 rfl (qa15_3.at (j := 0) rfl)) rfl ?_
                  by_cases heq : (depthAt rv sides (l.getD i pass0).place ((l.getD i pass0).hours.lo + (n : Nat))).lo = (shUp rv sides l l.length).lo
                  ·
                    have h_no : ¬ (i < pi ∨ (i = pi ∧ n < pm)) := fun h => by have := hal2 h; omega
                    refine EL.valg rfl rfl (x_eql rfl rfl (by first | assumption | exact decide_eq_true (by omega))) rfl ?_
                    refine EL.valg rfl rfl (x_move rfl) rfl ?_
                    refine EL.valg rfl rfl (x_move rfl) rfl ?_
                    refine EL.valg rfl rfl (x_move rfl) rfl ?_
                    refine EL.valg rfl rfl (x_lss rfl rfl (by first | assumption | exact decide_eq_false (by omega))) rfl ?_
                    refine EL.valg rfl rfl (x_move rfl) rfl ?_
                    refine EL.valg rfl rfl (x_move rfl) rfl ?_
                    refine EL.valg rfl rfl (x_move rfl) rfl ?_
                    by_cases hip2 : i = pi
                    ·
                      subst hip2
                      refine EL.valg rfl rfl (x_eql rfl rfl (by first | assumption | exact decide_eq_true (by omega))) rfl ?_
                      refine EL.valg rfl rfl (x_move rfl) rfl ?_
                      refine EL.valg rfl rfl (x_move rfl) rfl ?_
                      refine EL.valg rfl rfl (x_move rfl) rfl ?_
                      refine EL.valg rfl rfl (x_lss rfl rfl (by first | assumption | exact decide_eq_false (by omega))) rfl ?_
                      refine EL.valg rfl rfl (x_pick_t rfl rfl) rfl ?_
                      refine EL.valg rfl rfl (x_pick_f rfl rfl) rfl ?_
                      refine EL.valg rfl rfl (x_pick_t rfl rfl) rfl ?_
                      refine EL.val (x_pick_f rfl rfl) rfl ?_
                      refine EL.nil ?_
                      refine EX.seq ?_
                      refine EC.no rfl ?_
                      refine EC.skip ?_
                      refine EX.blk ?_
                      refine EX.seq ?_
                      refine EC.region ?_
                      refine EL.val (x_move rfl) rfl ?_
                      refine EL.val (x_add rfl rfl (by first | assumption | exact IntWalk.i64_in _ ⟨by omega, by omega⟩)) rfl ?_
                      refine EL.val (x_assign rfl) rfl ?_
                      refine EL.nil ?_
                      refine EX.roundD (i + 1) ⟨rfl, trivial⟩ (by repeat first | exact Sub.refl _ | refine sub_past rfl ?_ | refine sub_del rfl ?_ | refine sub_insL_nil ?_) ⟨hlt, q1, qa15_3, hbw⟩ (by omega)
                    ·
                      refine EL.valg rfl rfl (x_eql rfl rfl (by first | assumption | exact decide_eq_false (by omega))) rfl ?_
                      refine EL.valg rfl rfl (x_move rfl) rfl ?_
                      refine EL.skip rfl rfl rfl rfl ?_
                      refine EL.skip rfl rfl rfl rfl ?_
                      refine EL.skip rfl rfl rfl rfl ?_
                      refine EL.valg rfl rfl (x_pick_f rfl rfl) rfl ?_
                      refine EL.valg rfl rfl (x_pick_f rfl rfl) rfl ?_
                      refine EL.valg rfl rfl (x_pick_t rfl rfl) rfl ?_
                      refine EL.val (x_pick_f rfl rfl) rfl ?_
                      refine EL.nil ?_
                      refine EX.seq ?_
                      refine EC.no rfl ?_
                      refine EC.skip ?_
                      refine EX.blk ?_
                      refine EX.seq ?_
                      refine EC.region ?_
                      refine EL.val (x_move rfl) rfl ?_
                      refine EL.val (x_add rfl rfl (by first | assumption | exact IntWalk.i64_in _ ⟨by omega, by omega⟩)) rfl ?_
                      refine EL.val (x_assign rfl) rfl ?_
                      refine EL.nil ?_
                      refine EX.roundD (i + 1) ⟨rfl, trivial⟩ (by repeat first | exact Sub.refl _ | refine sub_past rfl ?_ | refine sub_del rfl ?_ | refine sub_insL_nil ?_) ⟨hlt, q1, qa15_3, hbw⟩ (by omega)
                  ·
                    refine EL.valg rfl rfl (x_eql rfl rfl (by first | assumption | exact decide_eq_false (by omega))) rfl ?_
                    refine EL.valg rfl rfl (x_move rfl) rfl ?_
                    refine EL.skip rfl rfl rfl rfl ?_
                    refine EL.skip rfl rfl rfl rfl ?_
                    refine EL.skip rfl rfl rfl rfl ?_
                    refine EL.skip rfl rfl rfl rfl ?_
                    refine EL.skip rfl rfl rfl rfl ?_
                    refine EL.skip rfl rfl rfl rfl ?_
                    refine EL.skip rfl rfl rfl rfl ?_
                    refine EL.skip rfl rfl rfl rfl ?_
                    refine EL.skip rfl rfl rfl rfl ?_
                    refine EL.skip rfl rfl rfl rfl ?_
                    refine EL.skip rfl rfl rfl rfl ?_
                    refine EL.skip rfl rfl rfl rfl ?_
                    refine EL.skip rfl rfl rfl rfl ?_
                    refine EL.valg rfl rfl (x_pick_f rfl rfl) rfl ?_
                    refine EL.val (x_pick_f rfl rfl) rfl ?_
                    refine EL.nil ?_
                    refine EX.seq ?_
                    refine EC.no rfl ?_
                    refine EC.skip ?_
                    refine EX.blk ?_
                    refine EX.seq ?_
                    refine EC.region ?_
                    refine EL.val (x_move rfl) rfl ?_
                    refine EL.val (x_add rfl rfl (by first | assumption | exact IntWalk.i64_in _ ⟨by omega, by omega⟩)) rfl ?_
                    refine EL.val (x_assign rfl) rfl ?_
                    refine EL.nil ?_
                    refine EX.roundD (i + 1) ⟨rfl, trivial⟩ (by repeat first | exact Sub.refl _ | refine sub_past rfl ?_ | refine sub_del rfl ?_ | refine sub_insL_nil ?_) ⟨hlt, q1, qa15_3, hbw⟩ (by omega)
              ·
                obtain ⟨k, ek⟩ : ∃ k, k = cut % l.length := ⟨_, rfl⟩
                have hk : k < l.length := by rw [ek]; exact Nat.mod_lt _ (by omega)
                have tk : ((cut : Nat) : Int).tmod ((l.length : Nat) : Int) = ((k : Nat) : Int) := by rw [ek, Int.ofNat_tmod]
                refine EC.seq ?_
                refine EC.seq ?_
                refine EC.region ?_
                refine EL.val (x_move rfl) rfl ?_
                refine EL.val (x_move rfl) rfl ?_
                refine EL.val (ln_99 rfl) rfl ?_
                refine EL.val (x_lss rfl rfl (by first | assumption | exact decide_eq_false (by omega))) rfl ?_
                refine EL.nil ?_
                refine EX.seq ?_
                refine EC.no rfl ?_
                refine EC.exit ?_
                refine EX.seq_exit ?_
                refine EX.seq_exit ?_
                refine EX.blk_here ?_
                refine EX.seq ?_
                refine EC.seq ?_
                refine EC.seq ?_
                refine EC.region ?_
                refine EL.val (x_move rfl) rfl ?_
                refine EL.val (cv_5_3 rfl (IntWalk.i64_in _ ⟨by omega, by omega⟩)) rfl ?_
                refine EL.val (x_move rfl) rfl ?_
                refine EL.val (ln_99 rfl) rfl ?_
                refine EL.val (x_rem rfl rfl (by omega) tk) rfl ?_
                refine EL.val (x_assign rfl) rfl ?_
                refine EL.nil ?_
                refine EX.seq ?_
                refine EC.seq ?_
                refine EC.region ?_
                refine EL.val (x_move rfl) rfl ?_
                by_cases hk0 : 0 < k
                ·
                  have hw1 := way_take hway (by omega) (Nat.le_of_lt hk)
                  have hw2 := way_drop hway hk
                  have lt1 : (l.take k).length = k := by rw [List.length_take]; omega
                  have lt2 : (l.drop k).length = l.length - k := List.length_drop
                  have hr1 := hwy.takeP (Nat.le_of_lt hk)
                  obtain ⟨oD, hoD⟩ : ∃ y, (if cw = k then ow else ow + k * 3) = y := ⟨_, rfl⟩
                  have hr2 := hwy.dropP hk hoD
                  have hcw : l.length ≤ cw := by obtain ⟨_, _, _, e, hc, _⟩ := hwy; cases e; exact hc
                  have hprt := way_parts (rv := rv) (sides := sides) (l := l) (m := k) (by omega) (Nat.le_of_lt hk) (by have := shUp_bd hS hway.ok (j := k) (Nat.le_of_lt hk); omega)
                  have hr1q : Rd w B 3 (.slice (some ⟨bw, ow, none⟩) k cw) (l.take k).length (passesC (l.take k)) := by rw [lt1]; exact hr1
                  have hr2q : Rd w B 3 (.slice (some ⟨bw, oD, none⟩) (l.length - k) (cw - k)) (l.drop k).length (passesC (l.drop k)) := by rw [lt2]; exact hr2
                  refine EL.val (x_gtr rfl rfl (by first | assumption | exact decide_eq_true (by omega))) rfl ?_
                  refine EL.nil ?_
                  refine EX.seq ?_
                  refine EC.yes rfl ?_
                  refine EC.seq ?_
                  have lt_1 := q1.lt
                  have lt_5 := qa15_3.lt
                  refine EC.regionS [[], [0], [0, 1], [], [3], [0, 1, 2, 3, 4], [], [], [], [7, 8], [0, 1, 2, 3, 4, 5, 6, 7, 8, 9], [0, 1, 2, 3, 4, 5, 6, 7, 8, 9, 10], [0, 1, 2, 3, 4, 5, 6, 7, 8, 9, 10, 11], [0, 1, 2, 3, 4, 5, 6, 7, 8, 9, 10, 11, 12], [0, 1, 2, 3, 4, 5, 6, 7, 8, 9, 10, 11, 12], [0, 1, 2, 3, 4, 5, 6, 7, 8, 9, 10, 11, 12], [0, 1, 2, 3, 4, 5, 6, 7, 8, 9, 10, 11, 12], [], [0, 1, 2, 3, 4, 5, 6, 7, 8, 9, 10, 11, 12, 13, 17], [0, 1, 2, 3, 4, 5, 6, 7, 8, 9, 10, 11, 12, 13, 14, 17, 18], [0, 1, 2, 3, 4, 5, 6, 7, 8, 9, 10, 11, 12, 13, 14, 15, 17, 18, 19], [0, 1, 2, 3, 4, 5, 6, 7, 8, 9, 10, 11, 12, 13, 14, 15, 16, 17, 18, 19, 20]] 21 [17] [18] (fun _ w_ => Below wr.heap.size wr w_) (phiS (fun i_ r => match i_ with | 0 => r 0 = .pointer (some ⟨g1, 0, none⟩) | 1 => r 1 = .agg #[.slice A rv.reaches.length c, .slice A' rv.shoals.length c'] | 3 => r 3 = .pointer (some ⟨g1, 2, none⟩) | 4 => r 4 = .slice (some ⟨bS, oS, none⟩) sides.length d | 7 => r 7 = .slice (some ⟨bw, ow, none⟩) l.length cw | 8 => r 8 = .int .i64 (k : Nat) | 9 => r 9 = .slice (some ⟨bw, ow, none⟩) k cw | 11 => r 11 = .tuple #[.agg #[.int .i64 (shUp rv sides (l.take k) (l.take k).length).lo, .int .i64 (shUp rv sides (l.take k) (l.take k).length).hi], .int .i64 (shUp rv sides (l.take k) (l.take k).length).pass, .int .i64 (shUp rv sides (l.take k) (l.take k).length).hour, .int .i64 0] | 12 => r 12 = .tuple #[.agg #[.int .i64 (shUp rv sides (l.take k) (l.take k).length).lo, .int .i64 (shUp rv sides (l.take k) (l.take k).length).hi], .int .i64 (shUp rv sides (l.take k) (l.take k).length).pass, .int .i64 (shUp rv sides (l.take k) (l.take k).length).hour, .int .i64 0] | 13 => r 13 = .agg #[.int .i64 (shUp rv sides (l.take k) (l.take k).length).lo, .int .i64 (shUp rv sides (l.take k) (l.take k).length).hi] | 14 => r 14 = .int .i64 (shUp rv sides (l.take k) (l.take k).length).pass | 15 => r 15 = .int .i64 (shUp rv sides (l.take k) (l.take k).length).hour | 16 => r 16 = .int .i64 0 | 19 => r 19 = .int .i64 (shUp rv sides (l.take k) (l.take k).length).pass | 20 => r 20 = .int .i64 (shUp rv sides (l.take k) (l.take k).length).hour | _ => True) [(2, fun fl r w_ => fl 18 = false → (∃ a b vs, r 2 = .agg #[a, b] ∧ RdRiver w_ w_.heap.size a b rv vs)), (5, fun fl r w_ => fl 18 = false → (∃ v ss, r 5 = v ∧ RdSides w_ w_.heap.size v sides ss)), (6, fun fl r w_ => fl 18 = false → (∃ g_, r 6 = .slice (some ⟨g_, 0, none⟩) 0 0 ∧ Blk w_ g_ 101 #[] ∧ wr.heap.size ≤ g_)), (10, fun fl r w_ => fl 18 = false → (∃ v, r 10 = v ∧ w_.ownsRow wr.heap.size 101 3 v (l.take k).length (passesC (l.take k)))), (17, fun fl r w_ => ∃ g_, r 17 = .pointer (some ⟨g_, 0, none⟩) ∧ wr.heap.size ≤ g_ ∧ (fl 18 = false → Blk w_ g_ 23 #[.int .i64 0, .int .i64 0])), (18, fun _ r w_ => ∃ g_, r 17 = .pointer (some ⟨g_, 0, none⟩) ∧ Blk w_ g_ 23 #[.int .i64 (shUp rv sides (l.take k) (l.take k).length).lo, .int .i64 (shUp rv sides (l.take k) (l.take k).length).hi])]) (by kernel_rfl) rfl rfl (by intro i hi; simp at hi; first | (subst hi; exact ⟨by simp, by omega⟩) | (rcases hi with rfl | rfl | rfl <;> exact ⟨by simp, by omega⟩) | (rcases hi with rfl | rfl <;> exact ⟨by simp, by omega⟩)) (base_below wr) (phiS_cons (monoS_till mono_riv) (phiS_cons (monoS_till mono_sid) (phiS_cons (monoS_till mono_bs) (phiS_cons (monoS_till mono_row) (phiS_cons monoS_alloc (phiS_cons monoS_store (phiS_nil))))))) (fun i_ hi_ hs_ => ?_) (fun i_ hi_ => ?_) ?_
                  · match i_, hi_ with
                    | 0, _ =>
                      intro val fl w1 a hb ha hd hfl
                      have ha := ha.sub (Sub.ins (d := 3) (Sub.nil _) rfl)
                      exact ss_val ha rfl rfl (fa_54_0 rfl) rfl rfl
                    | 1, _ =>
                      intro val fl w1 a hb ha hd hfl
                      have e0 : val 0 = .pointer (some ⟨g1, 0, none⟩) := hd 0 (memB_mem.1 rfl)
                      have ha := ha.sub (Sub.ins (d := 244) (Sub.nil _) (dep_get rfl e0))
                      exact ss_val ha rfl rfl (ld_47 rfl ((q1.below hb q1.lt).at (j := 0) rfl) ((q1.below hb q1.lt).at (j := 1) rfl)) rfl rfl
                    | 2, _ =>
                      intro val fl w1 a hb ha hd hfl
                      have e1 : val 1 = .agg #[.slice A rv.reaches.length c, .slice A' rv.shoals.length c'] := hd 1 (memB_mem.1 rfl)
                      have ha := ha.sub (Sub.ins (d := 245) (Sub.nil _) (dep_get rfl e1))
                      refine ss_call ha rfl rfl (cl_24 rfl) (copied_any rv _ _ vs _ B (hr.below ((Below.on hbw hb hbw.size).mono hB)) (Nat.le_trans hB (Below.on hbw hb hbw.size).size) (by omega) (by omega) f3) rfl ?_
                      rintro e w' ⟨⟨v1, u1, vs1, rfl, hcp⟩, hb'⟩
                      exact ⟨_, rfl, hb', fun _ => ⟨_, _, _, rfl, hcp⟩⟩
                    | 3, _ =>
                      intro val fl w1 a hb ha hd hfl
                      have ha := ha.sub (Sub.ins (d := 3) (Sub.nil _) rfl)
                      exact ss_val ha rfl rfl (fa_54_1 rfl) rfl rfl
                    | 4, _ =>
                      intro val fl w1 a hb ha hd hfl
                      have e3 : val 3 = .pointer (some ⟨g1, 2, none⟩) := hd 3 (memB_mem.1 rfl)
                      have ha := ha.sub (Sub.ins (d := 247) (Sub.nil _) (dep_get rfl e3))
                      exact ss_val ha rfl rfl (ld_52 rfl ((q1.below hb q1.lt).at (j := 2) rfl)) rfl rfl
                    | 5, _ =>
                      intro val fl w1 a hb ha hd hfl
                      have e4 : val 4 = .slice (some ⟨bS, oS, none⟩) sides.length d := hd 4 (memB_mem.1 rfl)
                      have ha := ha.sub (Sub.ins (d := 248) (Sub.nil _) (dep_get rfl e4))
                      refine ss_call ha rfl rfl (cl_34 rfl) (forecast_any sides _ ss _ B (hs.below ((Below.on hbw hb hbw.size).mono hB)) (Nat.le_trans hB (Below.on hbw hb hbw.size).size) (by omega) f4) rfl ?_
                      rintro e w' ⟨⟨v1, ss1, rfl, hcp⟩, hb'⟩
                      exact ⟨_, rfl, hb', fun _ => ⟨_, _, rfl, hcp⟩⟩
                    | 6, _ =>
                      intro val fl w1 a hb ha hd hfl
                      have ha := ha.sub (Sub.nil _)
                      exact ss_newS ha rfl rfl (bs_99_0) rfl (fun g w' hq _ hge => fun _ => ⟨g, rfl, hq, Nat.le_trans hb.size hge⟩)
                    | 7, _ =>
                      intro val fl w1 a hb ha hd hfl
                      have ha := ha.sub (Sub.ins (d := 1) (Sub.nil _) rfl)
                      exact ss_val ha rfl rfl (x_move rfl) rfl rfl
                    | 8, _ =>
                      intro val fl w1 a hb ha hd hfl
                      have ha := ha.sub (Sub.ins (d := 17) (Sub.nil _) rfl)
                      exact ss_val ha rfl rfl (x_move rfl) rfl rfl
                    | 9, _ =>
                      intro val fl w1 a hb ha hd hfl
                      have e7 : val 7 = .slice (some ⟨bw, ow, none⟩) l.length cw := hd 7 (memB_mem.1 rfl)
                      have e8 : val 8 = .int .i64 (k : Nat) := hd 8 (memB_mem.1 rfl)
                      have ha := ha.sub (Sub.ins (d := 252) (Sub.ins (d := 251) (Sub.nil _) (dep_get rfl e7)) (dep_get rfl e8))
                      exact ss_val ha rfl rfl (slh_99 rfl rfl (by omega)) rfl rfl
                    | 10, _ =>
                      intro val fl w1 a hb ha hd hfl
                      obtain ⟨g6_, e6, q6_, h6_⟩ := hd 6 (memB_mem.1 rfl) (hfl 18 (by simp) (memB_mem.1 rfl))
                      change val 6 = _ at e6
                      have e9 : val 9 = .slice (some ⟨bw, ow, none⟩) k cw := hd 9 (memB_mem.1 rfl)
                      have ha := ha.sub (Sub.ins (d := 253) (Sub.ins (d := 250) (Sub.nil _) (dep_get rfl e6)) (dep_get rfl e9))
                      exact ss_copy pass_elem2 ha rfl rfl rfl q6_ h6_ (hr1q.below ((Below.on hbw hb hbw.size).mono hB)) (passesC_one _) (by omega) rfl hb.size rfl (fun v' w' ho => fun _ => ⟨_, rfl, ho⟩)
                    | 11, _ =>
                      intro val fl w1 a hb ha hd hfl
                      obtain ⟨a2_, b2_, vs2_, e2, q2_⟩ := hd 2 (memB_mem.1 rfl) (hfl 18 (by simp) (memB_mem.1 rfl))
                      obtain ⟨v5_, ss5_, e5, q5_⟩ := hd 5 (memB_mem.1 rfl) (hfl 18 (by simp) (memB_mem.1 rfl))
                      obtain ⟨v10_, e10, q10_⟩ := hd 10 (memB_mem.1 rfl) (hfl 18 (by simp) (memB_mem.1 rfl))
                      have ha := ha.sub (Sub.ins (d := 254) (Sub.ins (d := 249) (Sub.ins (d := 246) (Sub.nil _) (dep_get rfl e2)) (dep_get rfl e5)) (dep_get rfl e10))
                      refine ss_call ha rfl rfl (cl_51 rfl rfl rfl) (shallow_good rv sides _ _ _ _ _ (l.take k) _ _ w1.heap.size q2_ q5_ (Nat.le_refl _) (Rd.of_own q10_) hfine hst hw1) rfl ?_
                      rintro e w' ⟨rfl, hb'⟩
                      exact ⟨_, rfl, hb', rfl⟩
                    | 12, _ =>
                      intro val fl w1 a hb ha hd hfl
                      have e11 : val 11 = .tuple #[.agg #[.int .i64 (shUp rv sides (l.take k) (l.take k).length).lo, .int .i64 (shUp rv sides (l.take k) (l.take k).length).hi], .int .i64 (shUp rv sides (l.take k) (l.take k).length).pass, .int .i64 (shUp rv sides (l.take k) (l.take k).length).hour, .int .i64 0] := hd 11 (memB_mem.1 rfl)
                      have ha := ha.sub (Sub.ins (d := 255) (Sub.nil _) (dep_get rfl e11))
                      exact ss_val ha rfl rfl (x_move rfl) rfl rfl
                    | 13, _ =>
                      intro val fl w1 a hb ha hd hfl
                      have e12 : val 12 = .tuple #[.agg #[.int .i64 (shUp rv sides (l.take k) (l.take k).length).lo, .int .i64 (shUp rv sides (l.take k) (l.take k).length).hi], .int .i64 (shUp rv sides (l.take k) (l.take k).length).pass, .int .i64 (shUp rv sides (l.take k) (l.take k).length).hour, .int .i64 0] := hd 12 (memB_mem.1 rfl)
                      have ha := ha.sub (Sub.ins (d := 243) (Sub.nil _) (dep_get rfl e12))
                      exact ss_val ha rfl rfl (x_extract rfl rfl) rfl rfl
                    | 14, _ =>
                      intro val fl w1 a hb ha hd hfl
                      have e12 : val 12 = .tuple #[.agg #[.int .i64 (shUp rv sides (l.take k) (l.take k).length).lo, .int .i64 (shUp rv sides (l.take k) (l.take k).length).hi], .int .i64 (shUp rv sides (l.take k) (l.take k).length).pass, .int .i64 (shUp rv sides (l.take k) (l.take k).length).hour, .int .i64 0] := hd 12 (memB_mem.1 rfl)
                      have ha := ha.sub (Sub.ins (d := 243) (Sub.nil _) (dep_get rfl e12))
                      exact ss_val ha rfl rfl (x_extract rfl rfl) rfl rfl
                    | 15, _ =>
                      intro val fl w1 a hb ha hd hfl
                      have e12 : val 12 = .tuple #[.agg #[.int .i64 (shUp rv sides (l.take k) (l.take k).length).lo, .int .i64 (shUp rv sides (l.take k) (l.take k).length).hi], .int .i64 (shUp rv sides (l.take k) (l.take k).length).pass, .int .i64 (shUp rv sides (l.take k) (l.take k).length).hour, .int .i64 0] := hd 12 (memB_mem.1 rfl)
                      have ha := ha.sub (Sub.ins (d := 243) (Sub.nil _) (dep_get rfl e12))
                      exact ss_val ha rfl rfl (x_extract rfl rfl) rfl rfl
                    | 16, _ =>
                      intro val fl w1 a hb ha hd hfl
                      have e12 : val 12 = .tuple #[.agg #[.int .i64 (shUp rv sides (l.take k) (l.take k).length).lo, .int .i64 (shUp rv sides (l.take k) (l.take k).length).hi], .int .i64 (shUp rv sides (l.take k) (l.take k).length).pass, .int .i64 (shUp rv sides (l.take k) (l.take k).length).hour, .int .i64 0] := hd 12 (memB_mem.1 rfl)
                      have ha := ha.sub (Sub.ins (d := 243) (Sub.nil _) (dep_get rfl e12))
                      exact ss_val ha rfl rfl (x_extract rfl rfl) rfl rfl
                    | 17, _ =>
                      intro val fl w1 a hb ha hd hfl
                      have ha := ha.sub (Sub.nil _)
                      exact ss_newP ha rfl rfl al_23 (fun g w' hq _ hge => ⟨g, rfl, Nat.le_trans hb.size hge, fun _ => hq⟩)
                    | 18, _ =>
                      exact absurd (by simp) hs_
                    | 19, _ =>
                      intro val fl w1 a hb ha hd hfl
                      have e14 : val 14 = .int .i64 (shUp rv sides (l.take k) (l.take k).length).pass := hd 14 (memB_mem.1 rfl)
                      have ha := ha.sub (Sub.ins (d := 257) (Sub.nil _) (dep_get rfl e14))
                      exact ss_val ha rfl rfl (x_assign rfl) rfl rfl
                    | 20, _ =>
                      intro val fl w1 a hb ha hd hfl
                      have e15 : val 15 = .int .i64 (shUp rv sides (l.take k) (l.take k).length).hour := hd 15 (memB_mem.1 rfl)
                      have ha := ha.sub (Sub.ins (d := 258) (Sub.nil _) (dep_get rfl e15))
                      exact ss_val ha rfl rfl (x_assign rfl) rfl rfl
                    | k + 21, h => exact absurd h (by omega)
                  · simp only [List.mem_singleton] at hi_; subst hi_
                    intro val fl w1 a hb hfi ha hd hfl
                    obtain ⟨g17_, e17, hg17_, q17_⟩ := hd 17 (memB_mem.1 rfl)
                    change val 17 = _ at e17
                    have e13 : val 13 = .agg #[.int .i64 (shUp rv sides (l.take k) (l.take k).length).lo, .int .i64 (shUp rv sides (l.take k) (l.take k).length).hi] := hd 13 (memB_mem.1 rfl)
                    have ha := ha.sub (Sub.ins (d := 256) (Sub.ins (d := 18) (Sub.nil _) (dep_get rfl e17)) (dep_get rfl e13))
                    refine ts_store ha rfl rfl rfl (q17_ hfi) sz_23 rfl rfl rfl rfl ?_
                    intro w' hq hgr
                    refine ⟨undef, rfl, hgr.size, below_store hb hgr hg17_, ⟨g17_, e17, hq⟩, fun j _ hj hn hA => ?_⟩
                    exact phiS_cons_st (C := fun j => j ≠ 18 ∧ 18 ∉ clsAt [[], [0], [0, 1], [], [3], [0, 1, 2, 3, 4], [], [], [], [7, 8], [0, 1, 2, 3, 4, 5, 6, 7, 8, 9], [0, 1, 2, 3, 4, 5, 6, 7, 8, 9, 10], [0, 1, 2, 3, 4, 5, 6, 7, 8, 9, 10, 11], [0, 1, 2, 3, 4, 5, 6, 7, 8, 9, 10, 11, 12], [0, 1, 2, 3, 4, 5, 6, 7, 8, 9, 10, 11, 12], [0, 1, 2, 3, 4, 5, 6, 7, 8, 9, 10, 11, 12], [0, 1, 2, 3, 4, 5, 6, 7, 8, 9, 10, 11, 12], [], [0, 1, 2, 3, 4, 5, 6, 7, 8, 9, 10, 11, 12, 13, 17], [0, 1, 2, 3, 4, 5, 6, 7, 8, 9, 10, 11, 12, 13, 14, 17, 18], [0, 1, 2, 3, 4, 5, 6, 7, 8, 9, 10, 11, 12, 13, 14, 15, 17, 18, 19], [0, 1, 2, 3, 4, 5, 6, 7, 8, 9, 10, 11, 12, 13, 14, 15, 16, 17, 18, 19, 20]] j ∧ ∀ p ∈ [17], (p = j ∨ p ∈ clsAt [[], [0], [0, 1], [], [3], [0, 1, 2, 3, 4], [], [], [], [7, 8], [0, 1, 2, 3, 4, 5, 6, 7, 8, 9], [0, 1, 2, 3, 4, 5, 6, 7, 8, 9, 10], [0, 1, 2, 3, 4, 5, 6, 7, 8, 9, 10, 11], [0, 1, 2, 3, 4, 5, 6, 7, 8, 9, 10, 11, 12], [0, 1, 2, 3, 4, 5, 6, 7, 8, 9, 10, 11, 12], [0, 1, 2, 3, 4, 5, 6, 7, 8, 9, 10, 11, 12], [0, 1, 2, 3, 4, 5, 6, 7, 8, 9, 10, 11, 12], [], [0, 1, 2, 3, 4, 5, 6, 7, 8, 9, 10, 11, 12, 13, 17], [0, 1, 2, 3, 4, 5, 6, 7, 8, 9, 10, 11, 12, 13, 14, 17, 18], [0, 1, 2, 3, 4, 5, 6, 7, 8, 9, 10, 11, 12, 13, 14, 15, 17, 18, 19], [0, 1, 2, 3, 4, 5, 6, 7, 8, 9, 10, 11, 12, 13, 14, 15, 16, 17, 18, 19, 20]] j) → ∀ q ∈ [17], (q = 18 ∨ q ∈ clsAt [[], [0], [0, 1], [], [3], [0, 1, 2, 3, 4], [], [], [], [7, 8], [0, 1, 2, 3, 4, 5, 6, 7, 8, 9], [0, 1, 2, 3, 4, 5, 6, 7, 8, 9, 10], [0, 1, 2, 3, 4, 5, 6, 7, 8, 9, 10, 11], [0, 1, 2, 3, 4, 5, 6, 7, 8, 9, 10, 11, 12], [0, 1, 2, 3, 4, 5, 6, 7, 8, 9, 10, 11, 12], [0, 1, 2, 3, 4, 5, 6, 7, 8, 9, 10, 11, 12], [0, 1, 2, 3, 4, 5, 6, 7, 8, 9, 10, 11, 12], [], [0, 1, 2, 3, 4, 5, 6, 7, 8, 9, 10, 11, 12, 13, 17], [0, 1, 2, 3, 4, 5, 6, 7, 8, 9, 10, 11, 12, 13, 14, 17, 18], [0, 1, 2, 3, 4, 5, 6, 7, 8, 9, 10, 11, 12, 13, 14, 15, 17, 18, 19], [0, 1, 2, 3, 4, 5, 6, 7, 8, 9, 10, 11, 12, 13, 14, 15, 16, 17, 18, 19, 20]] 18) → p ≠ q → val p ≠ val q) (fun _ _ h => by rw [fset_eq] at h; cases h) (phiS_cons_st (C := fun j => j ≠ 18 ∧ 18 ∉ clsAt [[], [0], [0, 1], [], [3], [0, 1, 2, 3, 4], [], [], [], [7, 8], [0, 1, 2, 3, 4, 5, 6, 7, 8, 9], [0, 1, 2, 3, 4, 5, 6, 7, 8, 9, 10], [0, 1, 2, 3, 4, 5, 6, 7, 8, 9, 10, 11], [0, 1, 2, 3, 4, 5, 6, 7, 8, 9, 10, 11, 12], [0, 1, 2, 3, 4, 5, 6, 7, 8, 9, 10, 11, 12], [0, 1, 2, 3, 4, 5, 6, 7, 8, 9, 10, 11, 12], [0, 1, 2, 3, 4, 5, 6, 7, 8, 9, 10, 11, 12], [], [0, 1, 2, 3, 4, 5, 6, 7, 8, 9, 10, 11, 12, 13, 17], [0, 1, 2, 3, 4, 5, 6, 7, 8, 9, 10, 11, 12, 13, 14, 17, 18], [0, 1, 2, 3, 4, 5, 6, 7, 8, 9, 10, 11, 12, 13, 14, 15, 17, 18, 19], [0, 1, 2, 3, 4, 5, 6, 7, 8, 9, 10, 11, 12, 13, 14, 15, 16, 17, 18, 19, 20]] j ∧ ∀ p ∈ [17], (p = j ∨ p ∈ clsAt [[], [0], [0, 1], [], [3], [0, 1, 2, 3, 4], [], [], [], [7, 8], [0, 1, 2, 3, 4, 5, 6, 7, 8, 9], [0, 1, 2, 3, 4, 5, 6, 7, 8, 9, 10], [0, 1, 2, 3, 4, 5, 6, 7, 8, 9, 10, 11], [0, 1, 2, 3, 4, 5, 6, 7, 8, 9, 10, 11, 12], [0, 1, 2, 3, 4, 5, 6, 7, 8, 9, 10, 11, 12], [0, 1, 2, 3, 4, 5, 6, 7, 8, 9, 10, 11, 12], [0, 1, 2, 3, 4, 5, 6, 7, 8, 9, 10, 11, 12], [], [0, 1, 2, 3, 4, 5, 6, 7, 8, 9, 10, 11, 12, 13, 17], [0, 1, 2, 3, 4, 5, 6, 7, 8, 9, 10, 11, 12, 13, 14, 17, 18], [0, 1, 2, 3, 4, 5, 6, 7, 8, 9, 10, 11, 12, 13, 14, 15, 17, 18, 19], [0, 1, 2, 3, 4, 5, 6, 7, 8, 9, 10, 11, 12, 13, 14, 15, 16, 17, 18, 19, 20]] j) → ∀ q ∈ [17], (q = 18 ∨ q ∈ clsAt [[], [0], [0, 1], [], [3], [0, 1, 2, 3, 4], [], [], [], [7, 8], [0, 1, 2, 3, 4, 5, 6, 7, 8, 9], [0, 1, 2, 3, 4, 5, 6, 7, 8, 9, 10], [0, 1, 2, 3, 4, 5, 6, 7, 8, 9, 10, 11], [0, 1, 2, 3, 4, 5, 6, 7, 8, 9, 10, 11, 12], [0, 1, 2, 3, 4, 5, 6, 7, 8, 9, 10, 11, 12], [0, 1, 2, 3, 4, 5, 6, 7, 8, 9, 10, 11, 12], [0, 1, 2, 3, 4, 5, 6, 7, 8, 9, 10, 11, 12], [], [0, 1, 2, 3, 4, 5, 6, 7, 8, 9, 10, 11, 12, 13, 17], [0, 1, 2, 3, 4, 5, 6, 7, 8, 9, 10, 11, 12, 13, 14, 17, 18], [0, 1, 2, 3, 4, 5, 6, 7, 8, 9, 10, 11, 12, 13, 14, 15, 17, 18, 19], [0, 1, 2, 3, 4, 5, 6, 7, 8, 9, 10, 11, 12, 13, 14, 15, 16, 17, 18, 19, 20]] 18) → p ≠ q → val p ≠ val q) (fun _ _ h => by rw [fset_eq] at h; cases h) (phiS_cons_st (C := fun j => j ≠ 18 ∧ 18 ∉ clsAt [[], [0], [0, 1], [], [3], [0, 1, 2, 3, 4], [], [], [], [7, 8], [0, 1, 2, 3, 4, 5, 6, 7, 8, 9], [0, 1, 2, 3, 4, 5, 6, 7, 8, 9, 10], [0, 1, 2, 3, 4, 5, 6, 7, 8, 9, 10, 11], [0, 1, 2, 3, 4, 5, 6, 7, 8, 9, 10, 11, 12], [0, 1, 2, 3, 4, 5, 6, 7, 8, 9, 10, 11, 12], [0, 1, 2, 3, 4, 5, 6, 7, 8, 9, 10, 11, 12], [0, 1, 2, 3, 4, 5, 6, 7, 8, 9, 10, 11, 12], [], [0, 1, 2, 3, 4, 5, 6, 7, 8, 9, 10, 11, 12, 13, 17], [0, 1, 2, 3, 4, 5, 6, 7, 8, 9, 10, 11, 12, 13, 14, 17, 18], [0, 1, 2, 3, 4, 5, 6, 7, 8, 9, 10, 11, 12, 13, 14, 15, 17, 18, 19], [0, 1, 2, 3, 4, 5, 6, 7, 8, 9, 10, 11, 12, 13, 14, 15, 16, 17, 18, 19, 20]] j ∧ ∀ p ∈ [17], (p = j ∨ p ∈ clsAt [[], [0], [0, 1], [], [3], [0, 1, 2, 3, 4], [], [], [], [7, 8], [0, 1, 2, 3, 4, 5, 6, 7, 8, 9], [0, 1, 2, 3, 4, 5, 6, 7, 8, 9, 10], [0, 1, 2, 3, 4, 5, 6, 7, 8, 9, 10, 11], [0, 1, 2, 3, 4, 5, 6, 7, 8, 9, 10, 11, 12], [0, 1, 2, 3, 4, 5, 6, 7, 8, 9, 10, 11, 12], [0, 1, 2, 3, 4, 5, 6, 7, 8, 9, 10, 11, 12], [0, 1, 2, 3, 4, 5, 6, 7, 8, 9, 10, 11, 12], [], [0, 1, 2, 3, 4, 5, 6, 7, 8, 9, 10, 11, 12, 13, 17], [0, 1, 2, 3, 4, 5, 6, 7, 8, 9, 10, 11, 12, 13, 14, 17, 18], [0, 1, 2, 3, 4, 5, 6, 7, 8, 9, 10, 11, 12, 13, 14, 15, 17, 18, 19], [0, 1, 2, 3, 4, 5, 6, 7, 8, 9, 10, 11, 12, 13, 14, 15, 16, 17, 18, 19, 20]] j) → ∀ q ∈ [17], (q = 18 ∨ q ∈ clsAt [[], [0], [0, 1], [], [3], [0, 1, 2, 3, 4], [], [], [], [7, 8], [0, 1, 2, 3, 4, 5, 6, 7, 8, 9], [0, 1, 2, 3, 4, 5, 6, 7, 8, 9, 10], [0, 1, 2, 3, 4, 5, 6, 7, 8, 9, 10, 11], [0, 1, 2, 3, 4, 5, 6, 7, 8, 9, 10, 11, 12], [0, 1, 2, 3, 4, 5, 6, 7, 8, 9, 10, 11, 12], [0, 1, 2, 3, 4, 5, 6, 7, 8, 9, 10, 11, 12], [0, 1, 2, 3, 4, 5, 6, 7, 8, 9, 10, 11, 12], [], [0, 1, 2, 3, 4, 5, 6, 7, 8, 9, 10, 11, 12, 13, 17], [0, 1, 2, 3, 4, 5, 6, 7, 8, 9, 10, 11, 12, 13, 14, 17, 18], [0, 1, 2, 3, 4, 5, 6, 7, 8, 9, 10, 11, 12, 13, 14, 15, 17, 18, 19], [0, 1, 2, 3, 4, 5, 6, 7, 8, 9, 10, 11, 12, 13, 14, 15, 16, 17, 18, 19, 20]] 18) → p ≠ q → val p ≠ val q) (fun _ _ h => by rw [fset_eq] at h; cases h) (phiS_cons_st (C := fun j => j ≠ 18 ∧ 18 ∉ clsAt [[], [0], [0, 1], [], [3], [0, 1, 2, 3, 4], [], [], [], [7, 8], [0, 1, 2, 3, 4, 5, 6, 7, 8, 9], [0, 1, 2, 3, 4, 5, 6, 7, 8, 9, 10], [0, 1, 2, 3, 4, 5, 6, 7, 8, 9, 10, 11], [0, 1, 2, 3, 4, 5, 6, 7, 8, 9, 10, 11, 12], [0, 1, 2, 3, 4, 5, 6, 7, 8, 9, 10, 11, 12], [0, 1, 2, 3, 4, 5, 6, 7, 8, 9, 10, 11, 12], [0, 1, 2, 3, 4, 5, 6, 7, 8, 9, 10, 11, 12], [], [0, 1, 2, 3, 4, 5, 6, 7, 8, 9, 10, 11, 12, 13, 17], [0, 1, 2, 3, 4, 5, 6, 7, 8, 9, 10, 11, 12, 13, 14, 17, 18], [0, 1, 2, 3, 4, 5, 6, 7, 8, 9, 10, 11, 12, 13, 14, 15, 17, 18, 19], [0, 1, 2, 3, 4, 5, 6, 7, 8, 9, 10, 11, 12, 13, 14, 15, 16, 17, 18, 19, 20]] j ∧ ∀ p ∈ [17], (p = j ∨ p ∈ clsAt [[], [0], [0, 1], [], [3], [0, 1, 2, 3, 4], [], [], [], [7, 8], [0, 1, 2, 3, 4, 5, 6, 7, 8, 9], [0, 1, 2, 3, 4, 5, 6, 7, 8, 9, 10], [0, 1, 2, 3, 4, 5, 6, 7, 8, 9, 10, 11], [0, 1, 2, 3, 4, 5, 6, 7, 8, 9, 10, 11, 12], [0, 1, 2, 3, 4, 5, 6, 7, 8, 9, 10, 11, 12], [0, 1, 2, 3, 4, 5, 6, 7, 8, 9, 10, 11, 12], [0, 1, 2, 3, 4, 5, 6, 7, 8, 9, 10, 11, 12], [], [0, 1, 2, 3, 4, 5, 6, 7, 8, 9, 10, 11, 12, 13, 17], [0, 1, 2, 3, 4, 5, 6, 7, 8, 9, 10, 11, 12, 13, 14, 17, 18], [0, 1, 2, 3, 4, 5, 6, 7, 8, 9, 10, 11, 12, 13, 14, 15, 17, 18, 19], [0, 1, 2, 3, 4, 5, 6, 7, 8, 9, 10, 11, 12, 13, 14, 15, 16, 17, 18, 19, 20]] j) → ∀ q ∈ [17], (q = 18 ∨ q ∈ clsAt [[], [0], [0, 1], [], [3], [0, 1, 2, 3, 4], [], [], [], [7, 8], [0, 1, 2, 3, 4, 5, 6, 7, 8, 9], [0, 1, 2, 3, 4, 5, 6, 7, 8, 9, 10], [0, 1, 2, 3, 4, 5, 6, 7, 8, 9, 10, 11], [0, 1, 2, 3, 4, 5, 6, 7, 8, 9, 10, 11, 12], [0, 1, 2, 3, 4, 5, 6, 7, 8, 9, 10, 11, 12], [0, 1, 2, 3, 4, 5, 6, 7, 8, 9, 10, 11, 12], [0, 1, 2, 3, 4, 5, 6, 7, 8, 9, 10, 11, 12], [], [0, 1, 2, 3, 4, 5, 6, 7, 8, 9, 10, 11, 12, 13, 17], [0, 1, 2, 3, 4, 5, 6, 7, 8, 9, 10, 11, 12, 13, 14, 17, 18], [0, 1, 2, 3, 4, 5, 6, 7, 8, 9, 10, 11, 12, 13, 14, 15, 17, 18, 19], [0, 1, 2, 3, 4, 5, 6, 7, 8, 9, 10, 11, 12, 13, 14, 15, 16, 17, 18, 19, 20]] 18) → p ≠ q → val p ≠ val q) (fun _ _ h => by rw [fset_eq] at h; cases h) (phiS_cons_st (C := fun j => j ≠ 18 ∧ 18 ∉ clsAt [[], [0], [0, 1], [], [3], [0, 1, 2, 3, 4], [], [], [], [7, 8], [0, 1, 2, 3, 4, 5, 6, 7, 8, 9], [0, 1, 2, 3, 4, 5, 6, 7, 8, 9, 10], [0, 1, 2, 3, 4, 5, 6, 7, 8, 9, 10, 11], [0, 1, 2, 3, 4, 5, 6, 7, 8, 9, 10, 11, 12], [0, 1, 2, 3, 4, 5, 6, 7, 8, 9, 10, 11, 12], [0, 1, 2, 3, 4, 5, 6, 7, 8, 9, 10, 11, 12], [0, 1, 2, 3, 4, 5, 6, 7, 8, 9, 10, 11, 12], [], [0, 1, 2, 3, 4, 5, 6, 7, 8, 9, 10, 11, 12, 13, 17], [0, 1, 2, 3, 4, 5, 6, 7, 8, 9, 10, 11, 12, 13, 14, 17, 18], [0, 1, 2, 3, 4, 5, 6, 7, 8, 9, 10, 11, 12, 13, 14, 15, 17, 18, 19], [0, 1, 2, 3, 4, 5, 6, 7, 8, 9, 10, 11, 12, 13, 14, 15, 16, 17, 18, 19, 20]] j ∧ ∀ p ∈ [17], (p = j ∨ p ∈ clsAt [[], [0], [0, 1], [], [3], [0, 1, 2, 3, 4], [], [], [], [7, 8], [0, 1, 2, 3, 4, 5, 6, 7, 8, 9], [0, 1, 2, 3, 4, 5, 6, 7, 8, 9, 10], [0, 1, 2, 3, 4, 5, 6, 7, 8, 9, 10, 11], [0, 1, 2, 3, 4, 5, 6, 7, 8, 9, 10, 11, 12], [0, 1, 2, 3, 4, 5, 6, 7, 8, 9, 10, 11, 12], [0, 1, 2, 3, 4, 5, 6, 7, 8, 9, 10, 11, 12], [0, 1, 2, 3, 4, 5, 6, 7, 8, 9, 10, 11, 12], [], [0, 1, 2, 3, 4, 5, 6, 7, 8, 9, 10, 11, 12, 13, 17], [0, 1, 2, 3, 4, 5, 6, 7, 8, 9, 10, 11, 12, 13, 14, 17, 18], [0, 1, 2, 3, 4, 5, 6, 7, 8, 9, 10, 11, 12, 13, 14, 15, 17, 18, 19], [0, 1, 2, 3, 4, 5, 6, 7, 8, 9, 10, 11, 12, 13, 14, 15, 16, 17, 18, 19, 20]] j) → ∀ q ∈ [17], (q = 18 ∨ q ∈ clsAt [[], [0], [0, 1], [], [3], [0, 1, 2, 3, 4], [], [], [], [7, 8], [0, 1, 2, 3, 4, 5, 6, 7, 8, 9], [0, 1, 2, 3, 4, 5, 6, 7, 8, 9, 10], [0, 1, 2, 3, 4, 5, 6, 7, 8, 9, 10, 11], [0, 1, 2, 3, 4, 5, 6, 7, 8, 9, 10, 11, 12], [0, 1, 2, 3, 4, 5, 6, 7, 8, 9, 10, 11, 12], [0, 1, 2, 3, 4, 5, 6, 7, 8, 9, 10, 11, 12], [0, 1, 2, 3, 4, 5, 6, 7, 8, 9, 10, 11, 12], [], [0, 1, 2, 3, 4, 5, 6, 7, 8, 9, 10, 11, 12, 13, 17], [0, 1, 2, 3, 4, 5, 6, 7, 8, 9, 10, 11, 12, 13, 14, 17, 18], [0, 1, 2, 3, 4, 5, 6, 7, 8, 9, 10, 11, 12, 13, 14, 15, 17, 18, 19], [0, 1, 2, 3, 4, 5, 6, 7, 8, 9, 10, 11, 12, 13, 14, 15, 16, 17, 18, 19, 20]] 18) → p ≠ q → val p ≠ val q) (fun _ ⟨g, h1, h2, _⟩ => ⟨g, h1, h2, fun h => by rw [fset_eq] at h; cases h⟩) (phiS_cons_st (C := fun j => j ≠ 18 ∧ 18 ∉ clsAt [[], [0], [0, 1], [], [3], [0, 1, 2, 3, 4], [], [], [], [7, 8], [0, 1, 2, 3, 4, 5, 6, 7, 8, 9], [0, 1, 2, 3, 4, 5, 6, 7, 8, 9, 10], [0, 1, 2, 3, 4, 5, 6, 7, 8, 9, 10, 11], [0, 1, 2, 3, 4, 5, 6, 7, 8, 9, 10, 11, 12], [0, 1, 2, 3, 4, 5, 6, 7, 8, 9, 10, 11, 12], [0, 1, 2, 3, 4, 5, 6, 7, 8, 9, 10, 11, 12], [0, 1, 2, 3, 4, 5, 6, 7, 8, 9, 10, 11, 12], [], [0, 1, 2, 3, 4, 5, 6, 7, 8, 9, 10, 11, 12, 13, 17], [0, 1, 2, 3, 4, 5, 6, 7, 8, 9, 10, 11, 12, 13, 14, 17, 18], [0, 1, 2, 3, 4, 5, 6, 7, 8, 9, 10, 11, 12, 13, 14, 15, 17, 18, 19], [0, 1, 2, 3, 4, 5, 6, 7, 8, 9, 10, 11, 12, 13, 14, 15, 16, 17, 18, 19, 20]] j ∧ ∀ p ∈ [17], (p = j ∨ p ∈ clsAt [[], [0], [0, 1], [], [3], [0, 1, 2, 3, 4], [], [], [], [7, 8], [0, 1, 2, 3, 4, 5, 6, 7, 8, 9], [0, 1, 2, 3, 4, 5, 6, 7, 8, 9, 10], [0, 1, 2, 3, 4, 5, 6, 7, 8, 9, 10, 11], [0, 1, 2, 3, 4, 5, 6, 7, 8, 9, 10, 11, 12], [0, 1, 2, 3, 4, 5, 6, 7, 8, 9, 10, 11, 12], [0, 1, 2, 3, 4, 5, 6, 7, 8, 9, 10, 11, 12], [0, 1, 2, 3, 4, 5, 6, 7, 8, 9, 10, 11, 12], [], [0, 1, 2, 3, 4, 5, 6, 7, 8, 9, 10, 11, 12, 13, 17], [0, 1, 2, 3, 4, 5, 6, 7, 8, 9, 10, 11, 12, 13, 14, 17, 18], [0, 1, 2, 3, 4, 5, 6, 7, 8, 9, 10, 11, 12, 13, 14, 15, 17, 18, 19], [0, 1, 2, 3, 4, 5, 6, 7, 8, 9, 10, 11, 12, 13, 14, 15, 16, 17, 18, 19, 20]] j) → ∀ q ∈ [17], (q = 18 ∨ q ∈ clsAt [[], [0], [0, 1], [], [3], [0, 1, 2, 3, 4], [], [], [], [7, 8], [0, 1, 2, 3, 4, 5, 6, 7, 8, 9], [0, 1, 2, 3, 4, 5, 6, 7, 8, 9, 10], [0, 1, 2, 3, 4, 5, 6, 7, 8, 9, 10, 11], [0, 1, 2, 3, 4, 5, 6, 7, 8, 9, 10, 11, 12], [0, 1, 2, 3, 4, 5, 6, 7, 8, 9, 10, 11, 12], [0, 1, 2, 3, 4, 5, 6, 7, 8, 9, 10, 11, 12], [0, 1, 2, 3, 4, 5, 6, 7, 8, 9, 10, 11, 12], [], [0, 1, 2, 3, 4, 5, 6, 7, 8, 9, 10, 11, 12, 13, 17], [0, 1, 2, 3, 4, 5, 6, 7, 8, 9, 10, 11, 12, 13, 14, 17, 18], [0, 1, 2, 3, 4, 5, 6, 7, 8, 9, 10, 11, 12, 13, 14, 15, 17, 18, 19], [0, 1, 2, 3, 4, 5, 6, 7, 8, 9, 10, 11, 12, 13, 14, 15, 16, 17, 18, 19, 20]] 18) → p ≠ q → val p ≠ val q) (fun hc => absurd rfl hc.1) (fun _ _ h => h)))))) j ⟨hj, hn, hA⟩
                  · intro val fl wR23 hfl hb halc hd
                    have e0 : val 0 = .pointer (some ⟨g1, 0, none⟩) := hd 0 (by omega)
                    have e1 : val 1 = .agg #[.slice A rv.reaches.length c, .slice A' rv.shoals.length c'] := hd 1 (by omega)
                    have e3 : val 3 = .pointer (some ⟨g1, 2, none⟩) := hd 3 (by omega)
                    have e4 : val 4 = .slice (some ⟨bS, oS, none⟩) sides.length d := hd 4 (by omega)
                    have e7 : val 7 = .slice (some ⟨bw, ow, none⟩) l.length cw := hd 7 (by omega)
                    have e8 : val 8 = .int .i64 (k : Nat) := hd 8 (by omega)
                    have e9 : val 9 = .slice (some ⟨bw, ow, none⟩) k cw := hd 9 (by omega)
                    have e11 : val 11 = .tuple #[.agg #[.int .i64 (shUp rv sides (l.take k) (l.take k).length).lo, .int .i64 (shUp rv sides (l.take k) (l.take k).length).hi], .int .i64 (shUp rv sides (l.take k) (l.take k).length).pass, .int .i64 (shUp rv sides (l.take k) (l.take k).length).hour, .int .i64 0] := hd 11 (by omega)
                    have e12 : val 12 = .tuple #[.agg #[.int .i64 (shUp rv sides (l.take k) (l.take k).length).lo, .int .i64 (shUp rv sides (l.take k) (l.take k).length).hi], .int .i64 (shUp rv sides (l.take k) (l.take k).length).pass, .int .i64 (shUp rv sides (l.take k) (l.take k).length).hour, .int .i64 0] := hd 12 (by omega)
                    have e13 : val 13 = .agg #[.int .i64 (shUp rv sides (l.take k) (l.take k).length).lo, .int .i64 (shUp rv sides (l.take k) (l.take k).length).hi] := hd 13 (by omega)
                    have e14 : val 14 = .int .i64 (shUp rv sides (l.take k) (l.take k).length).pass := hd 14 (by omega)
                    have e15 : val 15 = .int .i64 (shUp rv sides (l.take k) (l.take k).length).hour := hd 15 (by omega)
                    have e16 : val 16 = .int .i64 0 := hd 16 (by omega)
                    obtain ⟨ga17_23, e17, qa17_23⟩ := hd 18 (by omega)
                    change val 17 = _ at e17
                    have e19 : val 19 = .int .i64 (shUp rv sides (l.take k) (l.take k).length).pass := hd 19 (by omega)
                    have e20 : val 20 = .int .i64 (shUp rv sides (l.take k) (l.take k).length).hour := hd 20 (by omega)
                    refine EL.ends (cs := [.pointer (some ⟨g1, 0, none⟩), .agg #[.slice A rv.reaches.length c, .slice A' rv.shoals.length c'], val 2, .pointer (some ⟨g1, 2, none⟩), .slice (some ⟨bS, oS, none⟩) sides.length d, val 5, val 6, .slice (some ⟨bw, ow, none⟩) l.length cw, .int .i64 (k : Nat), .slice (some ⟨bw, ow, none⟩) k cw, val 10, .tuple #[.agg #[.int .i64 (shUp rv sides (l.take k) (l.take k).length).lo, .int .i64 (shUp rv sides (l.take k) (l.take k).length).hi], .int .i64 (shUp rv sides (l.take k) (l.take k).length).pass, .int .i64 (shUp rv sides (l.take k) (l.take k).length).hour, .int .i64 0], .tuple #[.agg #[.int .i64 (shUp rv sides (l.take k) (l.take k).length).lo, .int .i64 (shUp rv sides (l.take k) (l.take k).length).hi], .int .i64 (shUp rv sides (l.take k) (l.take k).length).pass, .int .i64 (shUp rv sides (l.take k) (l.take k).length).hour, .int .i64 0], .agg #[.int .i64 (shUp rv sides (l.take k) (l.take k).length).lo, .int .i64 (shUp rv sides (l.take k) (l.take k).length).hi], .int .i64 (shUp rv sides (l.take k) (l.take k).length).pass, .int .i64 (shUp rv sides (l.take k) (l.take k).length).hour, .int .i64 0, .pointer (some ⟨ga17_23, 0, none⟩), val 18, .int .i64 (shUp rv sides (l.take k) (l.take k).length).pass, .int .i64 (shUp rv sides (l.take k) (l.take k).length).hour]) ⟨e0, e1, rfl, e3, e4, rfl, rfl, e7, e8, e9, rfl, e11, e12, e13, e14, e15, e16, e17, rfl, e19, e20, trivial⟩ rfl ?_
                    replace q1 := q1.below hb q1.lt
                    replace qa15_3 := qa15_3.below hb qa15_3.lt
                    have bge13 := alc_ge halc (i := 17) rfl rfl e17
                    have n1_13 : g1 ≠ ga17_23 := Nat.ne_of_lt (Nat.lt_of_lt_of_le lt_1 bge13)
                    have n5_13 : ga15_3 ≠ ga17_23 := Nat.ne_of_lt (Nat.lt_of_lt_of_le lt_5 bge13)
                    have bhbw_13 := Nat.le_trans hbw.size bge13
                    replace hbw := Below.on hbw hb hbw.size
                    refine EL.val (x_assign rfl) rfl ?_
                    refine EL.nil ?_
                    refine EX.seq ?_
                    refine EC.seq ?_
                    have lt_1 := q1.lt
                    have lt_5 := qa15_3.lt
                    have lt_13 := qa17_23.lt
                    refine EC.regionS [[], [0], [0, 1], [], [3], [0, 1, 2, 3, 4], [], [], [], [7, 8], [0, 1, 2, 3, 4, 5, 6, 7, 8, 9], [0, 1, 2, 3, 4, 5, 6, 7, 8, 9, 10], [0, 1, 2, 3, 4, 5, 6, 7, 8, 9, 10, 11], [0, 1, 2, 3, 4, 5, 6, 7, 8, 9, 10, 11, 12], [0, 1, 2, 3, 4, 5, 6, 7, 8, 9, 10, 11, 12], [0, 1, 2, 3, 4, 5, 6, 7, 8, 9, 10, 11, 12], [0, 1, 2, 3, 4, 5, 6, 7, 8, 9, 10, 11, 12], [], [0, 1, 2, 3, 4, 5, 6, 7, 8, 9, 10, 11, 12, 13, 17], [0, 1, 2, 3, 4, 5, 6, 7, 8, 9, 10, 11, 12, 13, 14, 17, 18], [0, 1, 2, 3, 4, 5, 6, 7, 8, 9, 10, 11, 12, 13, 14, 15, 17, 18, 19], [0, 1, 2, 3, 4, 5, 6, 7, 8, 9, 10, 11, 12, 13, 14, 15, 16, 17, 18, 19, 20]] 21 [17] [18] (fun _ w_ => Below wR23.heap.size wR23 w_) (phiS (fun i_ r => match i_ with | 0 => r 0 = .pointer (some ⟨g1, 0, none⟩) | 1 => r 1 = .agg #[.slice A rv.reaches.length c, .slice A' rv.shoals.length c'] | 3 => r 3 = .pointer (some ⟨g1, 2, none⟩) | 4 => r 4 = .slice (some ⟨bS, oS, none⟩) sides.length d | 7 => r 7 = .slice (some ⟨bw, ow, none⟩) l.length cw | 8 => r 8 = .int .i64 (k : Nat) | 9 => r 9 = .slice (some ⟨bw, oD, none⟩) (l.length - k) (cw - k) | 11 => r 11 = .tuple #[.agg #[.int .i64 (shUp rv sides (l.drop k) (l.drop k).length).lo, .int .i64 (shUp rv sides (l.drop k) (l.drop k).length).hi], .int .i64 (shUp rv sides (l.drop k) (l.drop k).length).pass, .int .i64 (shUp rv sides (l.drop k) (l.drop k).length).hour, .int .i64 0] | 12 => r 12 = .tuple #[.agg #[.int .i64 (shUp rv sides (l.drop k) (l.drop k).length).lo, .int .i64 (shUp rv sides (l.drop k) (l.drop k).length).hi], .int .i64 (shUp rv sides (l.drop k) (l.drop k).length).pass, .int .i64 (shUp rv sides (l.drop k) (l.drop k).length).hour, .int .i64 0] | 13 => r 13 = .agg #[.int .i64 (shUp rv sides (l.drop k) (l.drop k).length).lo, .int .i64 (shUp rv sides (l.drop k) (l.drop k).length).hi] | 14 => r 14 = .int .i64 (shUp rv sides (l.drop k) (l.drop k).length).pass | 15 => r 15 = .int .i64 (shUp rv sides (l.drop k) (l.drop k).length).hour | 16 => r 16 = .int .i64 0 | 19 => r 19 = .int .i64 (shUp rv sides (l.drop k) (l.drop k).length).pass | 20 => r 20 = .int .i64 (shUp rv sides (l.drop k) (l.drop k).length).hour | _ => True) [(2, fun fl r w_ => fl 18 = false → (∃ a b vs, r 2 = .agg #[a, b] ∧ RdRiver w_ w_.heap.size a b rv vs)), (5, fun fl r w_ => fl 18 = false → (∃ v ss, r 5 = v ∧ RdSides w_ w_.heap.size v sides ss)), (6, fun fl r w_ => fl 18 = false → (∃ g_, r 6 = .slice (some ⟨g_, 0, none⟩) 0 0 ∧ Blk w_ g_ 101 #[] ∧ wR23.heap.size ≤ g_)), (10, fun fl r w_ => fl 18 = false → (∃ v, r 10 = v ∧ w_.ownsRow wR23.heap.size 101 3 v (l.drop k).length (passesC (l.drop k)))), (17, fun fl r w_ => ∃ g_, r 17 = .pointer (some ⟨g_, 0, none⟩) ∧ wR23.heap.size ≤ g_ ∧ (fl 18 = false → Blk w_ g_ 23 #[.int .i64 0, .int .i64 0])), (18, fun _ r w_ => ∃ g_, r 17 = .pointer (some ⟨g_, 0, none⟩) ∧ Blk w_ g_ 23 #[.int .i64 (shUp rv sides (l.drop k) (l.drop k).length).lo, .int .i64 (shUp rv sides (l.drop k) (l.drop k).length).hi])]) (by kernel_rfl) rfl rfl (by intro i hi; simp at hi; first | (subst hi; exact ⟨by simp, by omega⟩) | (rcases hi with rfl | rfl | rfl <;> exact ⟨by simp, by omega⟩) | (rcases hi with rfl | rfl <;> exact ⟨by simp, by omega⟩)) (base_below wR23) (phiS_cons (monoS_till mono_riv) (phiS_cons (monoS_till mono_sid) (phiS_cons (monoS_till mono_bs) (phiS_cons (monoS_till mono_row) (phiS_cons monoS_alloc (phiS_cons monoS_store (phiS_nil))))))) (fun i_ hi_ hs_ => ?_) (fun i_ hi_ => ?_) ?_
                    · match i_, hi_ with
                      | 0, _ =>
                        intro val fl w1 a hb ha hd hfl
                        have ha := ha.sub (Sub.ins (d := 3) (Sub.nil _) rfl)
                        exact ss_val ha rfl rfl (fa_54_0 rfl) rfl rfl
                      | 1, _ =>
                        intro val fl w1 a hb ha hd hfl
                        have e0 : val 0 = .pointer (some ⟨g1, 0, none⟩) := hd 0 (memB_mem.1 rfl)
                        have ha := ha.sub (Sub.ins (d := 261) (Sub.nil _) (dep_get rfl e0))
                        exact ss_val ha rfl rfl (ld_47 rfl ((q1.below hb q1.lt).at (j := 0) rfl) ((q1.below hb q1.lt).at (j := 1) rfl)) rfl rfl
                      | 2, _ =>
                        intro val fl w1 a hb ha hd hfl
                        have e1 : val 1 = .agg #[.slice A rv.reaches.length c, .slice A' rv.shoals.length c'] := hd 1 (memB_mem.1 rfl)
                        have ha := ha.sub (Sub.ins (d := 262) (Sub.nil _) (dep_get rfl e1))
                        refine ss_call ha rfl rfl (cl_24 rfl) (copied_any rv _ _ vs _ B (hr.below ((Below.on hbw hb hbw.size).mono hB)) (Nat.le_trans hB (Below.on hbw hb hbw.size).size) (by omega) (by omega) f3) rfl ?_
                        rintro e w' ⟨⟨v1, u1, vs1, rfl, hcp⟩, hb'⟩
                        exact ⟨_, rfl, hb', fun _ => ⟨_, _, _, rfl, hcp⟩⟩
                      | 3, _ =>
                        intro val fl w1 a hb ha hd hfl
                        have ha := ha.sub (Sub.ins (d := 3) (Sub.nil _) rfl)
                        exact ss_val ha rfl rfl (fa_54_1 rfl) rfl rfl
                      | 4, _ =>
                        intro val fl w1 a hb ha hd hfl
                        have e3 : val 3 = .pointer (some ⟨g1, 2, none⟩) := hd 3 (memB_mem.1 rfl)
                        have ha := ha.sub (Sub.ins (d := 264) (Sub.nil _) (dep_get rfl e3))
                        exact ss_val ha rfl rfl (ld_52 rfl ((q1.below hb q1.lt).at (j := 2) rfl)) rfl rfl
                      | 5, _ =>
                        intro val fl w1 a hb ha hd hfl
                        have e4 : val 4 = .slice (some ⟨bS, oS, none⟩) sides.length d := hd 4 (memB_mem.1 rfl)
                        have ha := ha.sub (Sub.ins (d := 265) (Sub.nil _) (dep_get rfl e4))
                        refine ss_call ha rfl rfl (cl_34 rfl) (forecast_any sides _ ss _ B (hs.below ((Below.on hbw hb hbw.size).mono hB)) (Nat.le_trans hB (Below.on hbw hb hbw.size).size) (by omega) f4) rfl ?_
                        rintro e w' ⟨⟨v1, ss1, rfl, hcp⟩, hb'⟩
                        exact ⟨_, rfl, hb', fun _ => ⟨_, _, rfl, hcp⟩⟩
                      | 6, _ =>
                        intro val fl w1 a hb ha hd hfl
                        have ha := ha.sub (Sub.nil _)
                        exact ss_newS ha rfl rfl (bs_99_0) rfl (fun g w' hq _ hge => fun _ => ⟨g, rfl, hq, Nat.le_trans hb.size hge⟩)
                      | 7, _ =>
                        intro val fl w1 a hb ha hd hfl
                        have ha := ha.sub (Sub.ins (d := 1) (Sub.nil _) rfl)
                        exact ss_val ha rfl rfl (x_move rfl) rfl rfl
                      | 8, _ =>
                        intro val fl w1 a hb ha hd hfl
                        have ha := ha.sub (Sub.ins (d := 17) (Sub.nil _) rfl)
                        exact ss_val ha rfl rfl (x_move rfl) rfl rfl
                      | 9, _ =>
                        intro val fl w1 a hb ha hd hfl
                        have e7 : val 7 = .slice (some ⟨bw, ow, none⟩) l.length cw := hd 7 (memB_mem.1 rfl)
                        have e8 : val 8 = .int .i64 (k : Nat) := hd 8 (memB_mem.1 rfl)
                        have ha := ha.sub (Sub.ins (d := 269) (Sub.ins (d := 268) (Sub.nil _) (dep_get rfl e7)) (dep_get rfl e8))
                        exact ss_val ha rfl rfl (sll_99 rfl rfl (Nat.le_of_lt hk) hoD) rfl rfl
                      | 10, _ =>
                        intro val fl w1 a hb ha hd hfl
                        obtain ⟨g6_, e6, q6_, h6_⟩ := hd 6 (memB_mem.1 rfl) (hfl 18 (by simp) (memB_mem.1 rfl))
                        change val 6 = _ at e6
                        have e9 : val 9 = .slice (some ⟨bw, oD, none⟩) (l.length - k) (cw - k) := hd 9 (memB_mem.1 rfl)
                        have ha := ha.sub (Sub.ins (d := 270) (Sub.ins (d := 267) (Sub.nil _) (dep_get rfl e6)) (dep_get rfl e9))
                        exact ss_copy pass_elem2 ha rfl rfl rfl q6_ h6_ (hr2q.below ((Below.on hbw hb hbw.size).mono hB)) (passesC_one _) (by omega) rfl hb.size rfl (fun v' w' ho => fun _ => ⟨_, rfl, ho⟩)
                      | 11, _ =>
                        intro val fl w1 a hb ha hd hfl
                        obtain ⟨a2_, b2_, vs2_, e2, q2_⟩ := hd 2 (memB_mem.1 rfl) (hfl 18 (by simp) (memB_mem.1 rfl))
                        obtain ⟨v5_, ss5_, e5, q5_⟩ := hd 5 (memB_mem.1 rfl) (hfl 18 (by simp) (memB_mem.1 rfl))
                        obtain ⟨v10_, e10, q10_⟩ := hd 10 (memB_mem.1 rfl) (hfl 18 (by simp) (memB_mem.1 rfl))
                        have ha := ha.sub (Sub.ins (d := 271) (Sub.ins (d := 266) (Sub.ins (d := 263) (Sub.nil _) (dep_get rfl e2)) (dep_get rfl e5)) (dep_get rfl e10))
                        refine ss_call ha rfl rfl (cl_51 rfl rfl rfl) (shallow_good rv sides _ _ _ _ _ (l.drop k) _ _ w1.heap.size q2_ q5_ (Nat.le_refl _) (Rd.of_own q10_) hfine hst hw2) rfl ?_
                        rintro e w' ⟨rfl, hb'⟩
                        exact ⟨_, rfl, hb', rfl⟩
                      | 12, _ =>
                        intro val fl w1 a hb ha hd hfl
                        have e11 : val 11 = .tuple #[.agg #[.int .i64 (shUp rv sides (l.drop k) (l.drop k).length).lo, .int .i64 (shUp rv sides (l.drop k) (l.drop k).length).hi], .int .i64 (shUp rv sides (l.drop k) (l.drop k).length).pass, .int .i64 (shUp rv sides (l.drop k) (l.drop k).length).hour, .int .i64 0] := hd 11 (memB_mem.1 rfl)
                        have ha := ha.sub (Sub.ins (d := 272) (Sub.nil _) (dep_get rfl e11))
                        exact ss_val ha rfl rfl (x_move rfl) rfl rfl
                      | 13, _ =>
                        intro val fl w1 a hb ha hd hfl
                        have e12 : val 12 = .tuple #[.agg #[.int .i64 (shUp rv sides (l.drop k) (l.drop k).length).lo, .int .i64 (shUp rv sides (l.drop k) (l.drop k).length).hi], .int .i64 (shUp rv sides (l.drop k) (l.drop k).length).pass, .int .i64 (shUp rv sides (l.drop k) (l.drop k).length).hour, .int .i64 0] := hd 12 (memB_mem.1 rfl)
                        have ha := ha.sub (Sub.ins (d := 260) (Sub.nil _) (dep_get rfl e12))
                        exact ss_val ha rfl rfl (x_extract rfl rfl) rfl rfl
                      | 14, _ =>
                        intro val fl w1 a hb ha hd hfl
                        have e12 : val 12 = .tuple #[.agg #[.int .i64 (shUp rv sides (l.drop k) (l.drop k).length).lo, .int .i64 (shUp rv sides (l.drop k) (l.drop k).length).hi], .int .i64 (shUp rv sides (l.drop k) (l.drop k).length).pass, .int .i64 (shUp rv sides (l.drop k) (l.drop k).length).hour, .int .i64 0] := hd 12 (memB_mem.1 rfl)
                        have ha := ha.sub (Sub.ins (d := 260) (Sub.nil _) (dep_get rfl e12))
                        exact ss_val ha rfl rfl (x_extract rfl rfl) rfl rfl
                      | 15, _ =>
                        intro val fl w1 a hb ha hd hfl
                        have e12 : val 12 = .tuple #[.agg #[.int .i64 (shUp rv sides (l.drop k) (l.drop k).length).lo, .int .i64 (shUp rv sides (l.drop k) (l.drop k).length).hi], .int .i64 (shUp rv sides (l.drop k) (l.drop k).length).pass, .int .i64 (shUp rv sides (l.drop k) (l.drop k).length).hour, .int .i64 0] := hd 12 (memB_mem.1 rfl)
                        have ha := ha.sub (Sub.ins (d := 260) (Sub.nil _) (dep_get rfl e12))
                        exact ss_val ha rfl rfl (x_extract rfl rfl) rfl rfl
                      | 16, _ =>
                        intro val fl w1 a hb ha hd hfl
                        have e12 : val 12 = .tuple #[.agg #[.int .i64 (shUp rv sides (l.drop k) (l.drop k).length).lo, .int .i64 (shUp rv sides (l.drop k) (l.drop k).length).hi], .int .i64 (shUp rv sides (l.drop k) (l.drop k).length).pass, .int .i64 (shUp rv sides (l.drop k) (l.drop k).length).hour, .int .i64 0] := hd 12 (memB_mem.1 rfl)
                        have ha := ha.sub (Sub.ins (d := 260) (Sub.nil _) (dep_get rfl e12))
                        exact ss_val ha rfl rfl (x_extract rfl rfl) rfl rfl
                      | 17, _ =>
                        intro val fl w1 a hb ha hd hfl
                        have ha := ha.sub (Sub.nil _)
                        exact ss_newP ha rfl rfl al_23 (fun g w' hq _ hge => ⟨g, rfl, Nat.le_trans hb.size hge, fun _ => hq⟩)
                      | 18, _ =>
                        exact absurd (by simp) hs_
                      | 19, _ =>
                        intro val fl w1 a hb ha hd hfl
                        have e14 : val 14 = .int .i64 (shUp rv sides (l.drop k) (l.drop k).length).pass := hd 14 (memB_mem.1 rfl)
                        have ha := ha.sub (Sub.ins (d := 274) (Sub.nil _) (dep_get rfl e14))
                        exact ss_val ha rfl rfl (x_assign rfl) rfl rfl
                      | 20, _ =>
                        intro val fl w1 a hb ha hd hfl
                        have e15 : val 15 = .int .i64 (shUp rv sides (l.drop k) (l.drop k).length).hour := hd 15 (memB_mem.1 rfl)
                        have ha := ha.sub (Sub.ins (d := 275) (Sub.nil _) (dep_get rfl e15))
                        exact ss_val ha rfl rfl (x_assign rfl) rfl rfl
                      | k + 21, h => exact absurd h (by omega)
                    · simp only [List.mem_singleton] at hi_; subst hi_
                      intro val fl w1 a hb hfi ha hd hfl
                      obtain ⟨g17_, e17, hg17_, q17_⟩ := hd 17 (memB_mem.1 rfl)
                      change val 17 = _ at e17
                      have e13 : val 13 = .agg #[.int .i64 (shUp rv sides (l.drop k) (l.drop k).length).lo, .int .i64 (shUp rv sides (l.drop k) (l.drop k).length).hi] := hd 13 (memB_mem.1 rfl)
                      have ha := ha.sub (Sub.ins (d := 273) (Sub.ins (d := 22) (Sub.nil _) (dep_get rfl e17)) (dep_get rfl e13))
                      refine ts_store ha rfl rfl rfl (q17_ hfi) sz_23 rfl rfl rfl rfl ?_
                      intro w' hq hgr
                      refine ⟨undef, rfl, hgr.size, below_store hb hgr hg17_, ⟨g17_, e17, hq⟩, fun j _ hj hn hA => ?_⟩
                      exact phiS_cons_st (C := fun j => j ≠ 18 ∧ 18 ∉ clsAt [[], [0], [0, 1], [], [3], [0, 1, 2, 3, 4], [], [], [], [7, 8], [0, 1, 2, 3, 4, 5, 6, 7, 8, 9], [0, 1, 2, 3, 4, 5, 6, 7, 8, 9, 10], [0, 1, 2, 3, 4, 5, 6, 7, 8, 9, 10, 11], [0, 1, 2, 3, 4, 5, 6, 7, 8, 9, 10, 11, 12], [0, 1, 2, 3, 4, 5, 6, 7, 8, 9, 10, 11, 12], [0, 1, 2, 3, 4, 5, 6, 7, 8, 9, 10, 11, 12], [0, 1, 2, 3, 4, 5, 6, 7, 8, 9, 10, 11, 12], [], [0, 1, 2, 3, 4, 5, 6, 7, 8, 9, 10, 11, 12, 13, 17], [0, 1, 2, 3, 4, 5, 6, 7, 8, 9, 10, 11, 12, 13, 14, 17, 18], [0, 1, 2, 3, 4, 5, 6, 7, 8, 9, 10, 11, 12, 13, 14, 15, 17, 18, 19], [0, 1, 2, 3, 4, 5, 6, 7, 8, 9, 10, 11, 12, 13, 14, 15, 16, 17, 18, 19, 20]] j ∧ ∀ p ∈ [17], (p = j ∨ p ∈ clsAt [[], [0], [0, 1], [], [3], [0, 1, 2, 3, 4], [], [], [], [7, 8], [0, 1, 2, 3, 4, 5, 6, 7, 8, 9], [0, 1, 2, 3, 4, 5, 6, 7, 8, 9, 10], [0, 1, 2, 3, 4, 5, 6, 7, 8, 9, 10, 11], [0, 1, 2, 3, 4, 5, 6, 7, 8, 9, 10, 11, 12], [0, 1, 2, 3, 4, 5, 6, 7, 8, 9, 10, 11, 12], [0, 1, 2, 3, 4, 5, 6, 7, 8, 9, 10, 11, 12], [0, 1, 2, 3, 4, 5, 6, 7, 8, 9, 10, 11, 12], [], [0, 1, 2, 3, 4, 5, 6, 7, 8, 9, 10, 11, 12, 13, 17], [0, 1, 2, 3, 4, 5, 6, 7, 8, 9, 10, 11, 12, 13, 14, 17, 18], [0, 1, 2, 3, 4, 5, 6, 7, 8, 9, 10, 11, 12, 13, 14, 15, 17, 18, 19], [0, 1, 2, 3, 4, 5, 6, 7, 8, 9, 10, 11, 12, 13, 14, 15, 16, 17, 18, 19, 20]] j) → ∀ q ∈ [17], (q = 18 ∨ q ∈ clsAt [[], [0], [0, 1], [], [3], [0, 1, 2, 3, 4], [], [], [], [7, 8], [0, 1, 2, 3, 4, 5, 6, 7, 8, 9], [0, 1, 2, 3, 4, 5, 6, 7, 8, 9, 10], [0, 1, 2, 3, 4, 5, 6, 7, 8, 9, 10, 11], [0, 1, 2, 3, 4, 5, 6, 7, 8, 9, 10, 11, 12], [0, 1, 2, 3, 4, 5, 6, 7, 8, 9, 10, 11, 12], [0, 1, 2, 3, 4, 5, 6, 7, 8, 9, 10, 11, 12], [0, 1, 2, 3, 4, 5, 6, 7, 8, 9, 10, 11, 12], [], [0, 1, 2, 3, 4, 5, 6, 7, 8, 9, 10, 11, 12, 13, 17], [0, 1, 2, 3, 4, 5, 6, 7, 8, 9, 10, 11, 12, 13, 14, 17, 18], [0, 1, 2, 3, 4, 5, 6, 7, 8, 9, 10, 11, 12, 13, 14, 15, 17, 18, 19], [0, 1, 2, 3, 4, 5, 6, 7, 8, 9, 10, 11, 12, 13, 14, 15, 16, 17, 18, 19, 20]] 18) → p ≠ q → val p ≠ val q) (fun _ _ h => by rw [fset_eq] at h; cases h) (phiS_cons_st (C := fun j => j ≠ 18 ∧ 18 ∉ clsAt [[], [0], [0, 1], [], [3], [0, 1, 2, 3, 4], [], [], [], [7, 8], [0, 1, 2, 3, 4, 5, 6, 7, 8, 9], [0, 1, 2, 3, 4, 5, 6, 7, 8, 9, 10], [0, 1, 2, 3, 4, 5, 6, 7, 8, 9, 10, 11], [0, 1, 2, 3, 4, 5, 6, 7, 8, 9, 10, 11, 12], [0, 1, 2, 3, 4, 5, 6, 7, 8, 9, 10, 11, 12], [0, 1, 2, 3, 4, 5, 6, 7, 8, 9, 10, 11, 12], [0, 1, 2, 3, 4, 5, 6, 7, 8, 9, 10, 11, 12], [], [0, 1, 2, 3, 4, 5, 6, 7, 8, 9, 10, 11, 12, 13, 17], [0, 1, 2, 3, 4, 5, 6, 7, 8, 9, 10, 11, 12, 13, 14, 17, 18], [0, 1, 2, 3, 4, 5, 6, 7, 8, 9, 10, 11, 12, 13, 14, 15, 17, 18, 19], [0, 1, 2, 3, 4, 5, 6, 7, 8, 9, 10, 11, 12, 13, 14, 15, 16, 17, 18, 19, 20]] j ∧ ∀ p ∈ [17], (p = j ∨ p ∈ clsAt [[], [0], [0, 1], [], [3], [0, 1, 2, 3, 4], [], [], [], [7, 8], [0, 1, 2, 3, 4, 5, 6, 7, 8, 9], [0, 1, 2, 3, 4, 5, 6, 7, 8, 9, 10], [0, 1, 2, 3, 4, 5, 6, 7, 8, 9, 10, 11], [0, 1, 2, 3, 4, 5, 6, 7, 8, 9, 10, 11, 12], [0, 1, 2, 3, 4, 5, 6, 7, 8, 9, 10, 11, 12], [0, 1, 2, 3, 4, 5, 6, 7, 8, 9, 10, 11, 12], [0, 1, 2, 3, 4, 5, 6, 7, 8, 9, 10, 11, 12], [], [0, 1, 2, 3, 4, 5, 6, 7, 8, 9, 10, 11, 12, 13, 17], [0, 1, 2, 3, 4, 5, 6, 7, 8, 9, 10, 11, 12, 13, 14, 17, 18], [0, 1, 2, 3, 4, 5, 6, 7, 8, 9, 10, 11, 12, 13, 14, 15, 17, 18, 19], [0, 1, 2, 3, 4, 5, 6, 7, 8, 9, 10, 11, 12, 13, 14, 15, 16, 17, 18, 19, 20]] j) → ∀ q ∈ [17], (q = 18 ∨ q ∈ clsAt [[], [0], [0, 1], [], [3], [0, 1, 2, 3, 4], [], [], [], [7, 8], [0, 1, 2, 3, 4, 5, 6, 7, 8, 9], [0, 1, 2, 3, 4, 5, 6, 7, 8, 9, 10], [0, 1, 2, 3, 4, 5, 6, 7, 8, 9, 10, 11], [0, 1, 2, 3, 4, 5, 6, 7, 8, 9, 10, 11, 12], [0, 1, 2, 3, 4, 5, 6, 7, 8, 9, 10, 11, 12], [0, 1, 2, 3, 4, 5, 6, 7, 8, 9, 10, 11, 12], [0, 1, 2, 3, 4, 5, 6, 7, 8, 9, 10, 11, 12], [], [0, 1, 2, 3, 4, 5, 6, 7, 8, 9, 10, 11, 12, 13, 17], [0, 1, 2, 3, 4, 5, 6, 7, 8, 9, 10, 11, 12, 13, 14, 17, 18], [0, 1, 2, 3, 4, 5, 6, 7, 8, 9, 10, 11, 12, 13, 14, 15, 17, 18, 19], [0, 1, 2, 3, 4, 5, 6, 7, 8, 9, 10, 11, 12, 13, 14, 15, 16, 17, 18, 19, 20]] 18) → p ≠ q → val p ≠ val q) (fun _ _ h => by rw [fset_eq] at h; cases h) (phiS_cons_st (C := fun j => j ≠ 18 ∧ 18 ∉ clsAt [[], [0], [0, 1], [], [3], [0, 1, 2, 3, 4], [], [], [], [7, 8], [0, 1, 2, 3, 4, 5, 6, 7, 8, 9], [0, 1, 2, 3, 4, 5, 6, 7, 8, 9, 10], [0, 1, 2, 3, 4, 5, 6, 7, 8, 9, 10, 11], [0, 1, 2, 3, 4, 5, 6, 7, 8, 9, 10, 11, 12], [0, 1, 2, 3, 4, 5, 6, 7, 8, 9, 10, 11, 12], [0, 1, 2, 3, 4, 5, 6, 7, 8, 9, 10, 11, 12], [0, 1, 2, 3, 4, 5, 6, 7, 8, 9, 10, 11, 12], [], [0, 1, 2, 3, 4, 5, 6, 7, 8, 9, 10, 11, 12, 13, 17], [0, 1, 2, 3, 4, 5, 6, 7, 8, 9, 10, 11, 12, 13, 14, 17, 18], [0, 1, 2, 3, 4, 5, 6, 7, 8, 9, 10, 11, 12, 13, 14, 15, 17, 18, 19], [0, 1, 2, 3, 4, 5, 6, 7, 8, 9, 10, 11, 12, 13, 14, 15, 16, 17, 18, 19, 20]] j ∧ ∀ p ∈ [17], (p = j ∨ p ∈ clsAt [[], [0], [0, 1], [], [3], [0, 1, 2, 3, 4], [], [], [], [7, 8], [0, 1, 2, 3, 4, 5, 6, 7, 8, 9], [0, 1, 2, 3, 4, 5, 6, 7, 8, 9, 10], [0, 1, 2, 3, 4, 5, 6, 7, 8, 9, 10, 11], [0, 1, 2, 3, 4, 5, 6, 7, 8, 9, 10, 11, 12], [0, 1, 2, 3, 4, 5, 6, 7, 8, 9, 10, 11, 12], [0, 1, 2, 3, 4, 5, 6, 7, 8, 9, 10, 11, 12], [0, 1, 2, 3, 4, 5, 6, 7, 8, 9, 10, 11, 12], [], [0, 1, 2, 3, 4, 5, 6, 7, 8, 9, 10, 11, 12, 13, 17], [0, 1, 2, 3, 4, 5, 6, 7, 8, 9, 10, 11, 12, 13, 14, 17, 18], [0, 1, 2, 3, 4, 5, 6, 7, 8, 9, 10, 11, 12, 13, 14, 15, 17, 18, 19], [0, 1, 2, 3, 4, 5, 6, 7, 8, 9, 10, 11, 12, 13, 14, 15, 16, 17, 18, 19, 20]] j) → ∀ q ∈ [17], (q = 18 ∨ q ∈ clsAt [[], [0], [0, 1], [], [3], [0, 1, 2, 3, 4], [], [], [], [7, 8], [0, 1, 2, 3, 4, 5, 6, 7, 8, 9], [0, 1, 2, 3, 4, 5, 6, 7, 8, 9, 10], [0, 1, 2, 3, 4, 5, 6, 7, 8, 9, 10, 11], [0, 1, 2, 3, 4, 5, 6, 7, 8, 9, 10, 11, 12], [0, 1, 2, 3, 4, 5, 6, 7, 8, 9, 10, 11, 12], [0, 1, 2, 3, 4, 5, 6, 7, 8, 9, 10, 11, 12], [0, 1, 2, 3, 4, 5, 6, 7, 8, 9, 10, 11, 12], [], [0, 1, 2, 3, 4, 5, 6, 7, 8, 9, 10, 11, 12, 13, 17], [0, 1, 2, 3, 4, 5, 6, 7, 8, 9, 10, 11, 12, 13, 14, 17, 18], [0, 1, 2, 3, 4, 5, 6, 7, 8, 9, 10, 11, 12, 13, 14, 15, 17, 18, 19], [0, 1, 2, 3, 4, 5, 6, 7, 8, 9, 10, 11, 12, 13, 14, 15, 16, 17, 18, 19, 20]] 18) → p ≠ q → val p ≠ val q) (fun _ _ h => by rw [fset_eq] at h; cases h) (phiS_cons_st (C := fun j => j ≠ 18 ∧ 18 ∉ clsAt [[], [0], [0, 1], [], [3], [0, 1, 2, 3, 4], [], [], [], [7, 8], [0, 1, 2, 3, 4, 5, 6, 7, 8, 9], [0, 1, 2, 3, 4, 5, 6, 7, 8, 9, 10], [0, 1, 2, 3, 4, 5, 6, 7, 8, 9, 10, 11], [0, 1, 2, 3, 4, 5, 6, 7, 8, 9, 10, 11, 12], [0, 1, 2, 3, 4, 5, 6, 7, 8, 9, 10, 11, 12], [0, 1, 2, 3, 4, 5, 6, 7, 8, 9, 10, 11, 12], [0, 1, 2, 3, 4, 5, 6, 7, 8, 9, 10, 11, 12], [], [0, 1, 2, 3, 4, 5, 6, 7, 8, 9, 10, 11, 12, 13, 17], [0, 1, 2, 3, 4, 5, 6, 7, 8, 9, 10, 11, 12, 13, 14, 17, 18], [0, 1, 2, 3, 4, 5, 6, 7, 8, 9, 10, 11, 12, 13, 14, 15, 17, 18, 19], [0, 1, 2, 3, 4, 5, 6, 7, 8, 9, 10, 11, 12, 13, 14, 15, 16, 17, 18, 19, 20]] j ∧ ∀ p ∈ [17], (p = j ∨ p ∈ clsAt [[], [0], [0, 1], [], [3], [0, 1, 2, 3, 4], [], [], [], [7, 8], [0, 1, 2, 3, 4, 5, 6, 7, 8, 9], [0, 1, 2, 3, 4, 5, 6, 7, 8, 9, 10], [0, 1, 2, 3, 4, 5, 6, 7, 8, 9, 10, 11], [0, 1, 2, 3, 4, 5, 6, 7, 8, 9, 10, 11, 12], [0, 1, 2, 3, 4, 5, 6, 7, 8, 9, 10, 11, 12], [0, 1, 2, 3, 4, 5, 6, 7, 8, 9, 10, 11, 12], [0, 1, 2, 3, 4, 5, 6, 7, 8, 9, 10, 11, 12], [], [0, 1, 2, 3, 4, 5, 6, 7, 8, 9, 10, 11, 12, 13, 17], [0, 1, 2, 3, 4, 5, 6, 7, 8, 9, 10, 11, 12, 13, 14, 17, 18], [0, 1, 2, 3, 4, 5, 6, 7, 8, 9, 10, 11, 12, 13, 14, 15, 17, 18, 19], [0, 1, 2, 3, 4, 5, 6, 7, 8, 9, 10, 11, 12, 13, 14, 15, 16, 17, 18, 19, 20]] j) → ∀ q ∈ [17], (q = 18 ∨ q ∈ clsAt [[], [0], [0, 1], [], [3], [0, 1, 2, 3, 4], [], [], [], [7, 8], [0, 1, 2, 3, 4, 5, 6, 7, 8, 9], [0, 1, 2, 3, 4, 5, 6, 7, 8, 9, 10], [0, 1, 2, 3, 4, 5, 6, 7, 8, 9, 10, 11], [0, 1, 2, 3, 4, 5, 6, 7, 8, 9, 10, 11, 12], [0, 1, 2, 3, 4, 5, 6, 7, 8, 9, 10, 11, 12], [0, 1, 2, 3, 4, 5, 6, 7, 8, 9, 10, 11, 12], [0, 1, 2, 3, 4, 5, 6, 7, 8, 9, 10, 11, 12], [], [0, 1, 2, 3, 4, 5, 6, 7, 8, 9, 10, 11, 12, 13, 17], [0, 1, 2, 3, 4, 5, 6, 7, 8, 9, 10, 11, 12, 13, 14, 17, 18], [0, 1, 2, 3, 4, 5, 6, 7, 8, 9, 10, 11, 12, 13, 14, 15, 17, 18, 19], [0, 1, 2, 3, 4, 5, 6, 7, 8, 9, 10, 11, 12, 13, 14, 15, 16, 17, 18, 19, 20]] 18) → p ≠ q → val p ≠ val q) (fun _ _ h => by rw [fset_eq] at h; cases h) (phiS_cons_st (C := fun j => j ≠ 18 ∧ 18 ∉ clsAt [[], [0], [0, 1], [], [3], [0, 1, 2, 3, 4], [], [], [], [7, 8], [0, 1, 2, 3, 4, 5, 6, 7, 8, 9], [0, 1, 2, 3, 4, 5, 6, 7, 8, 9, 10], [0, 1, 2, 3, 4, 5, 6, 7, 8, 9, 10, 11], [0, 1, 2, 3, 4, 5, 6, 7, 8, 9, 10, 11, 12], [0, 1, 2, 3, 4, 5, 6, 7, 8, 9, 10, 11, 12], [0, 1, 2, 3, 4, 5, 6, 7, 8, 9, 10, 11, 12], [0, 1, 2, 3, 4, 5, 6, 7, 8, 9, 10, 11, 12], [], [0, 1, 2, 3, 4, 5, 6, 7, 8, 9, 10, 11, 12, 13, 17], [0, 1, 2, 3, 4, 5, 6, 7, 8, 9, 10, 11, 12, 13, 14, 17, 18], [0, 1, 2, 3, 4, 5, 6, 7, 8, 9, 10, 11, 12, 13, 14, 15, 17, 18, 19], [0, 1, 2, 3, 4, 5, 6, 7, 8, 9, 10, 11, 12, 13, 14, 15, 16, 17, 18, 19, 20]] j ∧ ∀ p ∈ [17], (p = j ∨ p ∈ clsAt [[], [0], [0, 1], [], [3], [0, 1, 2, 3, 4], [], [], [], [7, 8], [0, 1, 2, 3, 4, 5, 6, 7, 8, 9], [0, 1, 2, 3, 4, 5, 6, 7, 8, 9, 10], [0, 1, 2, 3, 4, 5, 6, 7, 8, 9, 10, 11], [0, 1, 2, 3, 4, 5, 6, 7, 8, 9, 10, 11, 12], [0, 1, 2, 3, 4, 5, 6, 7, 8, 9, 10, 11, 12], [0, 1, 2, 3, 4, 5, 6, 7, 8, 9, 10, 11, 12], [0, 1, 2, 3, 4, 5, 6, 7, 8, 9, 10, 11, 12], [], [0, 1, 2, 3, 4, 5, 6, 7, 8, 9, 10, 11, 12, 13, 17], [0, 1, 2, 3, 4, 5, 6, 7, 8, 9, 10, 11, 12, 13, 14, 17, 18], [0, 1, 2, 3, 4, 5, 6, 7, 8, 9, 10, 11, 12, 13, 14, 15, 17, 18, 19], [0, 1, 2, 3, 4, 5, 6, 7, 8, 9, 10, 11, 12, 13, 14, 15, 16, 17, 18, 19, 20]] j) → ∀ q ∈ [17], (q = 18 ∨ q ∈ clsAt [[], [0], [0, 1], [], [3], [0, 1, 2, 3, 4], [], [], [], [7, 8], [0, 1, 2, 3, 4, 5, 6, 7, 8, 9], [0, 1, 2, 3, 4, 5, 6, 7, 8, 9, 10], [0, 1, 2, 3, 4, 5, 6, 7, 8, 9, 10, 11], [0, 1, 2, 3, 4, 5, 6, 7, 8, 9, 10, 11, 12], [0, 1, 2, 3, 4, 5, 6, 7, 8, 9, 10, 11, 12], [0, 1, 2, 3, 4, 5, 6, 7, 8, 9, 10, 11, 12], [0, 1, 2, 3, 4, 5, 6, 7, 8, 9, 10, 11, 12], [], [0, 1, 2, 3, 4, 5, 6, 7, 8, 9, 10, 11, 12, 13, 17], [0, 1, 2, 3, 4, 5, 6, 7, 8, 9, 10, 11, 12, 13, 14, 17, 18], [0, 1, 2, 3, 4, 5, 6, 7, 8, 9, 10, 11, 12, 13, 14, 15, 17, 18, 19], [0, 1, 2, 3, 4, 5, 6, 7, 8, 9, 10, 11, 12, 13, 14, 15, 16, 17, 18, 19, 20]] 18) → p ≠ q → val p ≠ val q) (fun _ ⟨g, h1, h2, _⟩ => ⟨g, h1, h2, fun h => by rw [fset_eq] at h; cases h⟩) (phiS_cons_st (C := fun j => j ≠ 18 ∧ 18 ∉ clsAt [[], [0], [0, 1], [], [3], [0, 1, 2, 3, 4], [], [], [], [7, 8], [0, 1, 2, 3, 4, 5, 6, 7, 8, 9], [0, 1, 2, 3, 4, 5, 6, 7, 8, 9, 10], [0, 1, 2, 3, 4, 5, 6, 7, 8, 9, 10, 11], [0, 1, 2, 3, 4, 5, 6, 7, 8, 9, 10, 11, 12], [0, 1, 2, 3, 4, 5, 6, 7, 8, 9, 10, 11, 12], [0, 1, 2, 3, 4, 5, 6, 7, 8, 9, 10, 11, 12], [0, 1, 2, 3, 4, 5, 6, 7, 8, 9, 10, 11, 12], [], [0, 1, 2, 3, 4, 5, 6, 7, 8, 9, 10, 11, 12, 13, 17], [0, 1, 2, 3, 4, 5, 6, 7, 8, 9, 10, 11, 12, 13, 14, 17, 18], [0, 1, 2, 3, 4, 5, 6, 7, 8, 9, 10, 11, 12, 13, 14, 15, 17, 18, 19], [0, 1, 2, 3, 4, 5, 6, 7, 8, 9, 10, 11, 12, 13, 14, 15, 16, 17, 18, 19, 20]] j ∧ ∀ p ∈ [17], (p = j ∨ p ∈ clsAt [[], [0], [0, 1], [], [3], [0, 1, 2, 3, 4], [], [], [], [7, 8], [0, 1, 2, 3, 4, 5, 6, 7, 8, 9], [0, 1, 2, 3, 4, 5, 6, 7, 8, 9, 10], [0, 1, 2, 3, 4, 5, 6, 7, 8, 9, 10, 11], [0, 1, 2, 3, 4, 5, 6, 7, 8, 9, 10, 11, 12], [0, 1, 2, 3, 4, 5, 6, 7, 8, 9, 10, 11, 12], [0, 1, 2, 3, 4, 5, 6, 7, 8, 9, 10, 11, 12], [0, 1, 2, 3, 4, 5, 6, 7, 8, 9, 10, 11, 12], [], [0, 1, 2, 3, 4, 5, 6, 7, 8, 9, 10, 11, 12, 13, 17], [0, 1, 2, 3, 4, 5, 6, 7, 8, 9, 10, 11, 12, 13, 14, 17, 18], [0, 1, 2, 3, 4, 5, 6, 7, 8, 9, 10, 11, 12, 13, 14, 15, 17, 18, 19], [0, 1, 2, 3, 4, 5, 6, 7, 8, 9, 10, 11, 12, 13, 14, 15, 16, 17, 18, 19, 20]] j) → ∀ q ∈ [17], (q = 18 ∨ q ∈ clsAt [[], [0], [0, 1], [], [3], [0, 1, 2, 3, 4], [], [], [], [7, 8], [0, 1, 2, 3, 4, 5, 6, 7, 8, 9], [0, 1, 2, 3, 4, 5, 6, 7, 8, 9, 10], [0, 1, 2, 3, 4, 5, 6, 7, 8, 9, 10, 11], [0, 1, 2, 3, 4, 5, 6, 7, 8, 9, 10, 11, 12], [0, 1, 2, 3, 4, 5, 6, 7, 8, 9, 10, 11, 12], [0, 1, 2, 3, 4, 5, 6, 7, 8, 9, 10, 11, 12], [0, 1, 2, 3, 4, 5, 6, 7, 8, 9, 10, 11, 12], [], [0, 1, 2, 3, 4, 5, 6, 7, 8, 9, 10, 11, 12, 13, 17], [0, 1, 2, 3, 4, 5, 6, 7, 8, 9, 10, 11, 12, 13, 14, 17, 18], [0, 1, 2, 3, 4, 5, 6, 7, 8, 9, 10, 11, 12, 13, 14, 15, 17, 18, 19], [0, 1, 2, 3, 4, 5, 6, 7, 8, 9, 10, 11, 12, 13, 14, 15, 16, 17, 18, 19, 20]] 18) → p ≠ q → val p ≠ val q) (fun hc => absurd rfl hc.1) (fun _ _ h => h)))))) j ⟨hj, hn, hA⟩
                    · intro val fl wR24 hfl hb halc hd
                      have e0 : val 0 = .pointer (some ⟨g1, 0, none⟩) := hd 0 (by omega)
                      have e1 : val 1 = .agg #[.slice A rv.reaches.length c, .slice A' rv.shoals.length c'] := hd 1 (by omega)
                      have e3 : val 3 = .pointer (some ⟨g1, 2, none⟩) := hd 3 (by omega)
                      have e4 : val 4 = .slice (some ⟨bS, oS, none⟩) sides.length d := hd 4 (by omega)
                      have e7 : val 7 = .slice (some ⟨bw, ow, none⟩) l.length cw := hd 7 (by omega)
                      have e8 : val 8 = .int .i64 (k : Nat) := hd 8 (by omega)
                      have e9 : val 9 = .slice (some ⟨bw, oD, none⟩) (l.length - k) (cw - k) := hd 9 (by omega)
                      have e11 : val 11 = .tuple #[.agg #[.int .i64 (shUp rv sides (l.drop k) (l.drop k).length).lo, .int .i64 (shUp rv sides (l.drop k) (l.drop k).length).hi], .int .i64 (shUp rv sides (l.drop k) (l.drop k).length).pass, .int .i64 (shUp rv sides (l.drop k) (l.drop k).length).hour, .int .i64 0] := hd 11 (by omega)
                      have e12 : val 12 = .tuple #[.agg #[.int .i64 (shUp rv sides (l.drop k) (l.drop k).length).lo, .int .i64 (shUp rv sides (l.drop k) (l.drop k).length).hi], .int .i64 (shUp rv sides (l.drop k) (l.drop k).length).pass, .int .i64 (shUp rv sides (l.drop k) (l.drop k).length).hour, .int .i64 0] := hd 12 (by omega)
                      have e13 : val 13 = .agg #[.int .i64 (shUp rv sides (l.drop k) (l.drop k).length).lo, .int .i64 (shUp rv sides (l.drop k) (l.drop k).length).hi] := hd 13 (by omega)
                      have e14 : val 14 = .int .i64 (shUp rv sides (l.drop k) (l.drop k).length).pass := hd 14 (by omega)
                      have e15 : val 15 = .int .i64 (shUp rv sides (l.drop k) (l.drop k).length).hour := hd 15 (by omega)
                      have e16 : val 16 = .int .i64 0 := hd 16 (by omega)
                      obtain ⟨ga17_24, e17, qa17_24⟩ := hd 18 (by omega)
                      change val 17 = _ at e17
                      have e19 : val 19 = .int .i64 (shUp rv sides (l.drop k) (l.drop k).length).pass := hd 19 (by omega)
                      have e20 : val 20 = .int .i64 (shUp rv sides (l.drop k) (l.drop k).length).hour := hd 20 (by omega)
                      refine EL.ends (cs := [.pointer (some ⟨g1, 0, none⟩), .agg #[.slice A rv.reaches.length c, .slice A' rv.shoals.length c'], val 2, .pointer (some ⟨g1, 2, none⟩), .slice (some ⟨bS, oS, none⟩) sides.length d, val 5, val 6, .slice (some ⟨bw, ow, none⟩) l.length cw, .int .i64 (k : Nat), .slice (some ⟨bw, oD, none⟩) (l.length - k) (cw - k), val 10, .tuple #[.agg #[.int .i64 (shUp rv sides (l.drop k) (l.drop k).length).lo, .int .i64 (shUp rv sides (l.drop k) (l.drop k).length).hi], .int .i64 (shUp rv sides (l.drop k) (l.drop k).length).pass, .int .i64 (shUp rv sides (l.drop k) (l.drop k).length).hour, .int .i64 0], .tuple #[.agg #[.int .i64 (shUp rv sides (l.drop k) (l.drop k).length).lo, .int .i64 (shUp rv sides (l.drop k) (l.drop k).length).hi], .int .i64 (shUp rv sides (l.drop k) (l.drop k).length).pass, .int .i64 (shUp rv sides (l.drop k) (l.drop k).length).hour, .int .i64 0], .agg #[.int .i64 (shUp rv sides (l.drop k) (l.drop k).length).lo, .int .i64 (shUp rv sides (l.drop k) (l.drop k).length).hi], .int .i64 (shUp rv sides (l.drop k) (l.drop k).length).pass, .int .i64 (shUp rv sides (l.drop k) (l.drop k).length).hour, .int .i64 0, .pointer (some ⟨ga17_24, 0, none⟩), val 18, .int .i64 (shUp rv sides (l.drop k) (l.drop k).length).pass, .int .i64 (shUp rv sides (l.drop k) (l.drop k).length).hour]) ⟨e0, e1, rfl, e3, e4, rfl, rfl, e7, e8, e9, rfl, e11, e12, e13, e14, e15, e16, e17, rfl, e19, e20, trivial⟩ rfl ?_
                      replace q1 := q1.below hb q1.lt
                      replace qa15_3 := qa15_3.below hb qa15_3.lt
                      replace qa17_23 := qa17_23.below hb qa17_23.lt
                      have bge14 := alc_ge halc (i := 17) rfl rfl e17
                      have n1_14 : g1 ≠ ga17_24 := Nat.ne_of_lt (Nat.lt_of_lt_of_le lt_1 bge14)
                      have n5_14 : ga15_3 ≠ ga17_24 := Nat.ne_of_lt (Nat.lt_of_lt_of_le lt_5 bge14)
                      have n13_14 : ga17_23 ≠ ga17_24 := Nat.ne_of_lt (Nat.lt_of_lt_of_le lt_13 bge14)
                      have bhbw_14 := Nat.le_trans hbw.size bge14
                      replace hbw := Below.on hbw hb hbw.size
                      refine EL.val (x_assign rfl) rfl ?_
                      refine EL.nil ?_
                      refine EX.seq ?_
                      refine EC.seq ?_
                      refine EC.region ?_
                      refine EL.val (x_move rfl) rfl ?_
                      refine EL.val (x_neq rfl rfl (by first | assumption | exact decide_eq_false (by omega))) rfl ?_
                      refine EL.val (x_move rfl) rfl ?_
                      refine EL.valg rfl rfl (x_move rfl) rfl ?_
                      refine EL.valg rfl rfl (x_neq rfl rfl (by first | assumption | exact decide_eq_false (by omega))) rfl ?_
                      refine EL.val (x_pick_f rfl rfl) rfl ?_
                      refine EL.val (x_move rfl) rfl ?_
                      refine EL.valg rfl rfl (ld_23 rfl (qa15_3.at (j := 0) rfl) (qa15_3.at (j := 1) rfl)) rfl ?_
                      refine EL.valg rfl rfl (fa_23_0 rfl) rfl ?_
                      refine EL.valg rfl rfl (ld_3 rfl (qa17_23.at (j := 0) rfl)) rfl ?_
                      refine EL.valg rfl rfl (fa_23_0 rfl) rfl ?_
                      refine EL.valg rfl rfl (ld_3 rfl (qa17_24.at (j := 0) rfl)) rfl ?_
                      refine EL.valg rfl rfl (mm_min rfl rfl rfl) rfl ?_
                      refine EL.valg rfl rfl (fa_23_1 rfl) rfl ?_
                      refine EL.valg rfl rfl (ld_3 rfl (qa17_23.at (j := 1) rfl)) rfl ?_
                      refine EL.valg rfl rfl (fa_23_1 rfl) rfl ?_
                      refine EL.valg rfl rfl (ld_3 rfl (qa17_24.at (j := 1) rfl)) rfl ?_
                      refine EL.valg rfl rfl (mm_min rfl rfl rfl) rfl ?_
                      refine EL.valg rfl rfl (bd_23_0_1 rfl rfl) rfl ?_
                      refine EL.valg rfl rfl (neq_23 (r := false) rfl rfl (by rw [hprt.1, hprt.2, lt1, lt2]; simp)) rfl ?_
                      refine EL.val (x_pick_f rfl rfl) rfl ?_
                      refine EL.nil ?_
                      refine EX.seq ?_
                      refine EC.no rfl ?_
                      refine EC.skip ?_
                      refine EX.seq ?_
                      refine EC.seq ?_
                      refine EC.region ?_
                      have lo_1 := q1.lt
                      have lo_5 := qa15_3.lt
                      have lo_13 := qa17_23.lt
                      have lo_14 := qa17_24.lt
                      have sz_hbw := hbw.size
                      refine EL.newS bs_99_0 rfl ?_
                      intro g15 w15 q15 hb15 hg15 hl15
                      have n1_15 : g1 ≠ g15 := Nat.ne_of_lt (Nat.lt_of_lt_of_le q1.lt hg15)
                      have n5_15 : ga15_3 ≠ g15 := Nat.ne_of_lt (Nat.lt_of_lt_of_le qa15_3.lt hg15)
                      have n13_15 : ga17_23 ≠ g15 := Nat.ne_of_lt (Nat.lt_of_lt_of_le qa17_23.lt hg15)
                      have n14_15 : ga17_24 ≠ g15 := Nat.ne_of_lt (Nat.lt_of_lt_of_le qa17_24.lt hg15)
                      have bhbw_15 := Nat.le_trans hbw.size hg15
                      replace q1 := q1.below hb15 q1.lt
                      replace qa15_3 := qa15_3.below hb15 qa15_3.lt
                      replace qa17_23 := qa17_23.below hb15 qa17_23.lt
                      replace qa17_24 := qa17_24.below hb15 qa17_24.lt
                      replace hbw := Below.on hbw hb15 hbw.size
                      clear hb15 hl15
                      have oin := own_empty (base := wR24.heap.size) 3 q15 hg15
                      refine EL.val (x_move rfl) rfl ?_
                      refine EL.push pass_elem2 rfl rfl oin (hwy.below (hbw.mono hB)) (passesC_one _) (by omega) rfl (Nat.le_trans hg15 (Nat.le_of_lt q15.lt)) rfl ?_
                      intro vin w16 ho hgr16 hb16 _
                      replace q1 := q1.below hb16 lo_1
                      replace qa15_3 := qa15_3.below hb16 lo_5
                      replace qa17_23 := qa17_23.below hb16 lo_13
                      replace qa17_24 := qa17_24.below hb16 lo_14
                      replace hbw := hbw.trans (hb16.mono sz_hbw)
                      rw [Nat.zero_add, List.nil_append] at ho
                      obtain ⟨Aho, cho, ei, _⟩ := (Rd.of_own ho).shape
                      subst ei
                      clear oin
                      refine EL.val (x_assign rfl) rfl ?_
                      refine EL.nil ?_
                      refine EX.seq ?_
                      refine EC.seq ?_
                      refine EC.seq ?_
                      refine EC.region ?_
                      refine EL.val (x_assign rfl) rfl ?_
                      refine EL.nil ?_
                      refine EX.seq ?_
                      refine EC.block ?_
                      obtain ⟨gm, rfl⟩ := own_some ho (by omega)
                      have hwb : w.heap.size ≤ wR24.heap.size := sz_hbw
                      refine EC.loopD [27, 301, 302, 303, 304, 305, 306, 307, 308, 309, 310, 311, 312, 313, 314, 315, 316, 317, 318, 319, 320, 321, 322, 323, 324, 325, 326, 327, 328, 329, 330, 331, 332, 333, 334, 335, 336, 337, 338, 339, 340, 341, 342, 343, 344] (fun x : Nat => [(27, .int .i64 (x : Nat))]) (fun x W => x ≤ l.length ∧ W.ownsRow wR24.heap.size 101 3 (.slice (some ⟨gm, 0, none⟩) l.length cho) l.length (passesC (mkWide (cut : Nat) ((sides.getD 0 []).length : Nat) l x)) ∧ Blk W g1 54 #[.slice A rv.reaches.length c, .slice A' rv.shoals.length c', .slice (some ⟨bS, oS, none⟩) sides.length d] ∧ Blk W ga15_3 23 #[.int .i64 (shUp rv sides l l.length).lo, .int .i64 (shUp rv sides l l.length).hi] ∧ Below w.heap.size w W) (fun x => l.length - x) 0 ⟨Nat.zero_le _, ho, q1, qa15_3, hbw⟩ ⟨rfl, trivial⟩ ?_
                      clear ho q1 qa15_3 hbw
                      rintro i wz ⟨hi, ho, q1, qa15_3, hbw⟩
                      by_cases hlt : i < l.length
                      ·
                        obtain ⟨hip, hih⟩ := hway.ok i hlt
                        have hih_ := bdOk_iff.1 hih
                        have hat := mkWide_at (cut : Nat) ((sides.getD 0 []).length : Nat) l (i := i) (j := i) (by omega)
                        rw [if_neg (by omega)] at hat
                        have hml := mkWide_len (cut : Nat) ((sides.getD 0 []).length : Nat) l i
                        obtain ⟨y, ey⟩ : ∃ y, y = l.getD i pass0 := ⟨_, rfl⟩
                        rw [← ey] at hip hih hih_ hat
                        obtain ⟨ml, eml⟩ : ∃ y, y = (mkWide (cut : Nat) ((sides.getD 0 []).length : Nat) l i) := ⟨_, rfl⟩
                        rw [← eml] at ho hat hml
                        obtain ⟨b1, o1, e1_, _, hrc⟩ := passes_cells ml i (by omega) _ _ _ _ _ (Rd.of_own ho)
                        injection e1_ with e1_
                        injection e1_ with e1_ e2_
                        subst e1_
                        subst e2_
                        rw [hat] at hrc
                        have h5 : ((cut : Nat) : Int).tmod 5 = ((cut % 5 : Nat) : Int) := (Int.ofNat_tmod cut 5).symm
                        have h4 : ((cut : Nat) : Int).tmod 4 = ((cut % 4 : Nat) : Int) := (Int.ofNat_tmod cut 4).symm
                        have h5b : cut % 5 < 5 := Nat.mod_lt _ (by decide)
                        have h4b : cut % 4 < 4 := Nat.mod_lt _ (by decide)
                        refine EC.seq ?_
                        refine EC.seq ?_
                        refine EC.region ?_
                        refine EL.val (x_move rfl) rfl ?_
                        refine EL.val (x_move rfl) rfl ?_
                        refine EL.val (ln_99 rfl) rfl ?_
                        refine EL.val (x_lss rfl rfl (by first | assumption | exact decide_eq_true (by omega))) rfl ?_
                        refine EL.nil ?_
                        refine EX.seq ?_
                        refine EC.yes rfl ?_
                        refine EC.skip ?_
                        refine EX.seq ?_
                        refine EC.seq ?_
                        refine EC.block ?_
                        refine EC.seq ?_
                        refine EC.region ?_
                        refine EL.val (x_move rfl) rfl ?_
                        refine EL.val (x_move rfl) rfl ?_
                        refine EL.val (x_move rfl) rfl ?_
                        refine EL.val (x_move rfl) rfl ?_
                        refine EL.val (ix_99 (k := i) rfl rfl hlt) rfl ?_
                        refine EL.val (fa_101_1 rfl) rfl ?_
                        refine EL.val (fa_23_0 rfl) rfl ?_
                        refine EL.val (ld_3 rfl hrc.c1) rfl ?_
                        refine EL.val (x_move rfl) rfl ?_
                        refine EL.val (cv_5_3 rfl (IntWalk.i64_in _ ⟨by omega, by omega⟩)) rfl ?_
                        refine EL.val (x_rem rfl rfl (by decide) h5) rfl ?_
                        refine EL.val (x_sub rfl rfl (by first | assumption | exact IntWalk.i64_in _ ⟨by omega, by omega⟩)) rfl ?_
                        refine EL.val (mm_max rfl rfl rfl) rfl ?_
                        refine EL.val (ix_99 (k := i) rfl rfl hlt) rfl ?_
                        refine EL.val (fa_101_1 rfl) rfl ?_
                        refine EL.val (fa_23_0 rfl) rfl ?_
                        have ne17_1 := row_ne ho q1 rfl
                        have ne17_5 := row_ne ho qa15_3 rfl
                        refine EL.storeRow (l' := [.int .i64 (max 0 (y.hours.lo - ((cut % 5 : Nat) : Int)))]) rfl rfl ho sz_3 rfl rfl (by rw [passesC_len, hml]; omega) rfl ?_
                        intro w17 ho2 hg17
                        have hbm := (ho.lt gm rfl).1
                        replace q1 := q1.grown hg17 (fun h => ne17_1 (Option.some.inj h))
                        replace qa15_3 := qa15_3.grown hg17 (fun h => ne17_5 (Option.some.inj h))
                        replace hbw := below_store hbw hg17 (Nat.le_trans hwb hbm)
                        rw [Nat.zero_add, pass_set1 _ (by omega), hat] at ho2
                        obtain ⟨ml2, eml2⟩ : ∃ z, z = ml.set i ⟨y.place, ⟨(max 0 (y.hours.lo - ((cut % 5 : Nat) : Int))), y.hours.hi⟩⟩ := ⟨_, rfl⟩
                        rw [← eml2] at ho2
                        have ho := ho2
                        clear ho2
                        have hml2 : ml2.length = l.length := by rw [eml2, List.length_set]; exact hml
                        have hat2 : ml2.getD i pass0 = ⟨y.place, ⟨(max 0 (y.hours.lo - ((cut % 5 : Nat) : Int))), y.hours.hi⟩⟩ := by rw [eml2, getD_set (by omega), if_pos rfl]
                        obtain ⟨b1, o1, e1_, _, hrc2⟩ := passes_cells ml2 i (by omega) _ _ _ _ _ (Rd.of_own ho)
                        injection e1_ with e1_
                        injection e1_ with e1_ e2_
                        subst e1_
                        subst e2_
                        rw [hat2] at hrc2
                        refine EL.nil ?_
                        refine EX.seq ?_
                        have lt_1 := q1.lt
                        have lt_5 := qa15_3.lt
                        refine EC.regionP [[], [], [], [2], [2, 3], [2, 3, 4], [2, 3, 4, 5], [2, 3, 4, 5, 6], [], [], [8, 9], [8, 9, 10], [8, 9, 10, 11], [8, 9, 10, 11, 12], [], [14], [14, 15], [8, 9, 10, 11, 12, 13, 14, 15, 16], [2, 3, 4, 5, 6, 7, 8, 9, 10, 11, 12, 13, 14, 15, 16, 17], [0, 1, 2, 3, 4, 5, 6, 7, 8, 9, 10, 11, 12, 13, 14, 15, 16, 17, 18], [0, 1, 2, 3, 4, 5, 6, 7, 8, 9, 10, 11, 12, 13, 14, 15, 16, 17, 18, 19], [0, 1, 2, 3, 4, 5, 6, 7, 8, 9, 10, 11, 12, 13, 14, 15, 16, 17, 18, 19, 20], [0, 1, 2, 3, 4, 5, 6, 7, 8, 9, 10, 11, 12, 13, 14, 15, 16, 17, 18, 19, 20, 21]] 19 [] (phi (fun i_ r => match i_ with | 0 => r 0 = .slice (some ⟨gm, 0, none⟩) l.length cho | 1 => r 1 = .int .i64 (i : Nat) | 2 => r 2 = .pointer (some ⟨g1, 2, none⟩) | 3 => r 3 = .slice (some ⟨bS, oS, none⟩) sides.length d | 4 => r 4 = .pointer (some ⟨bS, oS + 0, none⟩) | 5 => r 5 = .slice A0 (sides.getD 0 []).length ca0 | 6 => r 6 = .int .i64 ((sides.getD 0 []).length : Nat) | 7 => r 7 = .int .i64 ((((sides.getD 0 []).length : Nat) : Int) - 1) | 8 => r 8 = .slice (some ⟨gm, 0, none⟩) l.length cho | 9 => r 9 = .int .i64 (i : Nat) | 10 => r 10 = .pointer (some ⟨gm, 0 + i * 3, none⟩) | 11 => r 11 = .pointer (some ⟨gm, 0 + i * 3 + 1, none⟩) | 12 => r 12 = .pointer (some ⟨gm, 0 + i * 3 + 1 + 1, none⟩) | 13 => r 13 = .int .i64 y.hours.hi | 14 => r 14 = .int .u8 (cut : Nat) | 15 => r 15 = .int .i64 (cut : Nat) | 16 => r 16 = .int .i64 ((cut % 4 : Nat) : Int) | 17 => r 17 = .int .i64 (y.hours.hi + ((cut % 4 : Nat) : Int)) | 18 => r 18 = .int .i64 (min ((((sides.getD 0 []).length : Nat) : Int) - 1) (y.hours.hi + ((cut % 4 : Nat) : Int))) | _ => True) []) (by kernel_rfl) rfl rfl (phi_nil) (fun i_ hi_ => ?_) ?_
                        · match i_, hi_ with
                          | 0, _ =>
                            intro val w1 a hb ha hd
                            have ha := ha.sub (Sub.ins (d := 26) (Sub.nil _) rfl)
                            exact hs_val ha rfl rfl (x_move rfl) rfl rfl
                          | 1, _ =>
                            intro val w1 a hb ha hd
                            have ha := ha.sub (Sub.ins (d := 27) (Sub.nil _) rfl)
                            exact hs_val ha rfl rfl (x_move rfl) rfl rfl
                          | 2, _ =>
                            intro val w1 a hb ha hd
                            have ha := ha.sub (Sub.ins (d := 3) (Sub.nil _) rfl)
                            exact hs_val ha rfl rfl (fa_54_1 rfl) rfl rfl
                          | 3, _ =>
                            intro val w1 a hb ha hd
                            have e2 : val 2 = .pointer (some ⟨g1, 2, none⟩) := hd 2 (memB_mem.1 rfl)
                            have ha := ha.sub (Sub.ins (d := 325) (Sub.nil _) (dep_get rfl e2))
                            exact hs_val ha rfl rfl (ld_52 rfl ((q1.below hb q1.lt).at (j := 2) rfl)) rfl rfl
                          | 4, _ =>
                            intro val w1 a hb ha hd
                            have e3 : val 3 = .slice (some ⟨bS, oS, none⟩) sides.length d := hd 3 (memB_mem.1 rfl)
                            have ha := ha.sub (Sub.ins (d := 326) (Sub.nil _) (dep_get rfl e3))
                            exact hs_val ha rfl rfl (ix_52 (k := 0) rfl rfl (by omega)) rfl rfl
                          | 5, _ =>
                            intro val w1 a hb ha hd
                            have e4 : val 4 = .pointer (some ⟨bS, oS + 0, none⟩) := hd 4 (memB_mem.1 rfl)
                            have ha := ha.sub (Sub.ins (d := 327) (Sub.nil _) (dep_get rfl e4))
                            exact hs_val ha rfl rfl (ld_28 rfl (below_load (Below.on hbw hb hbw.size) c0)) rfl rfl
                          | 6, _ =>
                            intro val w1 a hb ha hd
                            have e5 : val 5 = .slice A0 (sides.getD 0 []).length ca0 := hd 5 (memB_mem.1 rfl)
                            have ha := ha.sub (Sub.ins (d := 328) (Sub.nil _) (dep_get rfl e5))
                            exact hs_val ha rfl rfl (ln_28 rfl) rfl rfl
                          | 7, _ =>
                            intro val w1 a hb ha hd
                            have e6 : val 6 = .int .i64 ((sides.getD 0 []).length : Nat) := hd 6 (memB_mem.1 rfl)
                            have ha := ha.sub (Sub.ins (d := 329) (Sub.nil _) (dep_get rfl e6))
                            exact hs_val ha rfl rfl (x_sub rfl rfl (by first | assumption | exact IntWalk.i64_in _ ⟨by omega, by omega⟩)) rfl rfl
                          | 8, _ =>
                            intro val w1 a hb ha hd
                            have ha := ha.sub (Sub.ins (d := 26) (Sub.nil _) rfl)
                            exact hs_val ha rfl rfl (x_move rfl) rfl rfl
                          | 9, _ =>
                            intro val w1 a hb ha hd
                            have ha := ha.sub (Sub.ins (d := 27) (Sub.nil _) rfl)
                            exact hs_val ha rfl rfl (x_move rfl) rfl rfl
                          | 10, _ =>
                            intro val w1 a hb ha hd
                            have e8 : val 8 = .slice (some ⟨gm, 0, none⟩) l.length cho := hd 8 (memB_mem.1 rfl)
                            have e9 : val 9 = .int .i64 (i : Nat) := hd 9 (memB_mem.1 rfl)
                            have ha := ha.sub (Sub.ins (d := 332) (Sub.ins (d := 331) (Sub.nil _) (dep_get rfl e8)) (dep_get rfl e9))
                            exact hs_val ha rfl rfl (ix_99 (k := i) rfl rfl hlt) rfl rfl
                          | 11, _ =>
                            intro val w1 a hb ha hd
                            have e10 : val 10 = .pointer (some ⟨gm, 0 + i * 3, none⟩) := hd 10 (memB_mem.1 rfl)
                            have ha := ha.sub (Sub.ins (d := 333) (Sub.nil _) (dep_get rfl e10))
                            exact hs_val ha rfl rfl (fa_101_1 rfl) rfl rfl
                          | 12, _ =>
                            intro val w1 a hb ha hd
                            have e11 : val 11 = .pointer (some ⟨gm, 0 + i * 3 + 1, none⟩) := hd 11 (memB_mem.1 rfl)
                            have ha := ha.sub (Sub.ins (d := 334) (Sub.nil _) (dep_get rfl e11))
                            exact hs_val ha rfl rfl (fa_23_1 rfl) rfl rfl
                          | 13, _ =>
                            intro val w1 a hb ha hd
                            have e12 : val 12 = .pointer (some ⟨gm, 0 + i * 3 + 1 + 1, none⟩) := hd 12 (memB_mem.1 rfl)
                            have ha := ha.sub (Sub.ins (d := 335) (Sub.nil _) (dep_get rfl e12))
                            exact hs_val ha rfl rfl (ld_3 rfl (below_load hb hrc2.c2)) rfl rfl
                          | 14, _ =>
                            intro val w1 a hb ha hd
                            have ha := ha.sub (Sub.ins (d := 2) (Sub.nil _) rfl)
                            exact hs_val ha rfl rfl (x_move rfl) rfl rfl
                          | 15, _ =>
                            intro val w1 a hb ha hd
                            have e14 : val 14 = .int .u8 (cut : Nat) := hd 14 (memB_mem.1 rfl)
                            have ha := ha.sub (Sub.ins (d := 337) (Sub.nil _) (dep_get rfl e14))
                            exact hs_val ha rfl rfl (cv_5_3 rfl (IntWalk.i64_in _ ⟨by omega, by omega⟩)) rfl rfl
                          | 16, _ =>
                            intro val w1 a hb ha hd
                            have e15 : val 15 = .int .i64 (cut : Nat) := hd 15 (memB_mem.1 rfl)
                            have ha := ha.sub (Sub.ins (d := 338) (Sub.nil _) (dep_get rfl e15))
                            exact hs_val ha rfl rfl (x_rem rfl rfl (by decide) h4) rfl rfl
                          | 17, _ =>
                            intro val w1 a hb ha hd
                            have e13 : val 13 = .int .i64 y.hours.hi := hd 13 (memB_mem.1 rfl)
                            have e16 : val 16 = .int .i64 ((cut % 4 : Nat) : Int) := hd 16 (memB_mem.1 rfl)
                            have ha := ha.sub (Sub.ins (d := 339) (Sub.ins (d := 336) (Sub.nil _) (dep_get rfl e13)) (dep_get rfl e16))
                            exact hs_val ha rfl rfl (x_add rfl rfl (by first | assumption | exact IntWalk.i64_in _ ⟨by omega, by omega⟩)) rfl rfl
                          | 18, _ =>
                            intro val w1 a hb ha hd
                            have e7 : val 7 = .int .i64 ((((sides.getD 0 []).length : Nat) : Int) - 1) := hd 7 (memB_mem.1 rfl)
                            have e17 : val 17 = .int .i64 (y.hours.hi + ((cut % 4 : Nat) : Int)) := hd 17 (memB_mem.1 rfl)
                            have ha := ha.sub (Sub.ins (d := 340) (Sub.ins (d := 330) (Sub.nil _) (dep_get rfl e7)) (dep_get rfl e17))
                            exact hs_val ha rfl rfl (mm_min rfl rfl rfl) rfl rfl
                          | k + 19, h => exact absurd h (by omega)
                        · intro val wR32 hb halc hd
                          have e0 : val 0 = .slice (some ⟨gm, 0, none⟩) l.length cho := hd 0 (by omega)
                          have e1 : val 1 = .int .i64 (i : Nat) := hd 1 (by omega)
                          have e2 : val 2 = .pointer (some ⟨g1, 2, none⟩) := hd 2 (by omega)
                          have e3 : val 3 = .slice (some ⟨bS, oS, none⟩) sides.length d := hd 3 (by omega)
                          have e4 : val 4 = .pointer (some ⟨bS, oS + 0, none⟩) := hd 4 (by omega)
                          have e5 : val 5 = .slice A0 (sides.getD 0 []).length ca0 := hd 5 (by omega)
                          have e6 : val 6 = .int .i64 ((sides.getD 0 []).length : Nat) := hd 6 (by omega)
                          have e7 : val 7 = .int .i64 ((((sides.getD 0 []).length : Nat) : Int) - 1) := hd 7 (by omega)
                          have e8 : val 8 = .slice (some ⟨gm, 0, none⟩) l.length cho := hd 8 (by omega)
                          have e9 : val 9 = .int .i64 (i : Nat) := hd 9 (by omega)
                          have e10 : val 10 = .pointer (some ⟨gm, 0 + i * 3, none⟩) := hd 10 (by omega)
                          have e11 : val 11 = .pointer (some ⟨gm, 0 + i * 3 + 1, none⟩) := hd 11 (by omega)
                          have e12 : val 12 = .pointer (some ⟨gm, 0 + i * 3 + 1 + 1, none⟩) := hd 12 (by omega)
                          have e13 : val 13 = .int .i64 y.hours.hi := hd 13 (by omega)
                          have e14 : val 14 = .int .u8 (cut : Nat) := hd 14 (by omega)
                          have e15 : val 15 = .int .i64 (cut : Nat) := hd 15 (by omega)
                          have e16 : val 16 = .int .i64 ((cut % 4 : Nat) : Int) := hd 16 (by omega)
                          have e17 : val 17 = .int .i64 (y.hours.hi + ((cut % 4 : Nat) : Int)) := hd 17 (by omega)
                          have e18 : val 18 = .int .i64 (min ((((sides.getD 0 []).length : Nat) : Int) - 1) (y.hours.hi + ((cut % 4 : Nat) : Int))) := hd 18 (by omega)
                          refine EL.ends (cs := [.slice (some ⟨gm, 0, none⟩) l.length cho, .int .i64 (i : Nat), .pointer (some ⟨g1, 2, none⟩), .slice (some ⟨bS, oS, none⟩) sides.length d, .pointer (some ⟨bS, oS + 0, none⟩), .slice A0 (sides.getD 0 []).length ca0, .int .i64 ((sides.getD 0 []).length : Nat), .int .i64 ((((sides.getD 0 []).length : Nat) : Int) - 1), .slice (some ⟨gm, 0, none⟩) l.length cho, .int .i64 (i : Nat), .pointer (some ⟨gm, 0 + i * 3, none⟩), .pointer (some ⟨gm, 0 + i * 3 + 1, none⟩), .pointer (some ⟨gm, 0 + i * 3 + 1 + 1, none⟩), .int .i64 y.hours.hi, .int .u8 (cut : Nat), .int .i64 (cut : Nat), .int .i64 ((cut % 4 : Nat) : Int), .int .i64 (y.hours.hi + ((cut % 4 : Nat) : Int)), .int .i64 (min ((((sides.getD 0 []).length : Nat) : Int) - 1) (y.hours.hi + ((cut % 4 : Nat) : Int)))]) ⟨e0, e1, e2, e3, e4, e5, e6, e7, e8, e9, e10, e11, e12, e13, e14, e15, e16, e17, e18, trivial⟩ rfl ?_
                          replace q1 := q1.below hb q1.lt
                          replace qa15_3 := qa15_3.below hb qa15_3.lt
                          replace ho := own_below ho hb (Nat.le_refl _)
                          replace hbw := Below.on hbw hb hbw.size
                          clear hb
                          refine EL.val (ix_99 (k := i) rfl rfl hlt) rfl ?_
                          refine EL.val (fa_101_1 rfl) rfl ?_
                          refine EL.val (fa_23_1 rfl) rfl ?_
                          have ne18_1 := row_ne ho q1 rfl
                          have ne18_5 := row_ne ho qa15_3 rfl
                          refine EL.storeRow (l' := [.int .i64 (min ((((sides.getD 0 []).length : Nat) : Int) - 1) (y.hours.hi + ((cut % 4 : Nat) : Int)))]) rfl rfl ho sz_3 rfl rfl (by rw [passesC_len, hml2]; omega) rfl ?_
                          intro w18 ho2 hg18
                          have hbm := (ho.lt gm rfl).1
                          replace q1 := q1.grown hg18 (fun h => ne18_1 (Option.some.inj h))
                          replace qa15_3 := qa15_3.grown hg18 (fun h => ne18_5 (Option.some.inj h))
                          replace hbw := below_store hbw hg18 (Nat.le_trans hwb hbm)
                          rw [Nat.zero_add, show i * 3 + 1 + 1 = i * 3 + 2 by omega, pass_set2 _ (by omega), hat2, eml2, List.set_set] at ho2
                          have hfin : ml.set i ⟨y.place, ⟨(max 0 (y.hours.lo - ((cut % 5 : Nat) : Int))), (min ((((sides.getD 0 []).length : Nat) : Int) - 1) (y.hours.hi + ((cut % 4 : Nat) : Int)))⟩⟩ = (mkWide (cut : Nat) ((sides.getD 0 []).length : Nat) l (i + 1)) := by rw [mkWide, ← eml, ← ey, wideP, h5, h4]
                          rw [hfin] at ho2
                          have ho := ho2
                          clear ho2
                          refine EL.nil ?_
                          refine EX.blk ?_
                          refine EX.seq ?_
                          refine EC.region ?_
                          refine EL.val (x_move rfl) rfl ?_
                          refine EL.val (x_add rfl rfl (by first | assumption | exact IntWalk.i64_in _ ⟨by omega, by omega⟩)) rfl ?_
                          refine EL.val (x_assign rfl) rfl ?_
                          refine EL.nil ?_
                          refine EX.roundD (i + 1) ⟨rfl, trivial⟩ (by repeat first | exact Sub.refl _ | refine sub_past rfl ?_ | refine sub_del rfl ?_ | refine sub_insL_nil ?_) ⟨hlt, ho, q1, qa15_3, hbw⟩ (by omega)
                      ·
                        obtain rfl : i = l.length := by omega
                        have hml := mkWide_len (cut : Nat) ((sides.getD 0 []).length : Nat) l l.length
                        have hat := fun j (hj : j < l.length) => mkWide_at (cut : Nat) ((sides.getD 0 []).length : Nat) l (i := l.length) (j := j) (Nat.le_refl _)
                        have h5 : ((cut : Nat) : Int).tmod 5 = ((cut % 5 : Nat) : Int) := (Int.ofNat_tmod cut 5).symm
                        have h4 : ((cut : Nat) : Int).tmod 4 = ((cut % 4 : Nat) : Int) := (Int.ofNat_tmod cut 4).symm
                        obtain ⟨ml, eml⟩ : ∃ y, y = (mkWide (cut : Nat) ((sides.getD 0 []).length : Nat) l l.length) := ⟨_, rfl⟩
                        rw [← eml] at ho hml
                        have hatj : ∀ j, j < l.length → ml.getD j pass0 = wideP (cut : Nat) ((sides.getD 0 []).length : Nat) (l.getD j pass0) := fun j hj => by have := hat j hj; rw [if_pos hj, ← eml] at this; exact this
                        have hwm : WayOk rv sides ml := by
                          refine ⟨by rw [hml]; exact hway.some, fun j hj => ?_⟩
                          obtain ⟨h1, h2⟩ := hway.ok j (by omega)
                          rw [hatj j (by omega)]
                          have h2 := bdOk_iff.1 h2
                          refine ⟨h1, bdOk_iff.2 ?_⟩
                          simp only [wideP, h5, h4]
                          omega
                        have hwd := way_wide (rv := rv) (sides := sides) (l := l) (l' := ml) (n := l.length) (fun j hj => by rw [hatj j hj]; rfl) (fun j hj => by
                          obtain ⟨h1, h2⟩ := hway.ok j hj
                          have h2 := bdOk_iff.1 h2
                          rw [hatj j hj]
                          simp only [wideP, h5, h4]
                          omega)
                        rw [← hml] at hwd
                        replace ho : wz.ownsRow wR24.heap.size 101 3 (.slice (some ⟨gm, 0, none⟩) l.length cho) ml.length (passesC ml) := by rw [hml]; exact ho
                        rw [show (shUp rv sides l ml.length) = (shUp rv sides l l.length) by rw [hml]] at hwd
                        refine EC.seq ?_
                        refine EC.seq ?_
                        refine EC.region ?_
                        refine EL.val (x_move rfl) rfl ?_
                        refine EL.val (x_move rfl) rfl ?_
                        refine EL.val (ln_99 rfl) rfl ?_
                        refine EL.val (x_lss rfl rfl (by first | assumption | exact decide_eq_false (by omega))) rfl ?_
                        refine EL.nil ?_
                        refine EX.seq ?_
                        refine EC.no rfl ?_
                        refine EC.exit ?_
                        refine EX.seq_exit ?_
                        refine EX.seq_exit ?_
                        refine EX.blk_here ?_
                        refine EX.seq ?_
                        refine EC.seq ?_
                        have lt_1 := q1.lt
                        have lt_5 := qa15_3.lt
                        refine EC.regionS [[], [0], [0, 1], [], [3], [0, 1, 2, 3, 4], [], [0, 1, 2, 3, 4, 5, 6], [0, 1, 2, 3, 4, 5, 6, 7], [0, 1, 2, 3, 4, 5, 6, 7, 8], [0, 1, 2, 3, 4, 5, 6, 7, 8], [0, 1, 2, 3, 4, 5, 6, 7, 8], [0, 1, 2, 3, 4, 5, 6, 7, 8], [], [0, 1, 2, 3, 4, 5, 6, 7, 8, 9, 13], [0, 1, 2, 3, 4, 5, 6, 7, 8, 9, 10, 13, 14], [0, 1, 2, 3, 4, 5, 6, 7, 8, 9, 10, 11, 13, 14, 15], [0, 1, 2, 3, 4, 5, 6, 7, 8, 9, 10, 11, 12, 13, 14, 15, 16]] 17 [13] [14] (fun _ w_ => Below wz.heap.size wz w_) (phiS (fun i_ r => match i_ with | 0 => r 0 = .pointer (some ⟨g1, 0, none⟩) | 1 => r 1 = .agg #[.slice A rv.reaches.length c, .slice A' rv.shoals.length c'] | 3 => r 3 = .pointer (some ⟨g1, 2, none⟩) | 4 => r 4 = .slice (some ⟨bS, oS, none⟩) sides.length d | 6 => r 6 = .slice (some ⟨gm, 0, none⟩) l.length cho | 7 => r 7 = .tuple #[.agg #[.int .i64 (shUp rv sides ml ml.length).lo, .int .i64 (shUp rv sides ml ml.length).hi], .int .i64 (shUp rv sides ml ml.length).pass, .int .i64 (shUp rv sides ml ml.length).hour, .int .i64 0] | 8 => r 8 = .tuple #[.agg #[.int .i64 (shUp rv sides ml ml.length).lo, .int .i64 (shUp rv sides ml ml.length).hi], .int .i64 (shUp rv sides ml ml.length).pass, .int .i64 (shUp rv sides ml ml.length).hour, .int .i64 0] | 9 => r 9 = .agg #[.int .i64 (shUp rv sides ml ml.length).lo, .int .i64 (shUp rv sides ml ml.length).hi] | 10 => r 10 = .int .i64 (shUp rv sides ml ml.length).pass | 11 => r 11 = .int .i64 (shUp rv sides ml ml.length).hour | 12 => r 12 = .int .i64 0 | 15 => r 15 = .int .i64 (shUp rv sides ml ml.length).pass | 16 => r 16 = .int .i64 (shUp rv sides ml ml.length).hour | _ => True) [(2, fun fl r w_ => fl 14 = false → (∃ a b vs, r 2 = .agg #[a, b] ∧ RdRiver w_ w_.heap.size a b rv vs)), (5, fun fl r w_ => fl 14 = false → (∃ v ss, r 5 = v ∧ RdSides w_ w_.heap.size v sides ss)), (13, fun fl r w_ => ∃ g_, r 13 = .pointer (some ⟨g_, 0, none⟩) ∧ wz.heap.size ≤ g_ ∧ (fl 14 = false → Blk w_ g_ 23 #[.int .i64 0, .int .i64 0])), (14, fun _ r w_ => ∃ g_, r 13 = .pointer (some ⟨g_, 0, none⟩) ∧ Blk w_ g_ 23 #[.int .i64 (shUp rv sides ml ml.length).lo, .int .i64 (shUp rv sides ml ml.length).hi])]) (by kernel_rfl) rfl rfl (by intro i hi; simp at hi; first | (subst hi; exact ⟨by simp, by omega⟩) | (rcases hi with rfl | rfl | rfl <;> exact ⟨by simp, by omega⟩) | (rcases hi with rfl | rfl <;> exact ⟨by simp, by omega⟩)) (base_below wz) (phiS_cons (monoS_till mono_riv) (phiS_cons (monoS_till mono_sid) (phiS_cons monoS_alloc (phiS_cons monoS_store (phiS_nil))))) (fun i_ hi_ hs_ => ?_) (fun i_ hi_ => ?_) ?_
                        · match i_, hi_ with
                          | 0, _ =>
                            intro val fl w1 a hb ha hd hfl
                            have ha := ha.sub (Sub.ins (d := 3) (Sub.nil _) rfl)
                            exact ss_val ha rfl rfl (fa_54_0 rfl) rfl rfl
                          | 1, _ =>
                            intro val fl w1 a hb ha hd hfl
                            have e0 : val 0 = .pointer (some ⟨g1, 0, none⟩) := hd 0 (memB_mem.1 rfl)
                            have ha := ha.sub (Sub.ins (d := 346) (Sub.nil _) (dep_get rfl e0))
                            exact ss_val ha rfl rfl (ld_47 rfl ((q1.below hb q1.lt).at (j := 0) rfl) ((q1.below hb q1.lt).at (j := 1) rfl)) rfl rfl
                          | 2, _ =>
                            intro val fl w1 a hb ha hd hfl
                            have e1 : val 1 = .agg #[.slice A rv.reaches.length c, .slice A' rv.shoals.length c'] := hd 1 (memB_mem.1 rfl)
                            have ha := ha.sub (Sub.ins (d := 347) (Sub.nil _) (dep_get rfl e1))
                            refine ss_call ha rfl rfl (cl_24 rfl) (copied_any rv _ _ vs _ B (hr.below ((Below.on hbw hb hbw.size).mono hB)) (Nat.le_trans hB (Below.on hbw hb hbw.size).size) (by omega) (by omega) f3) rfl ?_
                            rintro e w' ⟨⟨v1, u1, vs1, rfl, hcp⟩, hb'⟩
                            exact ⟨_, rfl, hb', fun _ => ⟨_, _, _, rfl, hcp⟩⟩
                          | 3, _ =>
                            intro val fl w1 a hb ha hd hfl
                            have ha := ha.sub (Sub.ins (d := 3) (Sub.nil _) rfl)
                            exact ss_val ha rfl rfl (fa_54_1 rfl) rfl rfl
                          | 4, _ =>
                            intro val fl w1 a hb ha hd hfl
                            have e3 : val 3 = .pointer (some ⟨g1, 2, none⟩) := hd 3 (memB_mem.1 rfl)
                            have ha := ha.sub (Sub.ins (d := 349) (Sub.nil _) (dep_get rfl e3))
                            exact ss_val ha rfl rfl (ld_52 rfl ((q1.below hb q1.lt).at (j := 2) rfl)) rfl rfl
                          | 5, _ =>
                            intro val fl w1 a hb ha hd hfl
                            have e4 : val 4 = .slice (some ⟨bS, oS, none⟩) sides.length d := hd 4 (memB_mem.1 rfl)
                            have ha := ha.sub (Sub.ins (d := 350) (Sub.nil _) (dep_get rfl e4))
                            refine ss_call ha rfl rfl (cl_34 rfl) (forecast_any sides _ ss _ B (hs.below ((Below.on hbw hb hbw.size).mono hB)) (Nat.le_trans hB (Below.on hbw hb hbw.size).size) (by omega) f4) rfl ?_
                            rintro e w' ⟨⟨v1, ss1, rfl, hcp⟩, hb'⟩
                            exact ⟨_, rfl, hb', fun _ => ⟨_, _, rfl, hcp⟩⟩
                          | 6, _ =>
                            intro val fl w1 a hb ha hd hfl
                            have ha := ha.sub (Sub.ins (d := 26) (Sub.nil _) rfl)
                            exact ss_val ha rfl rfl (x_move rfl) rfl rfl
                          | 7, _ =>
                            intro val fl w1 a hb ha hd hfl
                            obtain ⟨a2_, b2_, vs2_, e2, q2_⟩ := hd 2 (memB_mem.1 rfl) (hfl 14 (by simp) (memB_mem.1 rfl))
                            obtain ⟨v5_, ss5_, e5, q5_⟩ := hd 5 (memB_mem.1 rfl) (hfl 14 (by simp) (memB_mem.1 rfl))
                            have e6 : val 6 = .slice (some ⟨gm, 0, none⟩) l.length cho := hd 6 (memB_mem.1 rfl)
                            have ha := ha.sub (Sub.ins (d := 352) (Sub.ins (d := 351) (Sub.ins (d := 348) (Sub.nil _) (dep_get rfl e2)) (dep_get rfl e5)) (dep_get rfl e6))
                            refine ss_call ha rfl rfl (cl_51 rfl rfl rfl) (shallow_good rv sides _ _ _ _ _ ml _ _ w1.heap.size q2_ q5_ (Nat.le_refl _) (Rd.of_own (own_below ho hb (Nat.le_refl _))) hfine hst hwm) rfl ?_
                            rintro e w' ⟨rfl, hb'⟩
                            exact ⟨_, rfl, hb', rfl⟩
                          | 8, _ =>
                            intro val fl w1 a hb ha hd hfl
                            have e7 : val 7 = .tuple #[.agg #[.int .i64 (shUp rv sides ml ml.length).lo, .int .i64 (shUp rv sides ml ml.length).hi], .int .i64 (shUp rv sides ml ml.length).pass, .int .i64 (shUp rv sides ml ml.length).hour, .int .i64 0] := hd 7 (memB_mem.1 rfl)
                            have ha := ha.sub (Sub.ins (d := 353) (Sub.nil _) (dep_get rfl e7))
                            exact ss_val ha rfl rfl (x_move rfl) rfl rfl
                          | 9, _ =>
                            intro val fl w1 a hb ha hd hfl
                            have e8 : val 8 = .tuple #[.agg #[.int .i64 (shUp rv sides ml ml.length).lo, .int .i64 (shUp rv sides ml ml.length).hi], .int .i64 (shUp rv sides ml ml.length).pass, .int .i64 (shUp rv sides ml ml.length).hour, .int .i64 0] := hd 8 (memB_mem.1 rfl)
                            have ha := ha.sub (Sub.ins (d := 345) (Sub.nil _) (dep_get rfl e8))
                            exact ss_val ha rfl rfl (x_extract rfl rfl) rfl rfl
                          | 10, _ =>
                            intro val fl w1 a hb ha hd hfl
                            have e8 : val 8 = .tuple #[.agg #[.int .i64 (shUp rv sides ml ml.length).lo, .int .i64 (shUp rv sides ml ml.length).hi], .int .i64 (shUp rv sides ml ml.length).pass, .int .i64 (shUp rv sides ml ml.length).hour, .int .i64 0] := hd 8 (memB_mem.1 rfl)
                            have ha := ha.sub (Sub.ins (d := 345) (Sub.nil _) (dep_get rfl e8))
                            exact ss_val ha rfl rfl (x_extract rfl rfl) rfl rfl
                          | 11, _ =>
                            intro val fl w1 a hb ha hd hfl
                            have e8 : val 8 = .tuple #[.agg #[.int .i64 (shUp rv sides ml ml.length).lo, .int .i64 (shUp rv sides ml ml.length).hi], .int .i64 (shUp rv sides ml ml.length).pass, .int .i64 (shUp rv sides ml ml.length).hour, .int .i64 0] := hd 8 (memB_mem.1 rfl)
                            have ha := ha.sub (Sub.ins (d := 345) (Sub.nil _) (dep_get rfl e8))
                            exact ss_val ha rfl rfl (x_extract rfl rfl) rfl rfl
                          | 12, _ =>
                            intro val fl w1 a hb ha hd hfl
                            have e8 : val 8 = .tuple #[.agg #[.int .i64 (shUp rv sides ml ml.length).lo, .int .i64 (shUp rv sides ml ml.length).hi], .int .i64 (shUp rv sides ml ml.length).pass, .int .i64 (shUp rv sides ml ml.length).hour, .int .i64 0] := hd 8 (memB_mem.1 rfl)
                            have ha := ha.sub (Sub.ins (d := 345) (Sub.nil _) (dep_get rfl e8))
                            exact ss_val ha rfl rfl (x_extract rfl rfl) rfl rfl
                          | 13, _ =>
                            intro val fl w1 a hb ha hd hfl
                            have ha := ha.sub (Sub.nil _)
                            exact ss_newP ha rfl rfl al_23 (fun g w' hq _ hge => ⟨g, rfl, Nat.le_trans hb.size hge, fun _ => hq⟩)
                          | 14, _ =>
                            exact absurd (by simp) hs_
                          | 15, _ =>
                            intro val fl w1 a hb ha hd hfl
                            have e10 : val 10 = .int .i64 (shUp rv sides ml ml.length).pass := hd 10 (memB_mem.1 rfl)
                            have ha := ha.sub (Sub.ins (d := 355) (Sub.nil _) (dep_get rfl e10))
                            exact ss_val ha rfl rfl (x_assign rfl) rfl rfl
                          | 16, _ =>
                            intro val fl w1 a hb ha hd hfl
                            have e11 : val 11 = .int .i64 (shUp rv sides ml ml.length).hour := hd 11 (memB_mem.1 rfl)
                            have ha := ha.sub (Sub.ins (d := 356) (Sub.nil _) (dep_get rfl e11))
                            exact ss_val ha rfl rfl (x_assign rfl) rfl rfl
                          | k + 17, h => exact absurd h (by omega)
                        · simp only [List.mem_singleton] at hi_; subst hi_
                          intro val fl w1 a hb hfi ha hd hfl
                          obtain ⟨g13_, e13, hg13_, q13_⟩ := hd 13 (memB_mem.1 rfl)
                          change val 13 = _ at e13
                          have e9 : val 9 = .agg #[.int .i64 (shUp rv sides ml ml.length).lo, .int .i64 (shUp rv sides ml ml.length).hi] := hd 9 (memB_mem.1 rfl)
                          have ha := ha.sub (Sub.ins (d := 354) (Sub.ins (d := 28) (Sub.nil _) (dep_get rfl e13)) (dep_get rfl e9))
                          refine ts_store ha rfl rfl rfl (q13_ hfi) sz_23 rfl rfl rfl rfl ?_
                          intro w' hq hgr
                          refine ⟨undef, rfl, hgr.size, below_store hb hgr hg13_, ⟨g13_, e13, hq⟩, fun j _ hj hn hA => ?_⟩
                          exact phiS_cons_st (C := fun j => j ≠ 14 ∧ 14 ∉ clsAt [[], [0], [0, 1], [], [3], [0, 1, 2, 3, 4], [], [0, 1, 2, 3, 4, 5, 6], [0, 1, 2, 3, 4, 5, 6, 7], [0, 1, 2, 3, 4, 5, 6, 7, 8], [0, 1, 2, 3, 4, 5, 6, 7, 8], [0, 1, 2, 3, 4, 5, 6, 7, 8], [0, 1, 2, 3, 4, 5, 6, 7, 8], [], [0, 1, 2, 3, 4, 5, 6, 7, 8, 9, 13], [0, 1, 2, 3, 4, 5, 6, 7, 8, 9, 10, 13, 14], [0, 1, 2, 3, 4, 5, 6, 7, 8, 9, 10, 11, 13, 14, 15], [0, 1, 2, 3, 4, 5, 6, 7, 8, 9, 10, 11, 12, 13, 14, 15, 16]] j ∧ ∀ p ∈ [13], (p = j ∨ p ∈ clsAt [[], [0], [0, 1], [], [3], [0, 1, 2, 3, 4], [], [0, 1, 2, 3, 4, 5, 6], [0, 1, 2, 3, 4, 5, 6, 7], [0, 1, 2, 3, 4, 5, 6, 7, 8], [0, 1, 2, 3, 4, 5, 6, 7, 8], [0, 1, 2, 3, 4, 5, 6, 7, 8], [0, 1, 2, 3, 4, 5, 6, 7, 8], [], [0, 1, 2, 3, 4, 5, 6, 7, 8, 9, 13], [0, 1, 2, 3, 4, 5, 6, 7, 8, 9, 10, 13, 14], [0, 1, 2, 3, 4, 5, 6, 7, 8, 9, 10, 11, 13, 14, 15], [0, 1, 2, 3, 4, 5, 6, 7, 8, 9, 10, 11, 12, 13, 14, 15, 16]] j) → ∀ q ∈ [13], (q = 14 ∨ q ∈ clsAt [[], [0], [0, 1], [], [3], [0, 1, 2, 3, 4], [], [0, 1, 2, 3, 4, 5, 6], [0, 1, 2, 3, 4, 5, 6, 7], [0, 1, 2, 3, 4, 5, 6, 7, 8], [0, 1, 2, 3, 4, 5, 6, 7, 8], [0, 1, 2, 3, 4, 5, 6, 7, 8], [0, 1, 2, 3, 4, 5, 6, 7, 8], [], [0, 1, 2, 3, 4, 5, 6, 7, 8, 9, 13], [0, 1, 2, 3, 4, 5, 6, 7, 8, 9, 10, 13, 14], [0, 1, 2, 3, 4, 5, 6, 7, 8, 9, 10, 11, 13, 14, 15], [0, 1, 2, 3, 4, 5, 6, 7, 8, 9, 10, 11, 12, 13, 14, 15, 16]] 14) → p ≠ q → val p ≠ val q) (fun _ _ h => by rw [fset_eq] at h; cases h) (phiS_cons_st (C := fun j => j ≠ 14 ∧ 14 ∉ clsAt [[], [0], [0, 1], [], [3], [0, 1, 2, 3, 4], [], [0, 1, 2, 3, 4, 5, 6], [0, 1, 2, 3, 4, 5, 6, 7], [0, 1, 2, 3, 4, 5, 6, 7, 8], [0, 1, 2, 3, 4, 5, 6, 7, 8], [0, 1, 2, 3, 4, 5, 6, 7, 8], [0, 1, 2, 3, 4, 5, 6, 7, 8], [], [0, 1, 2, 3, 4, 5, 6, 7, 8, 9, 13], [0, 1, 2, 3, 4, 5, 6, 7, 8, 9, 10, 13, 14], [0, 1, 2, 3, 4, 5, 6, 7, 8, 9, 10, 11, 13, 14, 15], [0, 1, 2, 3, 4, 5, 6, 7, 8, 9, 10, 11, 12, 13, 14, 15, 16]] j ∧ ∀ p ∈ [13], (p = j ∨ p ∈ clsAt [[], [0], [0, 1], [], [3], [0, 1, 2, 3, 4], [], [0, 1, 2, 3, 4, 5, 6], [0, 1, 2, 3, 4, 5, 6, 7], [0, 1, 2, 3, 4, 5, 6, 7, 8], [0, 1, 2, 3, 4, 5, 6, 7, 8], [0, 1, 2, 3, 4, 5, 6, 7, 8], [0, 1, 2, 3, 4, 5, 6, 7, 8], [], [0, 1, 2, 3, 4, 5, 6, 7, 8, 9, 13], [0, 1, 2, 3, 4, 5, 6, 7, 8, 9, 10, 13, 14], [0, 1, 2, 3, 4, 5, 6, 7, 8, 9, 10, 11, 13, 14, 15], [0, 1, 2, 3, 4, 5, 6, 7, 8, 9, 10, 11, 12, 13, 14, 15, 16]] j) → ∀ q ∈ [13], (q = 14 ∨ q ∈ clsAt [[], [0], [0, 1], [], [3], [0, 1, 2, 3, 4], [], [0, 1, 2, 3, 4, 5, 6], [0, 1, 2, 3, 4, 5, 6, 7], [0, 1, 2, 3, 4, 5, 6, 7, 8], [0, 1, 2, 3, 4, 5, 6, 7, 8], [0, 1, 2, 3, 4, 5, 6, 7, 8], [0, 1, 2, 3, 4, 5, 6, 7, 8], [], [0, 1, 2, 3, 4, 5, 6, 7, 8, 9, 13], [0, 1, 2, 3, 4, 5, 6, 7, 8, 9, 10, 13, 14], [0, 1, 2, 3, 4, 5, 6, 7, 8, 9, 10, 11, 13, 14, 15], [0, 1, 2, 3, 4, 5, 6, 7, 8, 9, 10, 11, 12, 13, 14, 15, 16]] 14) → p ≠ q → val p ≠ val q) (fun _ _ h => by rw [fset_eq] at h; cases h) (phiS_cons_st (C := fun j => j ≠ 14 ∧ 14 ∉ clsAt [[], [0], [0, 1], [], [3], [0, 1, 2, 3, 4], [], [0, 1, 2, 3, 4, 5, 6], [0, 1, 2, 3, 4, 5, 6, 7], [0, 1, 2, 3, 4, 5, 6, 7, 8], [0, 1, 2, 3, 4, 5, 6, 7, 8], [0, 1, 2, 3, 4, 5, 6, 7, 8], [0, 1, 2, 3, 4, 5, 6, 7, 8], [], [0, 1, 2, 3, 4, 5, 6, 7, 8, 9, 13], [0, 1, 2, 3, 4, 5, 6, 7, 8, 9, 10, 13, 14], [0, 1, 2, 3, 4, 5, 6, 7, 8, 9, 10, 11, 13, 14, 15], [0, 1, 2, 3, 4, 5, 6, 7, 8, 9, 10, 11, 12, 13, 14, 15, 16]] j ∧ ∀ p ∈ [13], (p = j ∨ p ∈ clsAt [[], [0], [0, 1], [], [3], [0, 1, 2, 3, 4], [], [0, 1, 2, 3, 4, 5, 6], [0, 1, 2, 3, 4, 5, 6, 7], [0, 1, 2, 3, 4, 5, 6, 7, 8], [0, 1, 2, 3, 4, 5, 6, 7, 8], [0, 1, 2, 3, 4, 5, 6, 7, 8], [0, 1, 2, 3, 4, 5, 6, 7, 8], [], [0, 1, 2, 3, 4, 5, 6, 7, 8, 9, 13], [0, 1, 2, 3, 4, 5, 6, 7, 8, 9, 10, 13, 14], [0, 1, 2, 3, 4, 5, 6, 7, 8, 9, 10, 11, 13, 14, 15], [0, 1, 2, 3, 4, 5, 6, 7, 8, 9, 10, 11, 12, 13, 14, 15, 16]] j) → ∀ q ∈ [13], (q = 14 ∨ q ∈ clsAt [[], [0], [0, 1], [], [3], [0, 1, 2, 3, 4], [], [0, 1, 2, 3, 4, 5, 6], [0, 1, 2, 3, 4, 5, 6, 7], [0, 1, 2, 3, 4, 5, 6, 7, 8], [0, 1, 2, 3, 4, 5, 6, 7, 8], [0, 1, 2, 3, 4, 5, 6, 7, 8], [0, 1, 2, 3, 4, 5, 6, 7, 8], [], [0, 1, 2, 3, 4, 5, 6, 7, 8, 9, 13], [0, 1, 2, 3, 4, 5, 6, 7, 8, 9, 10, 13, 14], [0, 1, 2, 3, 4, 5, 6, 7, 8, 9, 10, 11, 13, 14, 15], [0, 1, 2, 3, 4, 5, 6, 7, 8, 9, 10, 11, 12, 13, 14, 15, 16]] 14) → p ≠ q → val p ≠ val q) (fun _ ⟨g, h1, h2, _⟩ => ⟨g, h1, h2, fun h => by rw [fset_eq] at h; cases h⟩) (phiS_cons_st (C := fun j => j ≠ 14 ∧ 14 ∉ clsAt [[], [0], [0, 1], [], [3], [0, 1, 2, 3, 4], [], [0, 1, 2, 3, 4, 5, 6], [0, 1, 2, 3, 4, 5, 6, 7], [0, 1, 2, 3, 4, 5, 6, 7, 8], [0, 1, 2, 3, 4, 5, 6, 7, 8], [0, 1, 2, 3, 4, 5, 6, 7, 8], [0, 1, 2, 3, 4, 5, 6, 7, 8], [], [0, 1, 2, 3, 4, 5, 6, 7, 8, 9, 13], [0, 1, 2, 3, 4, 5, 6, 7, 8, 9, 10, 13, 14], [0, 1, 2, 3, 4, 5, 6, 7, 8, 9, 10, 11, 13, 14, 15], [0, 1, 2, 3, 4, 5, 6, 7, 8, 9, 10, 11, 12, 13, 14, 15, 16]] j ∧ ∀ p ∈ [13], (p = j ∨ p ∈ clsAt [[], [0], [0, 1], [], [3], [0, 1, 2, 3, 4], [], [0, 1, 2, 3, 4, 5, 6], [0, 1, 2, 3, 4, 5, 6, 7], [0, 1, 2, 3, 4, 5, 6, 7, 8], [0, 1, 2, 3, 4, 5, 6, 7, 8], [0, 1, 2, 3, 4, 5, 6, 7, 8], [0, 1, 2, 3, 4, 5, 6, 7, 8], [], [0, 1, 2, 3, 4, 5, 6, 7, 8, 9, 13], [0, 1, 2, 3, 4, 5, 6, 7, 8, 9, 10, 13, 14], [0, 1, 2, 3, 4, 5, 6, 7, 8, 9, 10, 11, 13, 14, 15], [0, 1, 2, 3, 4, 5, 6, 7, 8, 9, 10, 11, 12, 13, 14, 15, 16]] j) → ∀ q ∈ [13], (q = 14 ∨ q ∈ clsAt [[], [0], [0, 1], [], [3], [0, 1, 2, 3, 4], [], [0, 1, 2, 3, 4, 5, 6], [0, 1, 2, 3, 4, 5, 6, 7], [0, 1, 2, 3, 4, 5, 6, 7, 8], [0, 1, 2, 3, 4, 5, 6, 7, 8], [0, 1, 2, 3, 4, 5, 6, 7, 8], [0, 1, 2, 3, 4, 5, 6, 7, 8], [], [0, 1, 2, 3, 4, 5, 6, 7, 8, 9, 13], [0, 1, 2, 3, 4, 5, 6, 7, 8, 9, 10, 13, 14], [0, 1, 2, 3, 4, 5, 6, 7, 8, 9, 10, 11, 13, 14, 15], [0, 1, 2, 3, 4, 5, 6, 7, 8, 9, 10, 11, 12, 13, 14, 15, 16]] 14) → p ≠ q → val p ≠ val q) (fun hc => absurd rfl hc.1) (fun _ _ h => h)))) j ⟨hj, hn, hA⟩
                        · intro val fl wR33 hfl hb halc hd
                          have e0 : val 0 = .pointer (some ⟨g1, 0, none⟩) := hd 0 (by omega)
                          have e1 : val 1 = .agg #[.slice A rv.reaches.length c, .slice A' rv.shoals.length c'] := hd 1 (by omega)
                          have e3 : val 3 = .pointer (some ⟨g1, 2, none⟩) := hd 3 (by omega)
                          have e4 : val 4 = .slice (some ⟨bS, oS, none⟩) sides.length d := hd 4 (by omega)
                          have e6 : val 6 = .slice (some ⟨gm, 0, none⟩) l.length cho := hd 6 (by omega)
                          have e7 : val 7 = .tuple #[.agg #[.int .i64 (shUp rv sides ml ml.length).lo, .int .i64 (shUp rv sides ml ml.length).hi], .int .i64 (shUp rv sides ml ml.length).pass, .int .i64 (shUp rv sides ml ml.length).hour, .int .i64 0] := hd 7 (by omega)
                          have e8 : val 8 = .tuple #[.agg #[.int .i64 (shUp rv sides ml ml.length).lo, .int .i64 (shUp rv sides ml ml.length).hi], .int .i64 (shUp rv sides ml ml.length).pass, .int .i64 (shUp rv sides ml ml.length).hour, .int .i64 0] := hd 8 (by omega)
                          have e9 : val 9 = .agg #[.int .i64 (shUp rv sides ml ml.length).lo, .int .i64 (shUp rv sides ml ml.length).hi] := hd 9 (by omega)
                          have e10 : val 10 = .int .i64 (shUp rv sides ml ml.length).pass := hd 10 (by omega)
                          have e11 : val 11 = .int .i64 (shUp rv sides ml ml.length).hour := hd 11 (by omega)
                          have e12 : val 12 = .int .i64 0 := hd 12 (by omega)
                          obtain ⟨ga13_33, e13, qa13_33⟩ := hd 14 (by omega)
                          change val 13 = _ at e13
                          have e15 : val 15 = .int .i64 (shUp rv sides ml ml.length).pass := hd 15 (by omega)
                          have e16 : val 16 = .int .i64 (shUp rv sides ml ml.length).hour := hd 16 (by omega)
                          refine EL.ends (cs := [.pointer (some ⟨g1, 0, none⟩), .agg #[.slice A rv.reaches.length c, .slice A' rv.shoals.length c'], val 2, .pointer (some ⟨g1, 2, none⟩), .slice (some ⟨bS, oS, none⟩) sides.length d, val 5, .slice (some ⟨gm, 0, none⟩) l.length cho, .tuple #[.agg #[.int .i64 (shUp rv sides ml ml.length).lo, .int .i64 (shUp rv sides ml ml.length).hi], .int .i64 (shUp rv sides ml ml.length).pass, .int .i64 (shUp rv sides ml ml.length).hour, .int .i64 0], .tuple #[.agg #[.int .i64 (shUp rv sides ml ml.length).lo, .int .i64 (shUp rv sides ml ml.length).hi], .int .i64 (shUp rv sides ml ml.length).pass, .int .i64 (shUp rv sides ml ml.length).hour, .int .i64 0], .agg #[.int .i64 (shUp rv sides ml ml.length).lo, .int .i64 (shUp rv sides ml ml.length).hi], .int .i64 (shUp rv sides ml ml.length).pass, .int .i64 (shUp rv sides ml ml.length).hour, .int .i64 0, .pointer (some ⟨ga13_33, 0, none⟩), val 14, .int .i64 (shUp rv sides ml ml.length).pass, .int .i64 (shUp rv sides ml ml.length).hour]) ⟨e0, e1, rfl, e3, e4, rfl, e6, e7, e8, e9, e10, e11, e12, e13, rfl, e15, e16, trivial⟩ rfl ?_
                          replace q1 := q1.below hb q1.lt
                          replace qa15_3 := qa15_3.below hb qa15_3.lt
                          replace ho := own_below ho hb (Nat.le_refl _)
                          have bge19 := alc_ge halc (i := 13) rfl rfl e13
                          have n1_19 : g1 ≠ ga13_33 := Nat.ne_of_lt (Nat.lt_of_lt_of_le lt_1 bge19)
                          have n5_19 : ga15_3 ≠ ga13_33 := Nat.ne_of_lt (Nat.lt_of_lt_of_le lt_5 bge19)
                          have bhbw_19 := Nat.le_trans hbw.size bge19
                          replace hbw := Below.on hbw hb hbw.size
                          refine EL.val (x_assign rfl) rfl ?_
                          refine EL.nil ?_
                          refine EX.seq ?_
                          refine EC.seq ?_
                          refine EC.region ?_
                          refine EL.val (x_move rfl) rfl ?_
                          refine EL.val (x_eql rfl rfl (by first | assumption | exact decide_eq_true (by omega))) rfl ?_
                          refine EL.val (x_move rfl) rfl ?_
                          refine EL.valg rfl rfl (fa_23_0 rfl) rfl ?_
                          refine EL.valg rfl rfl (ld_3 rfl (qa13_33.at (j := 0) rfl)) rfl ?_
                          refine EL.valg rfl rfl (fa_23_0 rfl) rfl ?_
                          refine EL.valg rfl rfl (ld_3 rfl (qa15_3.at (j := 0) rfl)) rfl ?_
                          refine EL.valg rfl rfl (x_leq rfl rfl (by first | assumption | exact decide_eq_true (by omega))) rfl ?_
                          refine EL.val (x_pick_t rfl rfl) rfl ?_
                          refine EL.val (x_move rfl) rfl ?_
                          refine EL.valg rfl rfl (fa_23_1 rfl) rfl ?_
                          refine EL.valg rfl rfl (ld_3 rfl (qa13_33.at (j := 1) rfl)) rfl ?_
                          refine EL.valg rfl rfl (fa_23_1 rfl) rfl ?_
                          refine EL.valg rfl rfl (ld_3 rfl (qa15_3.at (j := 1) rfl)) rfl ?_
                          refine EL.valg rfl rfl (x_geq rfl rfl (by first | assumption | exact decide_eq_true (by omega))) rfl ?_
                          refine EL.val (x_pick_t rfl rfl) rfl ?_
                          refine EL.val (x_move rfl) rfl ?_
                          refine EL.callg rfl rfl cl_16 rfl (known_any _) ?_
                          rintro e w20 ⟨rfl, hc20⟩
                          refine ⟨_, rfl, ?_⟩
                          replace q1 := q1.below hc20 q1.lt
                          replace qa15_3 := qa15_3.below hc20 qa15_3.lt
                          replace qa13_33 := qa13_33.below hc20 qa13_33.lt
                          replace ho := own_below ho hc20 (Nat.le_refl _)
                          replace hbw := Below.on hbw hc20 hbw.size
                          clear hc20
                          refine EL.val (x_pick_t rfl rfl) rfl ?_
                          refine EL.val (x_assign rfl) rfl ?_
                          refine EL.nil ?_
                          refine EX.seq ?_
                          refine EC.ret ?_
                          exact EX.done (res1 rfl rfl) ⟨rfl, hbw⟩
                ·
                  refine EL.val (x_gtr rfl rfl (by first | assumption | exact decide_eq_false (by omega))) rfl ?_
                  refine EL.nil ?_
                  refine EX.seq ?_
                  refine EC.no rfl ?_
                  refine EC.skip ?_
                  refine EX.seq ?_
                  refine EC.seq ?_
                  refine EC.region ?_
                  have lo_1 := q1.lt
                  have lo_5 := qa15_3.lt
                  have sz_hbw := hbw.size
                  refine EL.newS bs_99_0 rfl ?_
                  intro g21 w21 q21 hb21 hg21 hl21
                  have n1_21 : g1 ≠ g21 := Nat.ne_of_lt (Nat.lt_of_lt_of_le q1.lt hg21)
                  have n5_21 : ga15_3 ≠ g21 := Nat.ne_of_lt (Nat.lt_of_lt_of_le qa15_3.lt hg21)
                  have bhbw_21 := Nat.le_trans hbw.size hg21
                  replace q1 := q1.below hb21 q1.lt
                  replace qa15_3 := qa15_3.below hb21 qa15_3.lt
                  replace hbw := Below.on hbw hb21 hbw.size
                  clear hb21 hl21
                  have oin := own_empty (base := wr.heap.size) 3 q21 hg21
                  refine EL.val (x_move rfl) rfl ?_
                  refine EL.push pass_elem2 rfl rfl oin (hwy.below (hbw.mono hB)) (passesC_one _) (by omega) rfl (Nat.le_trans hg21 (Nat.le_of_lt q21.lt)) rfl ?_
                  intro vin w22 ho hgr22 hb22 _
                  replace q1 := q1.below hb22 lo_1
                  replace qa15_3 := qa15_3.below hb22 lo_5
                  replace hbw := hbw.trans (hb22.mono sz_hbw)
                  rw [Nat.zero_add, List.nil_append] at ho
                  obtain ⟨Aho, cho, ei, _⟩ := (Rd.of_own ho).shape
                  subst ei
                  clear oin
                  refine EL.val (x_assign rfl) rfl ?_
                  refine EL.nil ?_
                  refine EX.seq ?_
                  refine EC.seq ?_
                  refine EC.seq ?_
                  refine EC.region ?_
                  refine EL.val (x_assign rfl) rfl ?_
                  refine EL.nil ?_
                  refine EX.seq ?_
                  refine EC.block ?_
                  obtain ⟨gm, rfl⟩ := own_some ho (by omega)
                  have hwb : w.heap.size ≤ wr.heap.size := sz_hbw
                  refine EC.loopD [27, 301, 302, 303, 304, 305, 306, 307, 308, 309, 310, 311, 312, 313, 314, 315, 316, 317, 318, 319, 320, 321, 322, 323, 324, 325, 326, 327, 328, 329, 330, 331, 332, 333, 334, 335, 336, 337, 338, 339, 340, 341, 342, 343, 344] (fun x : Nat => [(27, .int .i64 (x : Nat))]) (fun x W => x ≤ l.length ∧ W.ownsRow wr.heap.size 101 3 (.slice (some ⟨gm, 0, none⟩) l.length cho) l.length (passesC (mkWide (cut : Nat) ((sides.getD 0 []).length : Nat) l x)) ∧ Blk W g1 54 #[.slice A rv.reaches.length c, .slice A' rv.shoals.length c', .slice (some ⟨bS, oS, none⟩) sides.length d] ∧ Blk W ga15_3 23 #[.int .i64 (shUp rv sides l l.length).lo, .int .i64 (shUp rv sides l l.length).hi] ∧ Below w.heap.size w W) (fun x => l.length - x) 0 ⟨Nat.zero_le _, ho, q1, qa15_3, hbw⟩ ⟨rfl, trivial⟩ ?_
                  clear ho q1 qa15_3 hbw
                  rintro i wz ⟨hi, ho, q1, qa15_3, hbw⟩
                  by_cases hlt : i < l.length
                  ·
                    obtain ⟨hip, hih⟩ := hway.ok i hlt
                    have hih_ := bdOk_iff.1 hih
                    have hat := mkWide_at (cut : Nat) ((sides.getD 0 []).length : Nat) l (i := i) (j := i) (by omega)
                    rw [if_neg (by omega)] at hat
                    have hml := mkWide_len (cut : Nat) ((sides.getD 0 []).length : Nat) l i
                    obtain ⟨y, ey⟩ : ∃ y, y = l.getD i pass0 := ⟨_, rfl⟩
                    rw [← ey] at hip hih hih_ hat
                    obtain ⟨ml, eml⟩ : ∃ y, y = (mkWide (cut : Nat) ((sides.getD 0 []).length : Nat) l i) := ⟨_, rfl⟩
                    rw [← eml] at ho hat hml
                    obtain ⟨b1, o1, e1_, _, hrc⟩ := passes_cells ml i (by omega) _ _ _ _ _ (Rd.of_own ho)
                    injection e1_ with e1_
                    injection e1_ with e1_ e2_
                    subst e1_
                    subst e2_
                    rw [hat] at hrc
                    have h5 : ((cut : Nat) : Int).tmod 5 = ((cut % 5 : Nat) : Int) := (Int.ofNat_tmod cut 5).symm
                    have h4 : ((cut : Nat) : Int).tmod 4 = ((cut % 4 : Nat) : Int) := (Int.ofNat_tmod cut 4).symm
                    have h5b : cut % 5 < 5 := Nat.mod_lt _ (by decide)
                    have h4b : cut % 4 < 4 := Nat.mod_lt _ (by decide)
                    refine EC.seq ?_
                    refine EC.seq ?_
                    refine EC.region ?_
                    refine EL.val (x_move rfl) rfl ?_
                    refine EL.val (x_move rfl) rfl ?_
                    refine EL.val (ln_99 rfl) rfl ?_
                    refine EL.val (x_lss rfl rfl (by first | assumption | exact decide_eq_true (by omega))) rfl ?_
                    refine EL.nil ?_
                    refine EX.seq ?_
                    refine EC.yes rfl ?_
                    refine EC.skip ?_
                    refine EX.seq ?_
                    refine EC.seq ?_
                    refine EC.block ?_
                    refine EC.seq ?_
                    refine EC.region ?_
                    refine EL.val (x_move rfl) rfl ?_
                    refine EL.val (x_move rfl) rfl ?_
                    refine EL.val (x_move rfl) rfl ?_
                    refine EL.val (x_move rfl) rfl ?_
                    refine EL.val (ix_99 (k := i) rfl rfl hlt) rfl ?_
                    refine EL.val (fa_101_1 rfl) rfl ?_
                    refine EL.val (fa_23_0 rfl) rfl ?_
                    refine EL.val (ld_3 rfl hrc.c1) rfl ?_
                    refine EL.val (x_move rfl) rfl ?_
                    refine EL.val (cv_5_3 rfl (IntWalk.i64_in _ ⟨by omega, by omega⟩)) rfl ?_
                    refine EL.val (x_rem rfl rfl (by decide) h5) rfl ?_
                    refine EL.val (x_sub rfl rfl (by first | assumption | exact IntWalk.i64_in _ ⟨by omega, by omega⟩)) rfl ?_
                    refine EL.val (mm_max rfl rfl rfl) rfl ?_
                    refine EL.val (ix_99 (k := i) rfl rfl hlt) rfl ?_
                    refine EL.val (fa_101_1 rfl) rfl ?_
                    refine EL.val (fa_23_0 rfl) rfl ?_
                    have ne23_1 := row_ne ho q1 rfl
                    have ne23_5 := row_ne ho qa15_3 rfl
                    refine EL.storeRow (l' := [.int .i64 (max 0 (y.hours.lo - ((cut % 5 : Nat) : Int)))]) rfl rfl ho sz_3 rfl rfl (by rw [passesC_len, hml]; omega) rfl ?_
                    intro w23 ho2 hg23
                    have hbm := (ho.lt gm rfl).1
                    replace q1 := q1.grown hg23 (fun h => ne23_1 (Option.some.inj h))
                    replace qa15_3 := qa15_3.grown hg23 (fun h => ne23_5 (Option.some.inj h))
                    replace hbw := below_store hbw hg23 (Nat.le_trans hwb hbm)
                    rw [Nat.zero_add, pass_set1 _ (by omega), hat] at ho2
                    obtain ⟨ml2, eml2⟩ : ∃ z, z = ml.set i ⟨y.place, ⟨(max 0 (y.hours.lo - ((cut % 5 : Nat) : Int))), y.hours.hi⟩⟩ := ⟨_, rfl⟩
                    rw [← eml2] at ho2
                    have ho := ho2
                    clear ho2
                    have hml2 : ml2.length = l.length := by rw [eml2, List.length_set]; exact hml
                    have hat2 : ml2.getD i pass0 = ⟨y.place, ⟨(max 0 (y.hours.lo - ((cut % 5 : Nat) : Int))), y.hours.hi⟩⟩ := by rw [eml2, getD_set (by omega), if_pos rfl]
                    obtain ⟨b1, o1, e1_, _, hrc2⟩ := passes_cells ml2 i (by omega) _ _ _ _ _ (Rd.of_own ho)
                    injection e1_ with e1_
                    injection e1_ with e1_ e2_
                    subst e1_
                    subst e2_
                    rw [hat2] at hrc2
                    refine EL.nil ?_
                    refine EX.seq ?_
                    have lt_1 := q1.lt
                    have lt_5 := qa15_3.lt
                    refine EC.regionP [[], [], [], [2], [2, 3], [2, 3, 4], [2, 3, 4, 5], [2, 3, 4, 5, 6], [], [], [8, 9], [8, 9, 10], [8, 9, 10, 11], [8, 9, 10, 11, 12], [], [14], [14, 15], [8, 9, 10, 11, 12, 13, 14, 15, 16], [2, 3, 4, 5, 6, 7, 8, 9, 10, 11, 12, 13, 14, 15, 16, 17], [0, 1, 2, 3, 4, 5, 6, 7, 8, 9, 10, 11, 12, 13, 14, 15, 16, 17, 18], [0, 1, 2, 3, 4, 5, 6, 7, 8, 9, 10, 11, 12, 13, 14, 15, 16, 17, 18, 19], [0, 1, 2, 3, 4, 5, 6, 7, 8, 9, 10, 11, 12, 13, 14, 15, 16, 17, 18, 19, 20], [0, 1, 2, 3, 4, 5, 6, 7, 8, 9, 10, 11, 12, 13, 14, 15, 16, 17, 18, 19, 20, 21]] 19 [] (phi (fun i_ r => match i_ with | 0 => r 0 = .slice (some ⟨gm, 0, none⟩) l.length cho | 1 => r 1 = .int .i64 (i : Nat) | 2 => r 2 = .pointer (some ⟨g1, 2, none⟩) | 3 => r 3 = .slice (some ⟨bS, oS, none⟩) sides.length d | 4 => r 4 = .pointer (some ⟨bS, oS + 0, none⟩) | 5 => r 5 = .slice A0 (sides.getD 0 []).length ca0 | 6 => r 6 = .int .i64 ((sides.getD 0 []).length : Nat) | 7 => r 7 = .int .i64 ((((sides.getD 0 []).length : Nat) : Int) - 1) | 8 => r 8 = .slice (some ⟨gm, 0, none⟩) l.length cho | 9 => r 9 = .int .i64 (i : Nat) | 10 => r 10 = .pointer (some ⟨gm, 0 + i * 3, none⟩) | 11 => r 11 = .pointer (some ⟨gm, 0 + i * 3 + 1, none⟩) | 12 => r 12 = .pointer (some ⟨gm, 0 + i * 3 + 1 + 1, none⟩) | 13 => r 13 = .int .i64 y.hours.hi | 14 => r 14 = .int .u8 (cut : Nat) | 15 => r 15 = .int .i64 (cut : Nat) | 16 => r 16 = .int .i64 ((cut % 4 : Nat) : Int) | 17 => r 17 = .int .i64 (y.hours.hi + ((cut % 4 : Nat) : Int)) | 18 => r 18 = .int .i64 (min ((((sides.getD 0 []).length : Nat) : Int) - 1) (y.hours.hi + ((cut % 4 : Nat) : Int))) | _ => True) []) (by kernel_rfl) rfl rfl (phi_nil) (fun i_ hi_ => ?_) ?_
                    · match i_, hi_ with
                      | 0, _ =>
                        intro val w1 a hb ha hd
                        have ha := ha.sub (Sub.ins (d := 26) (Sub.nil _) rfl)
                        exact hs_val ha rfl rfl (x_move rfl) rfl rfl
                      | 1, _ =>
                        intro val w1 a hb ha hd
                        have ha := ha.sub (Sub.ins (d := 27) (Sub.nil _) rfl)
                        exact hs_val ha rfl rfl (x_move rfl) rfl rfl
                      | 2, _ =>
                        intro val w1 a hb ha hd
                        have ha := ha.sub (Sub.ins (d := 3) (Sub.nil _) rfl)
                        exact hs_val ha rfl rfl (fa_54_1 rfl) rfl rfl
                      | 3, _ =>
                        intro val w1 a hb ha hd
                        have e2 : val 2 = .pointer (some ⟨g1, 2, none⟩) := hd 2 (memB_mem.1 rfl)
                        have ha := ha.sub (Sub.ins (d := 325) (Sub.nil _) (dep_get rfl e2))
                        exact hs_val ha rfl rfl (ld_52 rfl ((q1.below hb q1.lt).at (j := 2) rfl)) rfl rfl
                      | 4, _ =>
                        intro val w1 a hb ha hd
                        have e3 : val 3 = .slice (some ⟨bS, oS, none⟩) sides.length d := hd 3 (memB_mem.1 rfl)
                        have ha := ha.sub (Sub.ins (d := 326) (Sub.nil _) (dep_get rfl e3))
                        exact hs_val ha rfl rfl (ix_52 (k := 0) rfl rfl (by omega)) rfl rfl
                      | 5, _ =>
                        intro val w1 a hb ha hd
                        have e4 : val 4 = .pointer (some ⟨bS, oS + 0, none⟩) := hd 4 (memB_mem.1 rfl)
                        have ha := ha.sub (Sub.ins (d := 327) (Sub.nil _) (dep_get rfl e4))
                        exact hs_val ha rfl rfl (ld_28 rfl (below_load (Below.on hbw hb hbw.size) c0)) rfl rfl
                      | 6, _ =>
                        intro val w1 a hb ha hd
                        have e5 : val 5 = .slice A0 (sides.getD 0 []).length ca0 := hd 5 (memB_mem.1 rfl)
                        have ha := ha.sub (Sub.ins (d := 328) (Sub.nil _) (dep_get rfl e5))
                        exact hs_val ha rfl rfl (ln_28 rfl) rfl rfl
                      | 7, _ =>
                        intro val w1 a hb ha hd
                        have e6 : val 6 = .int .i64 ((sides.getD 0 []).length : Nat) := hd 6 (memB_mem.1 rfl)
                        have ha := ha.sub (Sub.ins (d := 329) (Sub.nil _) (dep_get rfl e6))
                        exact hs_val ha rfl rfl (x_sub rfl rfl (by first | assumption | exact IntWalk.i64_in _ ⟨by omega, by omega⟩)) rfl rfl
                      | 8, _ =>
                        intro val w1 a hb ha hd
                        have ha := ha.sub (Sub.ins (d := 26) (Sub.nil _) rfl)
                        exact hs_val ha rfl rfl (x_move rfl) rfl rfl
                      | 9, _ =>
                        intro val w1 a hb ha hd
                        have ha := ha.sub (Sub.ins (d := 27) (Sub.nil _) rfl)
                        exact hs_val ha rfl rfl (x_move rfl) rfl rfl
                      | 10, _ =>
                        intro val w1 a hb ha hd
                        have e8 : val 8 = .slice (some ⟨gm, 0, none⟩) l.length cho := hd 8 (memB_mem.1 rfl)
                        have e9 : val 9 = .int .i64 (i : Nat) := hd 9 (memB_mem.1 rfl)
                        have ha := ha.sub (Sub.ins (d := 332) (Sub.ins (d := 331) (Sub.nil _) (dep_get rfl e8)) (dep_get rfl e9))
                        exact hs_val ha rfl rfl (ix_99 (k := i) rfl rfl hlt) rfl rfl
                      | 11, _ =>
                        intro val w1 a hb ha hd
                        have e10 : val 10 = .pointer (some ⟨gm, 0 + i * 3, none⟩) := hd 10 (memB_mem.1 rfl)
                        have ha := ha.sub (Sub.ins (d := 333) (Sub.nil _) (dep_get rfl e10))
                        exact hs_val ha rfl rfl (fa_101_1 rfl) rfl rfl
                      | 12, _ =>
                        intro val w1 a hb ha hd
                        have e11 : val 11 = .pointer (some ⟨gm, 0 + i * 3 + 1, none⟩) := hd 11 (memB_mem.1 rfl)
                        have ha := ha.sub (Sub.ins (d := 334) (Sub.nil _) (dep_get rfl e11))
                        exact hs_val ha rfl rfl (fa_23_1 rfl) rfl rfl
                      | 13, _ =>
                        intro val w1 a hb ha hd
                        have e12 : val 12 = .pointer (some ⟨gm, 0 + i * 3 + 1 + 1, none⟩) := hd 12 (memB_mem.1 rfl)
                        have ha := ha.sub (Sub.ins (d := 335) (Sub.nil _) (dep_get rfl e12))
                        exact hs_val ha rfl rfl (ld_3 rfl (below_load hb hrc2.c2)) rfl rfl
                      | 14, _ =>
                        intro val w1 a hb ha hd
                        have ha := ha.sub (Sub.ins (d := 2) (Sub.nil _) rfl)
                        exact hs_val ha rfl rfl (x_move rfl) rfl rfl
                      | 15, _ =>
                        intro val w1 a hb ha hd
                        have e14 : val 14 = .int .u8 (cut : Nat) := hd 14 (memB_mem.1 rfl)
                        have ha := ha.sub (Sub.ins (d := 337) (Sub.nil _) (dep_get rfl e14))
                        exact hs_val ha rfl rfl (cv_5_3 rfl (IntWalk.i64_in _ ⟨by omega, by omega⟩)) rfl rfl
                      | 16, _ =>
                        intro val w1 a hb ha hd
                        have e15 : val 15 = .int .i64 (cut : Nat) := hd 15 (memB_mem.1 rfl)
                        have ha := ha.sub (Sub.ins (d := 338) (Sub.nil _) (dep_get rfl e15))
                        exact hs_val ha rfl rfl (x_rem rfl rfl (by decide) h4) rfl rfl
                      | 17, _ =>
                        intro val w1 a hb ha hd
                        have e13 : val 13 = .int .i64 y.hours.hi := hd 13 (memB_mem.1 rfl)
                        have e16 : val 16 = .int .i64 ((cut % 4 : Nat) : Int) := hd 16 (memB_mem.1 rfl)
                        have ha := ha.sub (Sub.ins (d := 339) (Sub.ins (d := 336) (Sub.nil _) (dep_get rfl e13)) (dep_get rfl e16))
                        exact hs_val ha rfl rfl (x_add rfl rfl (by first | assumption | exact IntWalk.i64_in _ ⟨by omega, by omega⟩)) rfl rfl
                      | 18, _ =>
                        intro val w1 a hb ha hd
                        have e7 : val 7 = .int .i64 ((((sides.getD 0 []).length : Nat) : Int) - 1) := hd 7 (memB_mem.1 rfl)
                        have e17 : val 17 = .int .i64 (y.hours.hi + ((cut % 4 : Nat) : Int)) := hd 17 (memB_mem.1 rfl)
                        have ha := ha.sub (Sub.ins (d := 340) (Sub.ins (d := 330) (Sub.nil _) (dep_get rfl e7)) (dep_get rfl e17))
                        exact hs_val ha rfl rfl (mm_min rfl rfl rfl) rfl rfl
                      | k + 19, h => exact absurd h (by omega)
                    · intro val wR32 hb halc hd
                      have e0 : val 0 = .slice (some ⟨gm, 0, none⟩) l.length cho := hd 0 (by omega)
                      have e1 : val 1 = .int .i64 (i : Nat) := hd 1 (by omega)
                      have e2 : val 2 = .pointer (some ⟨g1, 2, none⟩) := hd 2 (by omega)
                      have e3 : val 3 = .slice (some ⟨bS, oS, none⟩) sides.length d := hd 3 (by omega)
                      have e4 : val 4 = .pointer (some ⟨bS, oS + 0, none⟩) := hd 4 (by omega)
                      have e5 : val 5 = .slice A0 (sides.getD 0 []).length ca0 := hd 5 (by omega)
                      have e6 : val 6 = .int .i64 ((sides.getD 0 []).length : Nat) := hd 6 (by omega)
                      have e7 : val 7 = .int .i64 ((((sides.getD 0 []).length : Nat) : Int) - 1) := hd 7 (by omega)
                      have e8 : val 8 = .slice (some ⟨gm, 0, none⟩) l.length cho := hd 8 (by omega)
                      have e9 : val 9 = .int .i64 (i : Nat) := hd 9 (by omega)
                      have e10 : val 10 = .pointer (some ⟨gm, 0 + i * 3, none⟩) := hd 10 (by omega)
                      have e11 : val 11 = .pointer (some ⟨gm, 0 + i * 3 + 1, none⟩) := hd 11 (by omega)
                      have e12 : val 12 = .pointer (some ⟨gm, 0 + i * 3 + 1 + 1, none⟩) := hd 12 (by omega)
                      have e13 : val 13 = .int .i64 y.hours.hi := hd 13 (by omega)
                      have e14 : val 14 = .int .u8 (cut : Nat) := hd 14 (by omega)
                      have e15 : val 15 = .int .i64 (cut : Nat) := hd 15 (by omega)
                      have e16 : val 16 = .int .i64 ((cut % 4 : Nat) : Int) := hd 16 (by omega)
                      have e17 : val 17 = .int .i64 (y.hours.hi + ((cut % 4 : Nat) : Int)) := hd 17 (by omega)
                      have e18 : val 18 = .int .i64 (min ((((sides.getD 0 []).length : Nat) : Int) - 1) (y.hours.hi + ((cut % 4 : Nat) : Int))) := hd 18 (by omega)
                      refine EL.ends (cs := [.slice (some ⟨gm, 0, none⟩) l.length cho, .int .i64 (i : Nat), .pointer (some ⟨g1, 2, none⟩), .slice (some ⟨bS, oS, none⟩) sides.length d, .pointer (some ⟨bS, oS + 0, none⟩), .slice A0 (sides.getD 0 []).length ca0, .int .i64 ((sides.getD 0 []).length : Nat), .int .i64 ((((sides.getD 0 []).length : Nat) : Int) - 1), .slice (some ⟨gm, 0, none⟩) l.length cho, .int .i64 (i : Nat), .pointer (some ⟨gm, 0 + i * 3, none⟩), .pointer (some ⟨gm, 0 + i * 3 + 1, none⟩), .pointer (some ⟨gm, 0 + i * 3 + 1 + 1, none⟩), .int .i64 y.hours.hi, .int .u8 (cut : Nat), .int .i64 (cut : Nat), .int .i64 ((cut % 4 : Nat) : Int), .int .i64 (y.hours.hi + ((cut % 4 : Nat) : Int)), .int .i64 (min ((((sides.getD 0 []).length : Nat) : Int) - 1) (y.hours.hi + ((cut % 4 : Nat) : Int)))]) ⟨e0, e1, e2, e3, e4, e5, e6, e7, e8, e9, e10, e11, e12, e13, e14, e15, e16, e17, e18, trivial⟩ rfl ?_
                      replace q1 := q1.below hb q1.lt
                      replace qa15_3 := qa15_3.below hb qa15_3.lt
                      replace ho := own_below ho hb (Nat.le_refl _)
                      replace hbw := Below.on hbw hb hbw.size
                      clear hb
                      refine EL.val (ix_99 (k := i) rfl rfl hlt) rfl ?_
                      refine EL.val (fa_101_1 rfl) rfl ?_
                      refine EL.val (fa_23_1 rfl) rfl ?_
                      have ne24_1 := row_ne ho q1 rfl
                      have ne24_5 := row_ne ho qa15_3 rfl
                      refine EL.storeRow (l' := [.int .i64 (min ((((sides.getD 0 []).length : Nat) : Int) - 1) (y.hours.hi + ((cut % 4 : Nat) : Int)))]) rfl rfl ho sz_3 rfl rfl (by rw [passesC_len, hml2]; omega) rfl ?_
                      intro w24 ho2 hg24
                      have hbm := (ho.lt gm rfl).1
                      replace q1 := q1.grown hg24 (fun h => ne24_1 (Option.some.inj h))
                      replace qa15_3 := qa15_3.grown hg24 (fun h => ne24_5 (Option.some.inj h))
                      replace hbw := below_store hbw hg24 (Nat.le_trans hwb hbm)
                      rw [Nat.zero_add, show i * 3 + 1 + 1 = i * 3 + 2 by omega, pass_set2 _ (by omega), hat2, eml2, List.set_set] at ho2
                      have hfin : ml.set i ⟨y.place, ⟨(max 0 (y.hours.lo - ((cut % 5 : Nat) : Int))), (min ((((sides.getD 0 []).length : Nat) : Int) - 1) (y.hours.hi + ((cut % 4 : Nat) : Int)))⟩⟩ = (mkWide (cut : Nat) ((sides.getD 0 []).length : Nat) l (i + 1)) := by rw [mkWide, ← eml, ← ey, wideP, h5, h4]
                      rw [hfin] at ho2
                      have ho := ho2
                      clear ho2
                      refine EL.nil ?_
                      refine EX.blk ?_
                      refine EX.seq ?_
                      refine EC.region ?_
                      refine EL.val (x_move rfl) rfl ?_
                      refine EL.val (x_add rfl rfl (by first | assumption | exact IntWalk.i64_in _ ⟨by omega, by omega⟩)) rfl ?_
                      refine EL.val (x_assign rfl) rfl ?_
                      refine EL.nil ?_
                      refine EX.roundD (i + 1) ⟨rfl, trivial⟩ (by repeat first | exact Sub.refl _ | refine sub_past rfl ?_ | refine sub_del rfl ?_ | refine sub_insL_nil ?_) ⟨hlt, ho, q1, qa15_3, hbw⟩ (by omega)
                  ·
                    obtain rfl : i = l.length := by omega
                    have hml := mkWide_len (cut : Nat) ((sides.getD 0 []).length : Nat) l l.length
                    have hat := fun j (hj : j < l.length) => mkWide_at (cut : Nat) ((sides.getD 0 []).length : Nat) l (i := l.length) (j := j) (Nat.le_refl _)
                    have h5 : ((cut : Nat) : Int).tmod 5 = ((cut % 5 : Nat) : Int) := (Int.ofNat_tmod cut 5).symm
                    have h4 : ((cut : Nat) : Int).tmod 4 = ((cut % 4 : Nat) : Int) := (Int.ofNat_tmod cut 4).symm
                    obtain ⟨ml, eml⟩ : ∃ y, y = (mkWide (cut : Nat) ((sides.getD 0 []).length : Nat) l l.length) := ⟨_, rfl⟩
                    rw [← eml] at ho hml
                    have hatj : ∀ j, j < l.length → ml.getD j pass0 = wideP (cut : Nat) ((sides.getD 0 []).length : Nat) (l.getD j pass0) := fun j hj => by have := hat j hj; rw [if_pos hj, ← eml] at this; exact this
                    have hwm : WayOk rv sides ml := by
                      refine ⟨by rw [hml]; exact hway.some, fun j hj => ?_⟩
                      obtain ⟨h1, h2⟩ := hway.ok j (by omega)
                      rw [hatj j (by omega)]
                      have h2 := bdOk_iff.1 h2
                      refine ⟨h1, bdOk_iff.2 ?_⟩
                      simp only [wideP, h5, h4]
                      omega
                    have hwd := way_wide (rv := rv) (sides := sides) (l := l) (l' := ml) (n := l.length) (fun j hj => by rw [hatj j hj]; rfl) (fun j hj => by
                      obtain ⟨h1, h2⟩ := hway.ok j hj
                      have h2 := bdOk_iff.1 h2
                      rw [hatj j hj]
                      simp only [wideP, h5, h4]
                      omega)
                    rw [← hml] at hwd
                    replace ho : wz.ownsRow wr.heap.size 101 3 (.slice (some ⟨gm, 0, none⟩) l.length cho) ml.length (passesC ml) := by rw [hml]; exact ho
                    rw [show (shUp rv sides l ml.length) = (shUp rv sides l l.length) by rw [hml]] at hwd
                    refine EC.seq ?_
                    refine EC.seq ?_
                    refine EC.region ?_
                    refine EL.val (x_move rfl) rfl ?_
                    refine EL.val (x_move rfl) rfl ?_
                    refine EL.val (ln_99 rfl) rfl ?_
                    refine EL.val (x_lss rfl rfl (by first | assumption | exact decide_eq_false (by omega))) rfl ?_
                    refine EL.nil ?_
                    refine EX.seq ?_
                    refine EC.no rfl ?_
                    refine EC.exit ?_
                    refine EX.seq_exit ?_
                    refine EX.seq_exit ?_
                    refine EX.blk_here ?_
                    refine EX.seq ?_
                    refine EC.seq ?_
                    have lt_1 := q1.lt
                    have lt_5 := qa15_3.lt
                    refine EC.regionS [[], [0], [0, 1], [], [3], [0, 1, 2, 3, 4], [], [0, 1, 2, 3, 4, 5, 6], [0, 1, 2, 3, 4, 5, 6, 7], [0, 1, 2, 3, 4, 5, 6, 7, 8], [0, 1, 2, 3, 4, 5, 6, 7, 8], [0, 1, 2, 3, 4, 5, 6, 7, 8], [0, 1, 2, 3, 4, 5, 6, 7, 8], [], [0, 1, 2, 3, 4, 5, 6, 7, 8, 9, 13], [0, 1, 2, 3, 4, 5, 6, 7, 8, 9, 10, 13, 14], [0, 1, 2, 3, 4, 5, 6, 7, 8, 9, 10, 11, 13, 14, 15], [0, 1, 2, 3, 4, 5, 6, 7, 8, 9, 10, 11, 12, 13, 14, 15, 16]] 17 [13] [14] (fun _ w_ => Below wz.heap.size wz w_) (phiS (fun i_ r => match i_ with | 0 => r 0 = .pointer (some ⟨g1, 0, none⟩) | 1 => r 1 = .agg #[.slice A rv.reaches.length c, .slice A' rv.shoals.length c'] | 3 => r 3 = .pointer (some ⟨g1, 2, none⟩) | 4 => r 4 = .slice (some ⟨bS, oS, none⟩) sides.length d | 6 => r 6 = .slice (some ⟨gm, 0, none⟩) l.length cho | 7 => r 7 = .tuple #[.agg #[.int .i64 (shUp rv sides ml ml.length).lo, .int .i64 (shUp rv sides ml ml.length).hi], .int .i64 (shUp rv sides ml ml.length).pass, .int .i64 (shUp rv sides ml ml.length).hour, .int .i64 0] | 8 => r 8 = .tuple #[.agg #[.int .i64 (shUp rv sides ml ml.length).lo, .int .i64 (shUp rv sides ml ml.length).hi], .int .i64 (shUp rv sides ml ml.length).pass, .int .i64 (shUp rv sides ml ml.length).hour, .int .i64 0] | 9 => r 9 = .agg #[.int .i64 (shUp rv sides ml ml.length).lo, .int .i64 (shUp rv sides ml ml.length).hi] | 10 => r 10 = .int .i64 (shUp rv sides ml ml.length).pass | 11 => r 11 = .int .i64 (shUp rv sides ml ml.length).hour | 12 => r 12 = .int .i64 0 | 15 => r 15 = .int .i64 (shUp rv sides ml ml.length).pass | 16 => r 16 = .int .i64 (shUp rv sides ml ml.length).hour | _ => True) [(2, fun fl r w_ => fl 14 = false → (∃ a b vs, r 2 = .agg #[a, b] ∧ RdRiver w_ w_.heap.size a b rv vs)), (5, fun fl r w_ => fl 14 = false → (∃ v ss, r 5 = v ∧ RdSides w_ w_.heap.size v sides ss)), (13, fun fl r w_ => ∃ g_, r 13 = .pointer (some ⟨g_, 0, none⟩) ∧ wz.heap.size ≤ g_ ∧ (fl 14 = false → Blk w_ g_ 23 #[.int .i64 0, .int .i64 0])), (14, fun _ r w_ => ∃ g_, r 13 = .pointer (some ⟨g_, 0, none⟩) ∧ Blk w_ g_ 23 #[.int .i64 (shUp rv sides ml ml.length).lo, .int .i64 (shUp rv sides ml ml.length).hi])]) (by kernel_rfl) rfl rfl (by intro i hi; simp at hi; first | (subst hi; exact ⟨by simp, by omega⟩) | (rcases hi with rfl | rfl | rfl <;> exact ⟨by simp, by omega⟩) | (rcases hi with rfl | rfl <;> exact ⟨by simp, by omega⟩)) (base_below wz) (phiS_cons (monoS_till mono_riv) (phiS_cons (monoS_till mono_sid) (phiS_cons monoS_alloc (phiS_cons monoS_store (phiS_nil))))) (fun i_ hi_ hs_ => ?_) (fun i_ hi_ => ?_) ?_
                    · match i_, hi_ with
                      | 0, _ =>
                        intro val fl w1 a hb ha hd hfl
                        have ha := ha.sub (Sub.ins (d := 3) (Sub.nil _) rfl)
                        exact ss_val ha rfl rfl (fa_54_0 rfl) rfl rfl
                      | 1, _ =>
                        intro val fl w1 a hb ha hd hfl
                        have e0 : val 0 = .pointer (some ⟨g1, 0, none⟩) := hd 0 (memB_mem.1 rfl)
                        have ha := ha.sub (Sub.ins (d := 346) (Sub.nil _) (dep_get rfl e0))
                        exact ss_val ha rfl rfl (ld_47 rfl ((q1.below hb q1.lt).at (j := 0) rfl) ((q1.below hb q1.lt).at (j := 1) rfl)) rfl rfl
                      | 2, _ =>
                        intro val fl w1 a hb ha hd hfl
                        have e1 : val 1 = .agg #[.slice A rv.reaches.length c, .slice A' rv.shoals.length c'] := hd 1 (memB_mem.1 rfl)
                        have ha := ha.sub (Sub.ins (d := 347) (Sub.nil _) (dep_get rfl e1))
                        refine ss_call ha rfl rfl (cl_24 rfl) (copied_any rv _ _ vs _ B (hr.below ((Below.on hbw hb hbw.size).mono hB)) (Nat.le_trans hB (Below.on hbw hb hbw.size).size) (by omega) (by omega) f3) rfl ?_
                        rintro e w' ⟨⟨v1, u1, vs1, rfl, hcp⟩, hb'⟩
                        exact ⟨_, rfl, hb', fun _ => ⟨_, _, _, rfl, hcp⟩⟩
                      | 3, _ =>
                        intro val fl w1 a hb ha hd hfl
                        have ha := ha.sub (Sub.ins (d := 3) (Sub.nil _) rfl)
                        exact ss_val ha rfl rfl (fa_54_1 rfl) rfl rfl
                      | 4, _ =>
                        intro val fl w1 a hb ha hd hfl
                        have e3 : val 3 = .pointer (some ⟨g1, 2, none⟩) := hd 3 (memB_mem.1 rfl)
                        have ha := ha.sub (Sub.ins (d := 349) (Sub.nil _) (dep_get rfl e3))
                        exact ss_val ha rfl rfl (ld_52 rfl ((q1.below hb q1.lt).at (j := 2) rfl)) rfl rfl
                      | 5, _ =>
                        intro val fl w1 a hb ha hd hfl
                        have e4 : val 4 = .slice (some ⟨bS, oS, none⟩) sides.length d := hd 4 (memB_mem.1 rfl)
                        have ha := ha.sub (Sub.ins (d := 350) (Sub.nil _) (dep_get rfl e4))
                        refine ss_call ha rfl rfl (cl_34 rfl) (forecast_any sides _ ss _ B (hs.below ((Below.on hbw hb hbw.size).mono hB)) (Nat.le_trans hB (Below.on hbw hb hbw.size).size) (by omega) f4) rfl ?_
                        rintro e w' ⟨⟨v1, ss1, rfl, hcp⟩, hb'⟩
                        exact ⟨_, rfl, hb', fun _ => ⟨_, _, rfl, hcp⟩⟩
                      | 6, _ =>
                        intro val fl w1 a hb ha hd hfl
                        have ha := ha.sub (Sub.ins (d := 26) (Sub.nil _) rfl)
                        exact ss_val ha rfl rfl (x_move rfl) rfl rfl
                      | 7, _ =>
                        intro val fl w1 a hb ha hd hfl
                        obtain ⟨a2_, b2_, vs2_, e2, q2_⟩ := hd 2 (memB_mem.1 rfl) (hfl 14 (by simp) (memB_mem.1 rfl))
                        obtain ⟨v5_, ss5_, e5, q5_⟩ := hd 5 (memB_mem.1 rfl) (hfl 14 (by simp) (memB_mem.1 rfl))
                        have e6 : val 6 = .slice (some ⟨gm, 0, none⟩) l.length cho := hd 6 (memB_mem.1 rfl)
                        have ha := ha.sub (Sub.ins (d := 352) (Sub.ins (d := 351) (Sub.ins (d := 348) (Sub.nil _) (dep_get rfl e2)) (dep_get rfl e5)) (dep_get rfl e6))
                        refine ss_call ha rfl rfl (cl_51 rfl rfl rfl) (shallow_good rv sides _ _ _ _ _ ml _ _ w1.heap.size q2_ q5_ (Nat.le_refl _) (Rd.of_own (own_below ho hb (Nat.le_refl _))) hfine hst hwm) rfl ?_
                        rintro e w' ⟨rfl, hb'⟩
                        exact ⟨_, rfl, hb', rfl⟩
                      | 8, _ =>
                        intro val fl w1 a hb ha hd hfl
                        have e7 : val 7 = .tuple #[.agg #[.int .i64 (shUp rv sides ml ml.length).lo, .int .i64 (shUp rv sides ml ml.length).hi], .int .i64 (shUp rv sides ml ml.length).pass, .int .i64 (shUp rv sides ml ml.length).hour, .int .i64 0] := hd 7 (memB_mem.1 rfl)
                        have ha := ha.sub (Sub.ins (d := 353) (Sub.nil _) (dep_get rfl e7))
                        exact ss_val ha rfl rfl (x_move rfl) rfl rfl
                      | 9, _ =>
                        intro val fl w1 a hb ha hd hfl
                        have e8 : val 8 = .tuple #[.agg #[.int .i64 (shUp rv sides ml ml.length).lo, .int .i64 (shUp rv sides ml ml.length).hi], .int .i64 (shUp rv sides ml ml.length).pass, .int .i64 (shUp rv sides ml ml.length).hour, .int .i64 0] := hd 8 (memB_mem.1 rfl)
                        have ha := ha.sub (Sub.ins (d := 345) (Sub.nil _) (dep_get rfl e8))
                        exact ss_val ha rfl rfl (x_extract rfl rfl) rfl rfl
                      | 10, _ =>
                        intro val fl w1 a hb ha hd hfl
                        have e8 : val 8 = .tuple #[.agg #[.int .i64 (shUp rv sides ml ml.length).lo, .int .i64 (shUp rv sides ml ml.length).hi], .int .i64 (shUp rv sides ml ml.length).pass, .int .i64 (shUp rv sides ml ml.length).hour, .int .i64 0] := hd 8 (memB_mem.1 rfl)
                        have ha := ha.sub (Sub.ins (d := 345) (Sub.nil _) (dep_get rfl e8))
                        exact ss_val ha rfl rfl (x_extract rfl rfl) rfl rfl
                      | 11, _ =>
                        intro val fl w1 a hb ha hd hfl
                        have e8 : val 8 = .tuple #[.agg #[.int .i64 (shUp rv sides ml ml.length).lo, .int .i64 (shUp rv sides ml ml.length).hi], .int .i64 (shUp rv sides ml ml.length).pass, .int .i64 (shUp rv sides ml ml.length).hour, .int .i64 0] := hd 8 (memB_mem.1 rfl)
                        have ha := ha.sub (Sub.ins (d := 345) (Sub.nil _) (dep_get rfl e8))
                        exact ss_val ha rfl rfl (x_extract rfl rfl) rfl rfl
                      | 12, _ =>
                        intro val fl w1 a hb ha hd hfl
                        have e8 : val 8 = .tuple #[.agg #[.int .i64 (shUp rv sides ml ml.length).lo, .int .i64 (shUp rv sides ml ml.length).hi], .int .i64 (shUp rv sides ml ml.length).pass, .int .i64 (shUp rv sides ml ml.length).hour, .int .i64 0] := hd 8 (memB_mem.1 rfl)
                        have ha := ha.sub (Sub.ins (d := 345) (Sub.nil _) (dep_get rfl e8))
                        exact ss_val ha rfl rfl (x_extract rfl rfl) rfl rfl
                      | 13, _ =>
                        intro val fl w1 a hb ha hd hfl
                        have ha := ha.sub (Sub.nil _)
                        exact ss_newP ha rfl rfl al_23 (fun g w' hq _ hge => ⟨g, rfl, Nat.le_trans hb.size hge, fun _ => hq⟩)
                      | 14, _ =>
                        exact absurd (by simp) hs_
                      | 15, _ =>
                        intro val fl w1 a hb ha hd hfl
                        have e10 : val 10 = .int .i64 (shUp rv sides ml ml.length).pass := hd 10 (memB_mem.1 rfl)
                        have ha := ha.sub (Sub.ins (d := 355) (Sub.nil _) (dep_get rfl e10))
                        exact ss_val ha rfl rfl (x_assign rfl) rfl rfl
                      | 16, _ =>
                        intro val fl w1 a hb ha hd hfl
                        have e11 : val 11 = .int .i64 (shUp rv sides ml ml.length).hour := hd 11 (memB_mem.1 rfl)
                        have ha := ha.sub (Sub.ins (d := 356) (Sub.nil _) (dep_get rfl e11))
                        exact ss_val ha rfl rfl (x_assign rfl) rfl rfl
                      | k + 17, h => exact absurd h (by omega)
                    · simp only [List.mem_singleton] at hi_; subst hi_
                      intro val fl w1 a hb hfi ha hd hfl
                      obtain ⟨g13_, e13, hg13_, q13_⟩ := hd 13 (memB_mem.1 rfl)
                      change val 13 = _ at e13
                      have e9 : val 9 = .agg #[.int .i64 (shUp rv sides ml ml.length).lo, .int .i64 (shUp rv sides ml ml.length).hi] := hd 9 (memB_mem.1 rfl)
                      have ha := ha.sub (Sub.ins (d := 354) (Sub.ins (d := 28) (Sub.nil _) (dep_get rfl e13)) (dep_get rfl e9))
                      refine ts_store ha rfl rfl rfl (q13_ hfi) sz_23 rfl rfl rfl rfl ?_
                      intro w' hq hgr
                      refine ⟨undef, rfl, hgr.size, below_store hb hgr hg13_, ⟨g13_, e13, hq⟩, fun j _ hj hn hA => ?_⟩
                      exact phiS_cons_st (C := fun j => j ≠ 14 ∧ 14 ∉ clsAt [[], [0], [0, 1], [], [3], [0, 1, 2, 3, 4], [], [0, 1, 2, 3, 4, 5, 6], [0, 1, 2, 3, 4, 5, 6, 7], [0, 1, 2, 3, 4, 5, 6, 7, 8], [0, 1, 2, 3, 4, 5, 6, 7, 8], [0, 1, 2, 3, 4, 5, 6, 7, 8], [0, 1, 2, 3, 4, 5, 6, 7, 8], [], [0, 1, 2, 3, 4, 5, 6, 7, 8, 9, 13], [0, 1, 2, 3, 4, 5, 6, 7, 8, 9, 10, 13, 14], [0, 1, 2, 3, 4, 5, 6, 7, 8, 9, 10, 11, 13, 14, 15], [0, 1, 2, 3, 4, 5, 6, 7, 8, 9, 10, 11, 12, 13, 14, 15, 16]] j ∧ ∀ p ∈ [13], (p = j ∨ p ∈ clsAt [[], [0], [0, 1], [], [3], [0, 1, 2, 3, 4], [], [0, 1, 2, 3, 4, 5, 6], [0, 1, 2, 3, 4, 5, 6, 7], [0, 1, 2, 3, 4, 5, 6, 7, 8], [0, 1, 2, 3, 4, 5, 6, 7, 8], [0, 1, 2, 3, 4, 5, 6, 7, 8], [0, 1, 2, 3, 4, 5, 6, 7, 8], [], [0, 1, 2, 3, 4, 5, 6, 7, 8, 9, 13], [0, 1, 2, 3, 4, 5, 6, 7, 8, 9, 10, 13, 14], [0, 1, 2, 3, 4, 5, 6, 7, 8, 9, 10, 11, 13, 14, 15], [0, 1, 2, 3, 4, 5, 6, 7, 8, 9, 10, 11, 12, 13, 14, 15, 16]] j) → ∀ q ∈ [13], (q = 14 ∨ q ∈ clsAt [[], [0], [0, 1], [], [3], [0, 1, 2, 3, 4], [], [0, 1, 2, 3, 4, 5, 6], [0, 1, 2, 3, 4, 5, 6, 7], [0, 1, 2, 3, 4, 5, 6, 7, 8], [0, 1, 2, 3, 4, 5, 6, 7, 8], [0, 1, 2, 3, 4, 5, 6, 7, 8], [0, 1, 2, 3, 4, 5, 6, 7, 8], [], [0, 1, 2, 3, 4, 5, 6, 7, 8, 9, 13], [0, 1, 2, 3, 4, 5, 6, 7, 8, 9, 10, 13, 14], [0, 1, 2, 3, 4, 5, 6, 7, 8, 9, 10, 11, 13, 14, 15], [0, 1, 2, 3, 4, 5, 6, 7, 8, 9, 10, 11, 12, 13, 14, 15, 16]] 14) → p ≠ q → val p ≠ val q) (fun _ _ h => by rw [fset_eq] at h; cases h) (phiS_cons_st (C := fun j => j ≠ 14 ∧ 14 ∉ clsAt [[], [0], [0, 1], [], [3], [0, 1, 2, 3, 4], [], [0, 1, 2, 3, 4, 5, 6], [0, 1, 2, 3, 4, 5, 6, 7], [0, 1, 2, 3, 4, 5, 6, 7, 8], [0, 1, 2, 3, 4, 5, 6, 7, 8], [0, 1, 2, 3, 4, 5, 6, 7, 8], [0, 1, 2, 3, 4, 5, 6, 7, 8], [], [0, 1, 2, 3, 4, 5, 6, 7, 8, 9, 13], [0, 1, 2, 3, 4, 5, 6, 7, 8, 9, 10, 13, 14], [0, 1, 2, 3, 4, 5, 6, 7, 8, 9, 10, 11, 13, 14, 15], [0, 1, 2, 3, 4, 5, 6, 7, 8, 9, 10, 11, 12, 13, 14, 15, 16]] j ∧ ∀ p ∈ [13], (p = j ∨ p ∈ clsAt [[], [0], [0, 1], [], [3], [0, 1, 2, 3, 4], [], [0, 1, 2, 3, 4, 5, 6], [0, 1, 2, 3, 4, 5, 6, 7], [0, 1, 2, 3, 4, 5, 6, 7, 8], [0, 1, 2, 3, 4, 5, 6, 7, 8], [0, 1, 2, 3, 4, 5, 6, 7, 8], [0, 1, 2, 3, 4, 5, 6, 7, 8], [], [0, 1, 2, 3, 4, 5, 6, 7, 8, 9, 13], [0, 1, 2, 3, 4, 5, 6, 7, 8, 9, 10, 13, 14], [0, 1, 2, 3, 4, 5, 6, 7, 8, 9, 10, 11, 13, 14, 15], [0, 1, 2, 3, 4, 5, 6, 7, 8, 9, 10, 11, 12, 13, 14, 15, 16]] j) → ∀ q ∈ [13], (q = 14 ∨ q ∈ clsAt [[], [0], [0, 1], [], [3], [0, 1, 2, 3, 4], [], [0, 1, 2, 3, 4, 5, 6], [0, 1, 2, 3, 4, 5, 6, 7], [0, 1, 2, 3, 4, 5, 6, 7, 8], [0, 1, 2, 3, 4, 5, 6, 7, 8], [0, 1, 2, 3, 4, 5, 6, 7, 8], [0, 1, 2, 3, 4, 5, 6, 7, 8], [], [0, 1, 2, 3, 4, 5, 6, 7, 8, 9, 13], [0, 1, 2, 3, 4, 5, 6, 7, 8, 9, 10, 13, 14], [0, 1, 2, 3, 4, 5, 6, 7, 8, 9, 10, 11, 13, 14, 15], [0, 1, 2, 3, 4, 5, 6, 7, 8, 9, 10, 11, 12, 13, 14, 15, 16]] 14) → p ≠ q → val p ≠ val q) (fun _ _ h => by rw [fset_eq] at h; cases h) (phiS_cons_st (C := fun j => j ≠ 14 ∧ 14 ∉ clsAt [[], [0], [0, 1], [], [3], [0, 1, 2, 3, 4], [], [0, 1, 2, 3, 4, 5, 6], [0, 1, 2, 3, 4, 5, 6, 7], [0, 1, 2, 3, 4, 5, 6, 7, 8], [0, 1, 2, 3, 4, 5, 6, 7, 8], [0, 1, 2, 3, 4, 5, 6, 7, 8], [0, 1, 2, 3, 4, 5, 6, 7, 8], [], [0, 1, 2, 3, 4, 5, 6, 7, 8, 9, 13], [0, 1, 2, 3, 4, 5, 6, 7, 8, 9, 10, 13, 14], [0, 1, 2, 3, 4, 5, 6, 7, 8, 9, 10, 11, 13, 14, 15], [0, 1, 2, 3, 4, 5, 6, 7, 8, 9, 10, 11, 12, 13, 14, 15, 16]] j ∧ ∀ p ∈ [13], (p = j ∨ p ∈ clsAt [[], [0], [0, 1], [], [3], [0, 1, 2, 3, 4], [], [0, 1, 2, 3, 4, 5, 6], [0, 1, 2, 3, 4, 5, 6, 7], [0, 1, 2, 3, 4, 5, 6, 7, 8], [0, 1, 2, 3, 4, 5, 6, 7, 8], [0, 1, 2, 3, 4, 5, 6, 7, 8], [0, 1, 2, 3, 4, 5, 6, 7, 8], [], [0, 1, 2, 3, 4, 5, 6, 7, 8, 9, 13], [0, 1, 2, 3, 4, 5, 6, 7, 8, 9, 10, 13, 14], [0, 1, 2, 3, 4, 5, 6, 7, 8, 9, 10, 11, 13, 14, 15], [0, 1, 2, 3, 4, 5, 6, 7, 8, 9, 10, 11, 12, 13, 14, 15, 16]] j) → ∀ q ∈ [13], (q = 14 ∨ q ∈ clsAt [[], [0], [0, 1], [], [3], [0, 1, 2, 3, 4], [], [0, 1, 2, 3, 4, 5, 6], [0, 1, 2, 3, 4, 5, 6, 7], [0, 1, 2, 3, 4, 5, 6, 7, 8], [0, 1, 2, 3, 4, 5, 6, 7, 8], [0, 1, 2, 3, 4, 5, 6, 7, 8], [0, 1, 2, 3, 4, 5, 6, 7, 8], [], [0, 1, 2, 3, 4, 5, 6, 7, 8, 9, 13], [0, 1, 2, 3, 4, 5, 6, 7, 8, 9, 10, 13, 14], [0, 1, 2, 3, 4, 5, 6, 7, 8, 9, 10, 11, 13, 14, 15], [0, 1, 2, 3, 4, 5, 6, 7, 8, 9, 10, 11, 12, 13, 14, 15, 16]] 14) → p ≠ q → val p ≠ val q) (fun _ ⟨g, h1, h2, _⟩ => ⟨g, h1, h2, fun h => by rw [fset_eq] at h; cases h⟩) (phiS_cons_st (C := fun j => j ≠ 14 ∧ 14 ∉ clsAt [[], [0], [0, 1], [], [3], [0, 1, 2, 3, 4], [], [0, 1, 2, 3, 4, 5, 6], [0, 1, 2, 3, 4, 5, 6, 7], [0, 1, 2, 3, 4, 5, 6, 7, 8], [0, 1, 2, 3, 4, 5, 6, 7, 8], [0, 1, 2, 3, 4, 5, 6, 7, 8], [0, 1, 2, 3, 4, 5, 6, 7, 8], [], [0, 1, 2, 3, 4, 5, 6, 7, 8, 9, 13], [0, 1, 2, 3, 4, 5, 6, 7, 8, 9, 10, 13, 14], [0, 1, 2, 3, 4, 5, 6, 7, 8, 9, 10, 11, 13, 14, 15], [0, 1, 2, 3, 4, 5, 6, 7, 8, 9, 10, 11, 12, 13, 14, 15, 16]] j ∧ ∀ p ∈ [13], (p = j ∨ p ∈ clsAt [[], [0], [0, 1], [], [3], [0, 1, 2, 3, 4], [], [0, 1, 2, 3, 4, 5, 6], [0, 1, 2, 3, 4, 5, 6, 7], [0, 1, 2, 3, 4, 5, 6, 7, 8], [0, 1, 2, 3, 4, 5, 6, 7, 8], [0, 1, 2, 3, 4, 5, 6, 7, 8], [0, 1, 2, 3, 4, 5, 6, 7, 8], [], [0, 1, 2, 3, 4, 5, 6, 7, 8, 9, 13], [0, 1, 2, 3, 4, 5, 6, 7, 8, 9, 10, 13, 14], [0, 1, 2, 3, 4, 5, 6, 7, 8, 9, 10, 11, 13, 14, 15], [0, 1, 2, 3, 4, 5, 6, 7, 8, 9, 10, 11, 12, 13, 14, 15, 16]] j) → ∀ q ∈ [13], (q = 14 ∨ q ∈ clsAt [[], [0], [0, 1], [], [3], [0, 1, 2, 3, 4], [], [0, 1, 2, 3, 4, 5, 6], [0, 1, 2, 3, 4, 5, 6, 7], [0, 1, 2, 3, 4, 5, 6, 7, 8], [0, 1, 2, 3, 4, 5, 6, 7, 8], [0, 1, 2, 3, 4, 5, 6, 7, 8], [0, 1, 2, 3, 4, 5, 6, 7, 8], [], [0, 1, 2, 3, 4, 5, 6, 7, 8, 9, 13], [0, 1, 2, 3, 4, 5, 6, 7, 8, 9, 10, 13, 14], [0, 1, 2, 3, 4, 5, 6, 7, 8, 9, 10, 11, 13, 14, 15], [0, 1, 2, 3, 4, 5, 6, 7, 8, 9, 10, 11, 12, 13, 14, 15, 16]] 14) → p ≠ q → val p ≠ val q) (fun hc => absurd rfl hc.1) (fun _ _ h => h)))) j ⟨hj, hn, hA⟩
                    · intro val fl wR33 hfl hb halc hd
                      have e0 : val 0 = .pointer (some ⟨g1, 0, none⟩) := hd 0 (by omega)
                      have e1 : val 1 = .agg #[.slice A rv.reaches.length c, .slice A' rv.shoals.length c'] := hd 1 (by omega)
                      have e3 : val 3 = .pointer (some ⟨g1, 2, none⟩) := hd 3 (by omega)
                      have e4 : val 4 = .slice (some ⟨bS, oS, none⟩) sides.length d := hd 4 (by omega)
                      have e6 : val 6 = .slice (some ⟨gm, 0, none⟩) l.length cho := hd 6 (by omega)
                      have e7 : val 7 = .tuple #[.agg #[.int .i64 (shUp rv sides ml ml.length).lo, .int .i64 (shUp rv sides ml ml.length).hi], .int .i64 (shUp rv sides ml ml.length).pass, .int .i64 (shUp rv sides ml ml.length).hour, .int .i64 0] := hd 7 (by omega)
                      have e8 : val 8 = .tuple #[.agg #[.int .i64 (shUp rv sides ml ml.length).lo, .int .i64 (shUp rv sides ml ml.length).hi], .int .i64 (shUp rv sides ml ml.length).pass, .int .i64 (shUp rv sides ml ml.length).hour, .int .i64 0] := hd 8 (by omega)
                      have e9 : val 9 = .agg #[.int .i64 (shUp rv sides ml ml.length).lo, .int .i64 (shUp rv sides ml ml.length).hi] := hd 9 (by omega)
                      have e10 : val 10 = .int .i64 (shUp rv sides ml ml.length).pass := hd 10 (by omega)
                      have e11 : val 11 = .int .i64 (shUp rv sides ml ml.length).hour := hd 11 (by omega)
                      have e12 : val 12 = .int .i64 0 := hd 12 (by omega)
                      obtain ⟨ga13_33, e13, qa13_33⟩ := hd 14 (by omega)
                      change val 13 = _ at e13
                      have e15 : val 15 = .int .i64 (shUp rv sides ml ml.length).pass := hd 15 (by omega)
                      have e16 : val 16 = .int .i64 (shUp rv sides ml ml.length).hour := hd 16 (by omega)
                      refine EL.ends (cs := [.pointer (some ⟨g1, 0, none⟩), .agg #[.slice A rv.reaches.length c, .slice A' rv.shoals.length c'], val 2, .pointer (some ⟨g1, 2, none⟩), .slice (some ⟨bS, oS, none⟩) sides.length d, val 5, .slice (some ⟨gm, 0, none⟩) l.length cho, .tuple #[.agg #[.int .i64 (shUp rv sides ml ml.length).lo, .int .i64 (shUp rv sides ml ml.length).hi], .int .i64 (shUp rv sides ml ml.length).pass, .int .i64 (shUp rv sides ml ml.length).hour, .int .i64 0], .tuple #[.agg #[.int .i64 (shUp rv sides ml ml.length).lo, .int .i64 (shUp rv sides ml ml.length).hi], .int .i64 (shUp rv sides ml ml.length).pass, .int .i64 (shUp rv sides ml ml.length).hour, .int .i64 0], .agg #[.int .i64 (shUp rv sides ml ml.length).lo, .int .i64 (shUp rv sides ml ml.length).hi], .int .i64 (shUp rv sides ml ml.length).pass, .int .i64 (shUp rv sides ml ml.length).hour, .int .i64 0, .pointer (some ⟨ga13_33, 0, none⟩), val 14, .int .i64 (shUp rv sides ml ml.length).pass, .int .i64 (shUp rv sides ml ml.length).hour]) ⟨e0, e1, rfl, e3, e4, rfl, e6, e7, e8, e9, e10, e11, e12, e13, rfl, e15, e16, trivial⟩ rfl ?_
                      replace q1 := q1.below hb q1.lt
                      replace qa15_3 := qa15_3.below hb qa15_3.lt
                      replace ho := own_below ho hb (Nat.le_refl _)
                      have bge25 := alc_ge halc (i := 13) rfl rfl e13
                      have n1_25 : g1 ≠ ga13_33 := Nat.ne_of_lt (Nat.lt_of_lt_of_le lt_1 bge25)
                      have n5_25 : ga15_3 ≠ ga13_33 := Nat.ne_of_lt (Nat.lt_of_lt_of_le lt_5 bge25)
                      have bhbw_25 := Nat.le_trans hbw.size bge25
                      replace hbw := Below.on hbw hb hbw.size
                      refine EL.val (x_assign rfl) rfl ?_
                      refine EL.nil ?_
                      refine EX.seq ?_
                      refine EC.seq ?_
                      refine EC.region ?_
                      refine EL.val (x_move rfl) rfl ?_
                      refine EL.val (x_eql rfl rfl (by first | assumption | exact decide_eq_true (by omega))) rfl ?_
                      refine EL.val (x_move rfl) rfl ?_
                      refine EL.valg rfl rfl (fa_23_0 rfl) rfl ?_
                      refine EL.valg rfl rfl (ld_3 rfl (qa13_33.at (j := 0) rfl)) rfl ?_
                      refine EL.valg rfl rfl (fa_23_0 rfl) rfl ?_
                      refine EL.valg rfl rfl (ld_3 rfl (qa15_3.at (j := 0) rfl)) rfl ?_
                      refine EL.valg rfl rfl (x_leq rfl rfl (by first | assumption | exact decide_eq_true (by omega))) rfl ?_
                      refine EL.val (x_pick_t rfl rfl) rfl ?_
                      refine EL.val (x_move rfl) rfl ?_
                      refine EL.valg rfl rfl (fa_23_1 rfl) rfl ?_
                      refine EL.valg rfl rfl (ld_3 rfl (qa13_33.at (j := 1) rfl)) rfl ?_
                      refine EL.valg rfl rfl (fa_23_1 rfl) rfl ?_
                      refine EL.valg rfl rfl (ld_3 rfl (qa15_3.at (j := 1) rfl)) rfl ?_
                      refine EL.valg rfl rfl (x_geq rfl rfl (by first | assumption | exact decide_eq_true (by omega))) rfl ?_
                      refine EL.val (x_pick_t rfl rfl) rfl ?_
                      refine EL.val (x_move rfl) rfl ?_
                      refine EL.callg rfl rfl cl_16 rfl (known_any _) ?_
                      rintro e w26 ⟨rfl, hc26⟩
                      refine ⟨_, rfl, ?_⟩
                      replace q1 := q1.below hc26 q1.lt
                      replace qa15_3 := qa15_3.below hc26 qa15_3.lt
                      replace qa13_33 := qa13_33.below hc26 qa13_33.lt
                      replace ho := own_below ho hc26 (Nat.le_refl _)
                      replace hbw := Below.on hbw hc26 hbw.size
                      clear hc26
                      refine EL.val (x_pick_t rfl rfl) rfl ?_
                      refine EL.val (x_assign rfl) rfl ?_
                      refine EL.nil ?_
                      refine EX.seq ?_
                      refine EC.ret ?_
                      exact EX.done (res1 rfl rfl) ⟨rfl, hbw⟩
        ·
          obtain ⟨hve, hvr⟩ := sha_way (l := l) hst rfl hce
          have hv1 := congrArg Shal.pass hvr
          have hv2 := congrArg Shal.hour hvr
          simp only at hv1 hv2
          rw [way_in (by omega) (by omega)] at hve hce
          have lt_1 := q1.lt
          refine EC.regionS [[], [0], [0, 1], [], [3], [0, 1, 2, 3, 4], [], [], [0, 1, 2, 3, 4, 5, 6, 7], [0, 1, 2, 3, 4, 5, 6, 7, 8], [0, 1, 2, 3, 4, 5, 6, 7, 8, 9], [0, 1, 2, 3, 4, 5, 6, 7, 8, 9, 10], [0, 1, 2, 3, 4, 5, 6, 7, 8, 9, 10], [0, 1, 2, 3, 4, 5, 6, 7, 8, 9, 10], [0, 1, 2, 3, 4, 5, 6, 7, 8, 9, 10], [], [0, 1, 2, 3, 4, 5, 6, 7, 8, 9, 10, 11, 15], [0, 1, 2, 3, 4, 5, 6, 7, 8, 9, 10, 11, 12, 15, 16], [0, 1, 2, 3, 4, 5, 6, 7, 8, 9, 10, 11, 12, 13, 15, 16, 17], [0, 1, 2, 3, 4, 5, 6, 7, 8, 9, 10, 11, 12, 13, 14, 15, 16, 17, 18]] 19 [15] [16] (fun _ w_ => Below w_l.heap.size w_l w_) (phiS (fun i_ r => match i_ with | 0 => r 0 = .pointer (some ⟨g1, 0, none⟩) | 1 => r 1 = .agg #[.slice A rv.reaches.length c, .slice A' rv.shoals.length c'] | 3 => r 3 = .pointer (some ⟨g1, 2, none⟩) | 4 => r 4 = .slice (some ⟨bS, oS, none⟩) sides.length d | 7 => r 7 = .slice (some ⟨bw, ow, none⟩) l.length cw | 9 => r 9 = .tuple #[.agg #[.int .i64 (shaRes rv sides l).lo, .int .i64 (shaRes rv sides l).hi], .int .i64 (shaRes rv sides l).pass, .int .i64 (shaRes rv sides l).hour, .int .i64 (shaErr rv sides l)] | 10 => r 10 = .tuple #[.agg #[.int .i64 (shaRes rv sides l).lo, .int .i64 (shaRes rv sides l).hi], .int .i64 (shaRes rv sides l).pass, .int .i64 (shaRes rv sides l).hour, .int .i64 (shaErr rv sides l)] | 11 => r 11 = .agg #[.int .i64 (shaRes rv sides l).lo, .int .i64 (shaRes rv sides l).hi] | 12 => r 12 = .int .i64 (shaRes rv sides l).pass | 13 => r 13 = .int .i64 (shaRes rv sides l).hour | 14 => r 14 = .int .i64 (shaErr rv sides l) | 17 => r 17 = .int .i64 (shaRes rv sides l).pass | 18 => r 18 = .int .i64 (shaRes rv sides l).hour | _ => True) [(2, fun fl r w_ => fl 16 = false → (∃ a b vs, r 2 = .agg #[a, b] ∧ RdRiver w_ w_.heap.size a b rv vs)), (5, fun fl r w_ => fl 16 = false → (∃ v ss, r 5 = v ∧ RdSides w_ w_.heap.size v sides ss)), (6, fun fl r w_ => fl 16 = false → (∃ g_, r 6 = .slice (some ⟨g_, 0, none⟩) 0 0 ∧ Blk w_ g_ 101 #[] ∧ w_l.heap.size ≤ g_)), (8, fun fl r w_ => fl 16 = false → (∃ v, r 8 = v ∧ w_.ownsRow w_l.heap.size 101 3 v l.length (passesC l))), (15, fun fl r w_ => ∃ g_, r 15 = .pointer (some ⟨g_, 0, none⟩) ∧ w_l.heap.size ≤ g_ ∧ (fl 16 = false → Blk w_ g_ 23 #[.int .i64 0, .int .i64 0])), (16, fun _ r w_ => ∃ g_, r 15 = .pointer (some ⟨g_, 0, none⟩) ∧ Blk w_ g_ 23 #[.int .i64 (shaRes rv sides l).lo, .int .i64 (shaRes rv sides l).hi])]) (by kernel_rfl) rfl rfl (by intro i hi; simp at hi; first | (subst hi; exact ⟨by simp, by omega⟩) | (rcases hi with rfl | rfl | rfl <;> exact ⟨by simp, by omega⟩) | (rcases hi with rfl | rfl <;> exact ⟨by simp, by omega⟩)) (base_below w_l) (phiS_cons (monoS_till mono_riv) (phiS_cons (monoS_till mono_sid) (phiS_cons (monoS_till mono_bs) (phiS_cons (monoS_till mono_row) (phiS_cons monoS_alloc (phiS_cons monoS_store (phiS_nil))))))) (fun i_ hi_ hs_ => ?_) (fun i_ hi_ => ?_) ?_
          · match i_, hi_ with
            | 0, _ =>
              intro val fl w1 a hb ha hd hfl
              have ha := ha.sub (Sub.ins (d := 3) (Sub.nil _) rfl)
              exact ss_val ha rfl rfl (fa_54_0 rfl) rfl rfl
            | 1, _ =>
              intro val fl w1 a hb ha hd hfl
              have e0 : val 0 = .pointer (some ⟨g1, 0, none⟩) := hd 0 (memB_mem.1 rfl)
              have ha := ha.sub (Sub.ins (d := 46) (Sub.nil _) (dep_get rfl e0))
              exact ss_val ha rfl rfl (ld_47 rfl ((q1.below hb q1.lt).at (j := 0) rfl) ((q1.below hb q1.lt).at (j := 1) rfl)) rfl rfl
            | 2, _ =>
              intro val fl w1 a hb ha hd hfl
              have e1 : val 1 = .agg #[.slice A rv.reaches.length c, .slice A' rv.shoals.length c'] := hd 1 (memB_mem.1 rfl)
              have ha := ha.sub (Sub.ins (d := 47) (Sub.nil _) (dep_get rfl e1))
              refine ss_call ha rfl rfl (cl_24 rfl) (copied_any rv _ _ vs _ B (hr.below ((Below.on hbw hb hbw.size).mono hB)) (Nat.le_trans hB (Below.on hbw hb hbw.size).size) (by omega) (by omega) f3) rfl ?_
              rintro e w' ⟨⟨v1, u1, vs1, rfl, hcp⟩, hb'⟩
              exact ⟨_, rfl, hb', fun _ => ⟨_, _, _, rfl, hcp⟩⟩
            | 3, _ =>
              intro val fl w1 a hb ha hd hfl
              have ha := ha.sub (Sub.ins (d := 3) (Sub.nil _) rfl)
              exact ss_val ha rfl rfl (fa_54_1 rfl) rfl rfl
            | 4, _ =>
              intro val fl w1 a hb ha hd hfl
              have e3 : val 3 = .pointer (some ⟨g1, 2, none⟩) := hd 3 (memB_mem.1 rfl)
              have ha := ha.sub (Sub.ins (d := 49) (Sub.nil _) (dep_get rfl e3))
              exact ss_val ha rfl rfl (ld_52 rfl ((q1.below hb q1.lt).at (j := 2) rfl)) rfl rfl
            | 5, _ =>
              intro val fl w1 a hb ha hd hfl
              have e4 : val 4 = .slice (some ⟨bS, oS, none⟩) sides.length d := hd 4 (memB_mem.1 rfl)
              have ha := ha.sub (Sub.ins (d := 50) (Sub.nil _) (dep_get rfl e4))
              refine ss_call ha rfl rfl (cl_34 rfl) (forecast_any sides _ ss _ B (hs.below ((Below.on hbw hb hbw.size).mono hB)) (Nat.le_trans hB (Below.on hbw hb hbw.size).size) (by omega) f4) rfl ?_
              rintro e w' ⟨⟨v1, ss1, rfl, hcp⟩, hb'⟩
              exact ⟨_, rfl, hb', fun _ => ⟨_, _, rfl, hcp⟩⟩
            | 6, _ =>
              intro val fl w1 a hb ha hd hfl
              have ha := ha.sub (Sub.nil _)
              exact ss_newS ha rfl rfl (bs_99_0) rfl (fun g w' hq _ hge => fun _ => ⟨g, rfl, hq, Nat.le_trans hb.size hge⟩)
            | 7, _ =>
              intro val fl w1 a hb ha hd hfl
              have ha := ha.sub (Sub.ins (d := 1) (Sub.nil _) rfl)
              exact ss_val ha rfl rfl (x_move rfl) rfl rfl
            | 8, _ =>
              intro val fl w1 a hb ha hd hfl
              obtain ⟨g6_, e6, q6_, h6_⟩ := hd 6 (memB_mem.1 rfl) (hfl 16 (by simp) (memB_mem.1 rfl))
              change val 6 = _ at e6
              have e7 : val 7 = .slice (some ⟨bw, ow, none⟩) l.length cw := hd 7 (memB_mem.1 rfl)
              have ha := ha.sub (Sub.ins (d := 53) (Sub.ins (d := 52) (Sub.nil _) (dep_get rfl e6)) (dep_get rfl e7))
              exact ss_copy pass_elem2 ha rfl rfl rfl q6_ h6_ (hwy.below ((Below.on hbw hb hbw.size).mono hB)) (passesC_one _) (by omega) rfl hb.size rfl (fun v' w' ho => fun _ => ⟨_, rfl, ho⟩)
            | 9, _ =>
              intro val fl w1 a hb ha hd hfl
              obtain ⟨a2_, b2_, vs2_, e2, q2_⟩ := hd 2 (memB_mem.1 rfl) (hfl 16 (by simp) (memB_mem.1 rfl))
              obtain ⟨v5_, ss5_, e5, q5_⟩ := hd 5 (memB_mem.1 rfl) (hfl 16 (by simp) (memB_mem.1 rfl))
              obtain ⟨v8_, e8, q8_⟩ := hd 8 (memB_mem.1 rfl) (hfl 16 (by simp) (memB_mem.1 rfl))
              have ha := ha.sub (Sub.ins (d := 54) (Sub.ins (d := 51) (Sub.ins (d := 48) (Sub.nil _) (dep_get rfl e2)) (dep_get rfl e5)) (dep_get rfl e8))
              refine ss_call ha rfl rfl (cl_51 rfl rfl rfl) (shallow_any rv sides _ _ _ _ _ l _ _ w1.heap.size q2_ q5_ (Nat.le_refl _) (Rd.of_own q8_) (by omega) (by omega) f3 (by omega) f4) rfl ?_
              rintro e w' ⟨rfl, hb'⟩
              exact ⟨_, rfl, hb', rfl⟩
            | 10, _ =>
              intro val fl w1 a hb ha hd hfl
              have e9 : val 9 = .tuple #[.agg #[.int .i64 (shaRes rv sides l).lo, .int .i64 (shaRes rv sides l).hi], .int .i64 (shaRes rv sides l).pass, .int .i64 (shaRes rv sides l).hour, .int .i64 (shaErr rv sides l)] := hd 9 (memB_mem.1 rfl)
              have ha := ha.sub (Sub.ins (d := 55) (Sub.nil _) (dep_get rfl e9))
              exact ss_val ha rfl rfl (x_move rfl) rfl rfl
            | 11, _ =>
              intro val fl w1 a hb ha hd hfl
              have e10 : val 10 = .tuple #[.agg #[.int .i64 (shaRes rv sides l).lo, .int .i64 (shaRes rv sides l).hi], .int .i64 (shaRes rv sides l).pass, .int .i64 (shaRes rv sides l).hour, .int .i64 (shaErr rv sides l)] := hd 10 (memB_mem.1 rfl)
              have ha := ha.sub (Sub.ins (d := 45) (Sub.nil _) (dep_get rfl e10))
              exact ss_val ha rfl rfl (x_extract rfl rfl) rfl rfl
            | 12, _ =>
              intro val fl w1 a hb ha hd hfl
              have e10 : val 10 = .tuple #[.agg #[.int .i64 (shaRes rv sides l).lo, .int .i64 (shaRes rv sides l).hi], .int .i64 (shaRes rv sides l).pass, .int .i64 (shaRes rv sides l).hour, .int .i64 (shaErr rv sides l)] := hd 10 (memB_mem.1 rfl)
              have ha := ha.sub (Sub.ins (d := 45) (Sub.nil _) (dep_get rfl e10))
              exact ss_val ha rfl rfl (x_extract rfl rfl) rfl rfl
            | 13, _ =>
              intro val fl w1 a hb ha hd hfl
              have e10 : val 10 = .tuple #[.agg #[.int .i64 (shaRes rv sides l).lo, .int .i64 (shaRes rv sides l).hi], .int .i64 (shaRes rv sides l).pass, .int .i64 (shaRes rv sides l).hour, .int .i64 (shaErr rv sides l)] := hd 10 (memB_mem.1 rfl)
              have ha := ha.sub (Sub.ins (d := 45) (Sub.nil _) (dep_get rfl e10))
              exact ss_val ha rfl rfl (x_extract rfl rfl) rfl rfl
            | 14, _ =>
              intro val fl w1 a hb ha hd hfl
              have e10 : val 10 = .tuple #[.agg #[.int .i64 (shaRes rv sides l).lo, .int .i64 (shaRes rv sides l).hi], .int .i64 (shaRes rv sides l).pass, .int .i64 (shaRes rv sides l).hour, .int .i64 (shaErr rv sides l)] := hd 10 (memB_mem.1 rfl)
              have ha := ha.sub (Sub.ins (d := 45) (Sub.nil _) (dep_get rfl e10))
              exact ss_val ha rfl rfl (x_extract rfl rfl) rfl rfl
            | 15, _ =>
              intro val fl w1 a hb ha hd hfl
              have ha := ha.sub (Sub.nil _)
              exact ss_newP ha rfl rfl al_23 (fun g w' hq _ hge => ⟨g, rfl, Nat.le_trans hb.size hge, fun _ => hq⟩)
            | 16, _ =>
              exact absurd (by simp) hs_
            | 17, _ =>
              intro val fl w1 a hb ha hd hfl
              have e12 : val 12 = .int .i64 (shaRes rv sides l).pass := hd 12 (memB_mem.1 rfl)
              have ha := ha.sub (Sub.ins (d := 57) (Sub.nil _) (dep_get rfl e12))
              exact ss_val ha rfl rfl (x_assign rfl) rfl rfl
            | 18, _ =>
              intro val fl w1 a hb ha hd hfl
              have e13 : val 13 = .int .i64 (shaRes rv sides l).hour := hd 13 (memB_mem.1 rfl)
              have ha := ha.sub (Sub.ins (d := 58) (Sub.nil _) (dep_get rfl e13))
              exact ss_val ha rfl rfl (x_assign rfl) rfl rfl
            | k + 19, h => exact absurd h (by omega)
          · simp only [List.mem_singleton] at hi_; subst hi_
            intro val fl w1 a hb hfi ha hd hfl
            obtain ⟨g15_, e15, hg15_, q15_⟩ := hd 15 (memB_mem.1 rfl)
            change val 15 = _ at e15
            have e11 : val 11 = .agg #[.int .i64 (shaRes rv sides l).lo, .int .i64 (shaRes rv sides l).hi] := hd 11 (memB_mem.1 rfl)
            have ha := ha.sub (Sub.ins (d := 56) (Sub.ins (d := 7) (Sub.nil _) (dep_get rfl e15)) (dep_get rfl e11))
            refine ts_store ha rfl rfl rfl (q15_ hfi) sz_23 rfl rfl rfl rfl ?_
            intro w' hq hgr
            refine ⟨undef, rfl, hgr.size, below_store hb hgr hg15_, ⟨g15_, e15, hq⟩, fun j _ hj hn hA => ?_⟩
            exact phiS_cons_st (C := fun j => j ≠ 16 ∧ 16 ∉ clsAt [[], [0], [0, 1], [], [3], [0, 1, 2, 3, 4], [], [], [0, 1, 2, 3, 4, 5, 6, 7], [0, 1, 2, 3, 4, 5, 6, 7, 8], [0, 1, 2, 3, 4, 5, 6, 7, 8, 9], [0, 1, 2, 3, 4, 5, 6, 7, 8, 9, 10], [0, 1, 2, 3, 4, 5, 6, 7, 8, 9, 10], [0, 1, 2, 3, 4, 5, 6, 7, 8, 9, 10], [0, 1, 2, 3, 4, 5, 6, 7, 8, 9, 10], [], [0, 1, 2, 3, 4, 5, 6, 7, 8, 9, 10, 11, 15], [0, 1, 2, 3, 4, 5, 6, 7, 8, 9, 10, 11, 12, 15, 16], [0, 1, 2, 3, 4, 5, 6, 7, 8, 9, 10, 11, 12, 13, 15, 16, 17], [0, 1, 2, 3, 4, 5, 6, 7, 8, 9, 10, 11, 12, 13, 14, 15, 16, 17, 18]] j ∧ ∀ p ∈ [15], (p = j ∨ p ∈ clsAt [[], [0], [0, 1], [], [3], [0, 1, 2, 3, 4], [], [], [0, 1, 2, 3, 4, 5, 6, 7], [0, 1, 2, 3, 4, 5, 6, 7, 8], [0, 1, 2, 3, 4, 5, 6, 7, 8, 9], [0, 1, 2, 3, 4, 5, 6, 7, 8, 9, 10], [0, 1, 2, 3, 4, 5, 6, 7, 8, 9, 10], [0, 1, 2, 3, 4, 5, 6, 7, 8, 9, 10], [0, 1, 2, 3, 4, 5, 6, 7, 8, 9, 10], [], [0, 1, 2, 3, 4, 5, 6, 7, 8, 9, 10, 11, 15], [0, 1, 2, 3, 4, 5, 6, 7, 8, 9, 10, 11, 12, 15, 16], [0, 1, 2, 3, 4, 5, 6, 7, 8, 9, 10, 11, 12, 13, 15, 16, 17], [0, 1, 2, 3, 4, 5, 6, 7, 8, 9, 10, 11, 12, 13, 14, 15, 16, 17, 18]] j) → ∀ q ∈ [15], (q = 16 ∨ q ∈ clsAt [[], [0], [0, 1], [], [3], [0, 1, 2, 3, 4], [], [], [0, 1, 2, 3, 4, 5, 6, 7], [0, 1, 2, 3, 4, 5, 6, 7, 8], [0, 1, 2, 3, 4, 5, 6, 7, 8, 9], [0, 1, 2, 3, 4, 5, 6, 7, 8, 9, 10], [0, 1, 2, 3, 4, 5, 6, 7, 8, 9, 10], [0, 1, 2, 3, 4, 5, 6, 7, 8, 9, 10], [0, 1, 2, 3, 4, 5, 6, 7, 8, 9, 10], [], [0, 1, 2, 3, 4, 5, 6, 7, 8, 9, 10, 11, 15], [0, 1, 2, 3, 4, 5, 6, 7, 8, 9, 10, 11, 12, 15, 16], [0, 1, 2, 3, 4, 5, 6, 7, 8, 9, 10, 11, 12, 13, 15, 16, 17], [0, 1, 2, 3, 4, 5, 6, 7, 8, 9, 10, 11, 12, 13, 14, 15, 16, 17, 18]] 16) → p ≠ q → val p ≠ val q) (fun _ _ h => by rw [fset_eq] at h; cases h) (phiS_cons_st (C := fun j => j ≠ 16 ∧ 16 ∉ clsAt [[], [0], [0, 1], [], [3], [0, 1, 2, 3, 4], [], [], [0, 1, 2, 3, 4, 5, 6, 7], [0, 1, 2, 3, 4, 5, 6, 7, 8], [0, 1, 2, 3, 4, 5, 6, 7, 8, 9], [0, 1, 2, 3, 4, 5, 6, 7, 8, 9, 10], [0, 1, 2, 3, 4, 5, 6, 7, 8, 9, 10], [0, 1, 2, 3, 4, 5, 6, 7, 8, 9, 10], [0, 1, 2, 3, 4, 5, 6, 7, 8, 9, 10], [], [0, 1, 2, 3, 4, 5, 6, 7, 8, 9, 10, 11, 15], [0, 1, 2, 3, 4, 5, 6, 7, 8, 9, 10, 11, 12, 15, 16], [0, 1, 2, 3, 4, 5, 6, 7, 8, 9, 10, 11, 12, 13, 15, 16, 17], [0, 1, 2, 3, 4, 5, 6, 7, 8, 9, 10, 11, 12, 13, 14, 15, 16, 17, 18]] j ∧ ∀ p ∈ [15], (p = j ∨ p ∈ clsAt [[], [0], [0, 1], [], [3], [0, 1, 2, 3, 4], [], [], [0, 1, 2, 3, 4, 5, 6, 7], [0, 1, 2, 3, 4, 5, 6, 7, 8], [0, 1, 2, 3, 4, 5, 6, 7, 8, 9], [0, 1, 2, 3, 4, 5, 6, 7, 8, 9, 10], [0, 1, 2, 3, 4, 5, 6, 7, 8, 9, 10], [0, 1, 2, 3, 4, 5, 6, 7, 8, 9, 10], [0, 1, 2, 3, 4, 5, 6, 7, 8, 9, 10], [], [0, 1, 2, 3, 4, 5, 6, 7, 8, 9, 10, 11, 15], [0, 1, 2, 3, 4, 5, 6, 7, 8, 9, 10, 11, 12, 15, 16], [0, 1, 2, 3, 4, 5, 6, 7, 8, 9, 10, 11, 12, 13, 15, 16, 17], [0, 1, 2, 3, 4, 5, 6, 7, 8, 9, 10, 11, 12, 13, 14, 15, 16, 17, 18]] j) → ∀ q ∈ [15], (q = 16 ∨ q ∈ clsAt [[], [0], [0, 1], [], [3], [0, 1, 2, 3, 4], [], [], [0, 1, 2, 3, 4, 5, 6, 7], [0, 1, 2, 3, 4, 5, 6, 7, 8], [0, 1, 2, 3, 4, 5, 6, 7, 8, 9], [0, 1, 2, 3, 4, 5, 6, 7, 8, 9, 10], [0, 1, 2, 3, 4, 5, 6, 7, 8, 9, 10], [0, 1, 2, 3, 4, 5, 6, 7, 8, 9, 10], [0, 1, 2, 3, 4, 5, 6, 7, 8, 9, 10], [], [0, 1, 2, 3, 4, 5, 6, 7, 8, 9, 10, 11, 15], [0, 1, 2, 3, 4, 5, 6, 7, 8, 9, 10, 11, 12, 15, 16], [0, 1, 2, 3, 4, 5, 6, 7, 8, 9, 10, 11, 12, 13, 15, 16, 17], [0, 1, 2, 3, 4, 5, 6, 7, 8, 9, 10, 11, 12, 13, 14, 15, 16, 17, 18]] 16) → p ≠ q → val p ≠ val q) (fun _ _ h => by rw [fset_eq] at h; cases h) (phiS_cons_st (C := fun j => j ≠ 16 ∧ 16 ∉ clsAt [[], [0], [0, 1], [], [3], [0, 1, 2, 3, 4], [], [], [0, 1, 2, 3, 4, 5, 6, 7], [0, 1, 2, 3, 4, 5, 6, 7, 8], [0, 1, 2, 3, 4, 5, 6, 7, 8, 9], [0, 1, 2, 3, 4, 5, 6, 7, 8, 9, 10], [0, 1, 2, 3, 4, 5, 6, 7, 8, 9, 10], [0, 1, 2, 3, 4, 5, 6, 7, 8, 9, 10], [0, 1, 2, 3, 4, 5, 6, 7, 8, 9, 10], [], [0, 1, 2, 3, 4, 5, 6, 7, 8, 9, 10, 11, 15], [0, 1, 2, 3, 4, 5, 6, 7, 8, 9, 10, 11, 12, 15, 16], [0, 1, 2, 3, 4, 5, 6, 7, 8, 9, 10, 11, 12, 13, 15, 16, 17], [0, 1, 2, 3, 4, 5, 6, 7, 8, 9, 10, 11, 12, 13, 14, 15, 16, 17, 18]] j ∧ ∀ p ∈ [15], (p = j ∨ p ∈ clsAt [[], [0], [0, 1], [], [3], [0, 1, 2, 3, 4], [], [], [0, 1, 2, 3, 4, 5, 6, 7], [0, 1, 2, 3, 4, 5, 6, 7, 8], [0, 1, 2, 3, 4, 5, 6, 7, 8, 9], [0, 1, 2, 3, 4, 5, 6, 7, 8, 9, 10], [0, 1, 2, 3, 4, 5, 6, 7, 8, 9, 10], [0, 1, 2, 3, 4, 5, 6, 7, 8, 9, 10], [0, 1, 2, 3, 4, 5, 6, 7, 8, 9, 10], [], [0, 1, 2, 3, 4, 5, 6, 7, 8, 9, 10, 11, 15], [0, 1, 2, 3, 4, 5, 6, 7, 8, 9, 10, 11, 12, 15, 16], [0, 1, 2, 3, 4, 5, 6, 7, 8, 9, 10, 11, 12, 13, 15, 16, 17], [0, 1, 2, 3, 4, 5, 6, 7, 8, 9, 10, 11, 12, 13, 14, 15, 16, 17, 18]] j) → ∀ q ∈ [15], (q = 16 ∨ q ∈ clsAt [[], [0], [0, 1], [], [3], [0, 1, 2, 3, 4], [], [], [0, 1, 2, 3, 4, 5, 6, 7], [0, 1, 2, 3, 4, 5, 6, 7, 8], [0, 1, 2, 3, 4, 5, 6, 7, 8, 9], [0, 1, 2, 3, 4, 5, 6, 7, 8, 9, 10], [0, 1, 2, 3, 4, 5, 6, 7, 8, 9, 10], [0, 1, 2, 3, 4, 5, 6, 7, 8, 9, 10], [0, 1, 2, 3, 4, 5, 6, 7, 8, 9, 10], [], [0, 1, 2, 3, 4, 5, 6, 7, 8, 9, 10, 11, 15], [0, 1, 2, 3, 4, 5, 6, 7, 8, 9, 10, 11, 12, 15, 16], [0, 1, 2, 3, 4, 5, 6, 7, 8, 9, 10, 11, 12, 13, 15, 16, 17], [0, 1, 2, 3, 4, 5, 6, 7, 8, 9, 10, 11, 12, 13, 14, 15, 16, 17, 18]] 16) → p ≠ q → val p ≠ val q) (fun _ _ h => by rw [fset_eq] at h; cases h) (phiS_cons_st (C := fun j => j ≠ 16 ∧ 16 ∉ clsAt [[], [0], [0, 1], [], [3], [0, 1, 2, 3, 4], [], [], [0, 1, 2, 3, 4, 5, 6, 7], [0, 1, 2, 3, 4, 5, 6, 7, 8], [0, 1, 2, 3, 4, 5, 6, 7, 8, 9], [0, 1, 2, 3, 4, 5, 6, 7, 8, 9, 10], [0, 1, 2, 3, 4, 5, 6, 7, 8, 9, 10], [0, 1, 2, 3, 4, 5, 6, 7, 8, 9, 10], [0, 1, 2, 3, 4, 5, 6, 7, 8, 9, 10], [], [0, 1, 2, 3, 4, 5, 6, 7, 8, 9, 10, 11, 15], [0, 1, 2, 3, 4, 5, 6, 7, 8, 9, 10, 11, 12, 15, 16], [0, 1, 2, 3, 4, 5, 6, 7, 8, 9, 10, 11, 12, 13, 15, 16, 17], [0, 1, 2, 3, 4, 5, 6, 7, 8, 9, 10, 11, 12, 13, 14, 15, 16, 17, 18]] j ∧ ∀ p ∈ [15], (p = j ∨ p ∈ clsAt [[], [0], [0, 1], [], [3], [0, 1, 2, 3, 4], [], [], [0, 1, 2, 3, 4, 5, 6, 7], [0, 1, 2, 3, 4, 5, 6, 7, 8], [0, 1, 2, 3, 4, 5, 6, 7, 8, 9], [0, 1, 2, 3, 4, 5, 6, 7, 8, 9, 10], [0, 1, 2, 3, 4, 5, 6, 7, 8, 9, 10], [0, 1, 2, 3, 4, 5, 6, 7, 8, 9, 10], [0, 1, 2, 3, 4, 5, 6, 7, 8, 9, 10], [], [0, 1, 2, 3, 4, 5, 6, 7, 8, 9, 10, 11, 15], [0, 1, 2, 3, 4, 5, 6, 7, 8, 9, 10, 11, 12, 15, 16], [0, 1, 2, 3, 4, 5, 6, 7, 8, 9, 10, 11, 12, 13, 15, 16, 17], [0, 1, 2, 3, 4, 5, 6, 7, 8, 9, 10, 11, 12, 13, 14, 15, 16, 17, 18]] j) → ∀ q ∈ [15], (q = 16 ∨ q ∈ clsAt [[], [0], [0, 1], [], [3], [0, 1, 2, 3, 4], [], [], [0, 1, 2, 3, 4, 5, 6, 7], [0, 1, 2, 3, 4, 5, 6, 7, 8], [0, 1, 2, 3, 4, 5, 6, 7, 8, 9], [0, 1, 2, 3, 4, 5, 6, 7, 8, 9, 10], [0, 1, 2, 3, 4, 5, 6, 7, 8, 9, 10], [0, 1, 2, 3, 4, 5, 6, 7, 8, 9, 10], [0, 1, 2, 3, 4, 5, 6, 7, 8, 9, 10], [], [0, 1, 2, 3, 4, 5, 6, 7, 8, 9, 10, 11, 15], [0, 1, 2, 3, 4, 5, 6, 7, 8, 9, 10, 11, 12, 15, 16], [0, 1, 2, 3, 4, 5, 6, 7, 8, 9, 10, 11, 12, 13, 15, 16, 17], [0, 1, 2, 3, 4, 5, 6, 7, 8, 9, 10, 11, 12, 13, 14, 15, 16, 17, 18]] 16) → p ≠ q → val p ≠ val q) (fun _ _ h => by rw [fset_eq] at h; cases h) (phiS_cons_st (C := fun j => j ≠ 16 ∧ 16 ∉ clsAt [[], [0], [0, 1], [], [3], [0, 1, 2, 3, 4], [], [], [0, 1, 2, 3, 4, 5, 6, 7], [0, 1, 2, 3, 4, 5, 6, 7, 8], [0, 1, 2, 3, 4, 5, 6, 7, 8, 9], [0, 1, 2, 3, 4, 5, 6, 7, 8, 9, 10], [0, 1, 2, 3, 4, 5, 6, 7, 8, 9, 10], [0, 1, 2, 3, 4, 5, 6, 7, 8, 9, 10], [0, 1, 2, 3, 4, 5, 6, 7, 8, 9, 10], [], [0, 1, 2, 3, 4, 5, 6, 7, 8, 9, 10, 11, 15], [0, 1, 2, 3, 4, 5, 6, 7, 8, 9, 10, 11, 12, 15, 16], [0, 1, 2, 3, 4, 5, 6, 7, 8, 9, 10, 11, 12, 13, 15, 16, 17], [0, 1, 2, 3, 4, 5, 6, 7, 8, 9, 10, 11, 12, 13, 14, 15, 16, 17, 18]] j ∧ ∀ p ∈ [15], (p = j ∨ p ∈ clsAt [[], [0], [0, 1], [], [3], [0, 1, 2, 3, 4], [], [], [0, 1, 2, 3, 4, 5, 6, 7], [0, 1, 2, 3, 4, 5, 6, 7, 8], [0, 1, 2, 3, 4, 5, 6, 7, 8, 9], [0, 1, 2, 3, 4, 5, 6, 7, 8, 9, 10], [0, 1, 2, 3, 4, 5, 6, 7, 8, 9, 10], [0, 1, 2, 3, 4, 5, 6, 7, 8, 9, 10], [0, 1, 2, 3, 4, 5, 6, 7, 8, 9, 10], [], [0, 1, 2, 3, 4, 5, 6, 7, 8, 9, 10, 11, 15], [0, 1, 2, 3, 4, 5, 6, 7, 8, 9, 10, 11, 12, 15, 16], [0, 1, 2, 3, 4, 5, 6, 7, 8, 9, 10, 11, 12, 13, 15, 16, 17], [0, 1, 2, 3, 4, 5, 6, 7, 8, 9, 10, 11, 12, 13, 14, 15, 16, 17, 18]] j) → ∀ q ∈ [15], (q = 16 ∨ q ∈ clsAt [[], [0], [0, 1], [], [3], [0, 1, 2, 3, 4], [], [], [0, 1, 2, 3, 4, 5, 6, 7], [0, 1, 2, 3, 4, 5, 6, 7, 8], [0, 1, 2, 3, 4, 5, 6, 7, 8, 9], [0, 1, 2, 3, 4, 5, 6, 7, 8, 9, 10], [0, 1, 2, 3, 4, 5, 6, 7, 8, 9, 10], [0, 1, 2, 3, 4, 5, 6, 7, 8, 9, 10], [0, 1, 2, 3, 4, 5, 6, 7, 8, 9, 10], [], [0, 1, 2, 3, 4, 5, 6, 7, 8, 9, 10, 11, 15], [0, 1, 2, 3, 4, 5, 6, 7, 8, 9, 10, 11, 12, 15, 16], [0, 1, 2, 3, 4, 5, 6, 7, 8, 9, 10, 11, 12, 13, 15, 16, 17], [0, 1, 2, 3, 4, 5, 6, 7, 8, 9, 10, 11, 12, 13, 14, 15, 16, 17, 18]] 16) → p ≠ q → val p ≠ val q) (fun _ ⟨g, h1, h2, _⟩ => ⟨g, h1, h2, fun h => by rw [fset_eq] at h; cases h⟩) (phiS_cons_st (C := fun j => j ≠ 16 ∧ 16 ∉ clsAt [[], [0], [0, 1], [], [3], [0, 1, 2, 3, 4], [], [], [0, 1, 2, 3, 4, 5, 6, 7], [0, 1, 2, 3, 4, 5, 6, 7, 8], [0, 1, 2, 3, 4, 5, 6, 7, 8, 9], [0, 1, 2, 3, 4, 5, 6, 7, 8, 9, 10], [0, 1, 2, 3, 4, 5, 6, 7, 8, 9, 10], [0, 1, 2, 3, 4, 5, 6, 7, 8, 9, 10], [0, 1, 2, 3, 4, 5, 6, 7, 8, 9, 10], [], [0, 1, 2, 3, 4, 5, 6, 7, 8, 9, 10, 11, 15], [0, 1, 2, 3, 4, 5, 6, 7, 8, 9, 10, 11, 12, 15, 16], [0, 1, 2, 3, 4, 5, 6, 7, 8, 9, 10, 11, 12, 13, 15, 16, 17], [0, 1, 2, 3, 4, 5, 6, 7, 8, 9, 10, 11, 12, 13, 14, 15, 16, 17, 18]] j ∧ ∀ p ∈ [15], (p = j ∨ p ∈ clsAt [[], [0], [0, 1], [], [3], [0, 1, 2, 3, 4], [], [], [0, 1, 2, 3, 4, 5, 6, 7], [0, 1, 2, 3, 4, 5, 6, 7, 8], [0, 1, 2, 3, 4, 5, 6, 7, 8, 9], [0, 1, 2, 3, 4, 5, 6, 7, 8, 9, 10], [0, 1, 2, 3, 4, 5, 6, 7, 8, 9, 10], [0, 1, 2, 3, 4, 5, 6, 7, 8, 9, 10], [0, 1, 2, 3, 4, 5, 6, 7, 8, 9, 10], [], [0, 1, 2, 3, 4, 5, 6, 7, 8, 9, 10, 11, 15], [0, 1, 2, 3, 4, 5, 6, 7, 8, 9, 10, 11, 12, 15, 16], [0, 1, 2, 3, 4, 5, 6, 7, 8, 9, 10, 11, 12, 13, 15, 16, 17], [0, 1, 2, 3, 4, 5, 6, 7, 8, 9, 10, 11, 12, 13, 14, 15, 16, 17, 18]] j) → ∀ q ∈ [15], (q = 16 ∨ q ∈ clsAt [[], [0], [0, 1], [], [3], [0, 1, 2, 3, 4], [], [], [0, 1, 2, 3, 4, 5, 6, 7], [0, 1, 2, 3, 4, 5, 6, 7, 8], [0, 1, 2, 3, 4, 5, 6, 7, 8, 9], [0, 1, 2, 3, 4, 5, 6, 7, 8, 9, 10], [0, 1, 2, 3, 4, 5, 6, 7, 8, 9, 10], [0, 1, 2, 3, 4, 5, 6, 7, 8, 9, 10], [0, 1, 2, 3, 4, 5, 6, 7, 8, 9, 10], [], [0, 1, 2, 3, 4, 5, 6, 7, 8, 9, 10, 11, 15], [0, 1, 2, 3, 4, 5, 6, 7, 8, 9, 10, 11, 12, 15, 16], [0, 1, 2, 3, 4, 5, 6, 7, 8, 9, 10, 11, 12, 13, 15, 16, 17], [0, 1, 2, 3, 4, 5, 6, 7, 8, 9, 10, 11, 12, 13, 14, 15, 16, 17, 18]] 16) → p ≠ q → val p ≠ val q) (fun hc => absurd rfl hc.1) (fun _ _ h => h)))))) j ⟨hj, hn, hA⟩
          · intro val fl wR3 hfl hb halc hd
            have e0 : val 0 = .pointer (some ⟨g1, 0, none⟩) := hd 0 (by omega)
            have e1 : val 1 = .agg #[.slice A rv.reaches.length c, .slice A' rv.shoals.length c'] := hd 1 (by omega)
            have e3 : val 3 = .pointer (some ⟨g1, 2, none⟩) := hd 3 (by omega)
            have e4 : val 4 = .slice (some ⟨bS, oS, none⟩) sides.length d := hd 4 (by omega)
            have e7 : val 7 = .slice (some ⟨bw, ow, none⟩) l.length cw := hd 7 (by omega)
            have e9 : val 9 = .tuple #[.agg #[.int .i64 (shaRes rv sides l).lo, .int .i64 (shaRes rv sides l).hi], .int .i64 (shaRes rv sides l).pass, .int .i64 (shaRes rv sides l).hour, .int .i64 (shaErr rv sides l)] := hd 9 (by omega)
            have e10 : val 10 = .tuple #[.agg #[.int .i64 (shaRes rv sides l).lo, .int .i64 (shaRes rv sides l).hi], .int .i64 (shaRes rv sides l).pass, .int .i64 (shaRes rv sides l).hour, .int .i64 (shaErr rv sides l)] := hd 10 (by omega)
            have e11 : val 11 = .agg #[.int .i64 (shaRes rv sides l).lo, .int .i64 (shaRes rv sides l).hi] := hd 11 (by omega)
            have e12 : val 12 = .int .i64 (shaRes rv sides l).pass := hd 12 (by omega)
            have e13 : val 13 = .int .i64 (shaRes rv sides l).hour := hd 13 (by omega)
            have e14 : val 14 = .int .i64 (shaErr rv sides l) := hd 14 (by omega)
            obtain ⟨ga15_3, e15, qa15_3⟩ := hd 16 (by omega)
            change val 15 = _ at e15
            have e17 : val 17 = .int .i64 (shaRes rv sides l).pass := hd 17 (by omega)
            have e18 : val 18 = .int .i64 (shaRes rv sides l).hour := hd 18 (by omega)
            refine EL.ends (cs := [.pointer (some ⟨g1, 0, none⟩), .agg #[.slice A rv.reaches.length c, .slice A' rv.shoals.length c'], val 2, .pointer (some ⟨g1, 2, none⟩), .slice (some ⟨bS, oS, none⟩) sides.length d, val 5, val 6, .slice (some ⟨bw, ow, none⟩) l.length cw, val 8, .tuple #[.agg #[.int .i64 (shaRes rv sides l).lo, .int .i64 (shaRes rv sides l).hi], .int .i64 (shaRes rv sides l).pass, .int .i64 (shaRes rv sides l).hour, .int .i64 (shaErr rv sides l)], .tuple #[.agg #[.int .i64 (shaRes rv sides l).lo, .int .i64 (shaRes rv sides l).hi], .int .i64 (shaRes rv sides l).pass, .int .i64 (shaRes rv sides l).hour, .int .i64 (shaErr rv sides l)], .agg #[.int .i64 (shaRes rv sides l).lo, .int .i64 (shaRes rv sides l).hi], .int .i64 (shaRes rv sides l).pass, .int .i64 (shaRes rv sides l).hour, .int .i64 (shaErr rv sides l), .pointer (some ⟨ga15_3, 0, none⟩), val 16, .int .i64 (shaRes rv sides l).pass, .int .i64 (shaRes rv sides l).hour]) ⟨e0, e1, rfl, e3, e4, rfl, rfl, e7, rfl, e9, e10, e11, e12, e13, e14, e15, rfl, e17, e18, trivial⟩ rfl ?_
            replace q1 := q1.below hb q1.lt
            have bge27 := alc_ge halc (i := 15) rfl rfl e15
            have n1_27 : g1 ≠ ga15_3 := Nat.ne_of_lt (Nat.lt_of_lt_of_le lt_1 bge27)
            have bhbw_27 := Nat.le_trans hbw.size bge27
            replace hbw := Below.on hbw hb hbw.size
            refine EL.val (x_assign rfl) rfl ?_
            refine EL.nil ?_
            refine EX.seq ?_
            refine EC.seq ?_
            refine EC.seq ?_
            refine EC.region ?_
            refine EL.val (x_move rfl) rfl ?_
            refine EL.val (x_neq rfl rfl (by first | assumption | exact decide_eq_true (by omega))) rfl ?_
            refine EL.nil ?_
            refine EX.seq ?_
            refine EC.yes rfl ?_
            refine EC.seq ?_
            refine EC.region ?_
            refine EL.val (x_move rfl) rfl ?_
            rcases passBad_vals (n := placesOf rv.reaches) (h := ((sides.getD 0 []).length : Nat)) (l := l) with h0 | h0 | h0
            ·
              exact absurd h0 hce
            ·
              refine EL.val (x_eql rfl rfl (by first | assumption | exact decide_eq_true (by omega))) rfl ?_
              refine EL.val (x_move rfl) rfl ?_
              refine EL.skip rfl rfl rfl rfl ?_
              refine EL.skip rfl rfl rfl rfl ?_
              refine EL.val (x_pick_t rfl rfl) rfl ?_
              refine EL.val (x_move rfl) rfl ?_
              refine EL.valg rfl rfl (x_move rfl) rfl ?_
              refine EL.valg rfl rfl (x_eql rfl rfl (by first | assumption | exact decide_eq_true (by omega))) rfl ?_
              refine EL.val (x_pick_t rfl rfl) rfl ?_
              refine EL.val (x_move rfl) rfl ?_
              refine EL.valg rfl rfl (x_move rfl) rfl ?_
              refine EL.valg rfl rfl (x_eql rfl rfl (by first | assumption | exact decide_eq_true (by omega))) rfl ?_
              refine EL.val (x_pick_t rfl rfl) rfl ?_
              refine EL.val (x_move rfl) rfl ?_
              refine EL.callg rfl rfl cl_16 rfl (known_any _) ?_
              rintro e w28 ⟨rfl, hc28⟩
              refine ⟨_, rfl, ?_⟩
              replace q1 := q1.below hc28 q1.lt
              replace qa15_3 := qa15_3.below hc28 qa15_3.lt
              replace hbw := Below.on hbw hc28 hbw.size
              clear hc28
              refine EL.val (x_pick_t rfl rfl) rfl ?_
              refine EL.val (x_assign rfl) rfl ?_
              refine EL.nil ?_
              refine EX.seq ?_
              refine EC.ret ?_
              refine EX.seq_ret ?_
              exact EX.done (res1 rfl rfl) ⟨rfl, hbw⟩
            ·
              refine EL.val (x_eql rfl rfl (by first | assumption | exact decide_eq_false (by omega))) rfl ?_
              refine EL.val (x_move rfl) rfl ?_
              refine EL.valg rfl rfl (x_move rfl) rfl ?_
              refine EL.valg rfl rfl (x_eql rfl rfl (by first | assumption | exact decide_eq_true (by omega))) rfl ?_
              refine EL.val (x_pick_f rfl rfl) rfl ?_
              refine EL.val (x_move rfl) rfl ?_
              refine EL.valg rfl rfl (x_move rfl) rfl ?_
              refine EL.valg rfl rfl (x_eql rfl rfl (by first | assumption | exact decide_eq_true (by omega))) rfl ?_
              refine EL.val (x_pick_t rfl rfl) rfl ?_
              refine EL.val (x_move rfl) rfl ?_
              refine EL.valg rfl rfl (x_move rfl) rfl ?_
              refine EL.valg rfl rfl (x_eql rfl rfl (by first | assumption | exact decide_eq_true (by omega))) rfl ?_
              refine EL.val (x_pick_t rfl rfl) rfl ?_
              refine EL.val (x_move rfl) rfl ?_
              refine EL.callg rfl rfl cl_16 rfl (known_any _) ?_
              rintro e w29 ⟨rfl, hc29⟩
              refine ⟨_, rfl, ?_⟩
              replace q1 := q1.below hc29 q1.lt
              replace qa15_3 := qa15_3.below hc29 qa15_3.lt
              replace hbw := Below.on hbw hc29 hbw.size
              clear hc29
              refine EL.val (x_pick_t rfl rfl) rfl ?_
              refine EL.val (x_assign rfl) rfl ?_
              refine EL.nil ?_
              refine EX.seq ?_
              refine EC.ret ?_
              refine EX.seq_ret ?_
              exact EX.done (res1 rfl rfl) ⟨rfl, hbw⟩
end Go.Proofs.Ytncnlhkmdljgpaa
