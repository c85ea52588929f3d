/- River: the reference's Of and Start (printed by gen_w12.py). -/
import Derived.Test.YtncnlhkmdljgpaaX0
import Derived.Test.YtncnlhkmdljgpaaV16
set_option linter.unusedVariables false
namespace Go.Proofs.Ytncnlhkmdljgpaa
open Go Go.RowKit

set_option maxRecDepth 100000 in
theorem rof_any (rv : River) (v u : Value) (vs : List Value) (p : Int) (w : World) (B : Nat) (hr : RdRiver w B v u rv vs) (hB : B ≤ w.heap.size) (h : RiverOk rv) (hp : 0 ≤ p ∧ p < placesOf rv.reaches) :
    Calls Try.prog 76 #[.agg #[v, u], .int .i64 p] w fun e w' => e = .returned (.int .i64 (reachOf rv.reaches p : Nat)) ∧ Below w.heap.size w w' := by
  obtain ⟨A, c, rfl, _⟩ := hr.reaches.shape
  obtain ⟨A', c', rfl, _⟩ := hr.shoals.shape
  have hp0 : p - placesOf (rv.reaches.take 0) = p := by show p - 0 = p; omega
  have hlen : ∀ x ∈ rv.reaches, 0 ≤ x.len := fun x hx => by
    obtain ⟨k, hk, e⟩ := List.getElem_of_mem hx
    have := (h.reach k hk).len
    rw [show rv.reaches.getD k reach0 = x by simp [hk, e]] at this
    omega
  have hbw := Below.refl w.heap.size w
  refine EC.enter 25 Try.func76 rfl rfl rfl ?_
  refine EC.seq ?_
  refine EC.region ?_
  refine EL.newP (bx_47 rfl) rfl ?_
  intro g1 w1 q1 hb1 hg1 hl1
  have bhbw_1 := Nat.le_trans hbw.size hg1
  replace hbw := Below.on hbw hb1 hbw.size
  clear hb1 hg1 hl1
  refine EL.val (x_assign rfl) rfl ?_
  refine EL.nil ?_
  refine EX.seq ?_
  refine EC.seq ?_
  refine EC.region ?_
  refine EL.val (x_assign rfl) rfl ?_
  refine EL.nil ?_
  refine EX.seq ?_
  refine EC.seq ?_
  refine EC.block ?_
  refine EC.loopD [1, 5, 6, 7, 8, 9, 10, 11, 12, 13, 14, 15, 16, 17, 18, 19, 20, 21, 22, 23] (fun x : Nat => [(1, .int .i64 (p - placesOf (rv.reaches.take x))), (5, .int .i64 (x : Nat))]) (fun x W => x < rv.reaches.length ∧ placesOf (rv.reaches.take x) ≤ p ∧ 0 ≤ placesOf (rv.reaches.take x) ∧ Blk W g1 47 #[.slice A rv.reaches.length c, .slice A' rv.shoals.length c'] ∧ Below w.heap.size w W) (fun x => rv.reaches.length - x) 0 ⟨h.some.1, hp.1, Int.le_refl _, q1, hbw⟩ ⟨by show some _ = some _; rw [hp0], rfl, trivial⟩ ?_
  clear q1 hbw
  rintro i wr ⟨hi, hle, hnn, q1, hbw⟩
  obtain ⟨b, o, rfl, _, cc⟩ := reaches_cells hr.reaches i hi
  have hsc := placesOf_succ hi
  have hln := (h.reach i hi).len
  have hp2 := h.places
  have hsome := h.some
  obtain ⟨x, ex⟩ : ∃ x, x = rv.reaches.getD i reach0 := ⟨_, rfl⟩
  rw [← ex] at cc hsc hln
  obtain ⟨P, eP⟩ : ∃ P, P = placesOf (rv.reaches.take i) := ⟨_, rfl⟩
  rw [← eP] at hle hnn hsc ⊢
  have hsub : IntKind.i64.wrap (p - P - x.len) = p - placesOf (rv.reaches.take (i + 1)) := (IntWalk.i64_in _ ⟨by omega, by omega⟩).trans (by omega)
  by_cases hge : x.len ≤ p - P
  ·
    have hne : i + 1 < rv.reaches.length := by
      rcases Nat.lt_or_ge (i + 1) rv.reaches.length with h1 | h1
      · exact h1
      · have e1 : rv.reaches.take (i + 1) = rv.reaches := List.take_of_length_le h1
        rw [e1] at hsc
        omega
    refine EC.seq ?_
    refine EC.seq ?_
    refine EC.region ?_
    refine EL.val (x_move rfl) rfl ?_
    refine EL.val (fa_47_0 rfl) rfl ?_
    refine EL.val (ld_44 rfl (q1.at (j := 0) rfl)) rfl ?_
    refine EL.val (x_move rfl) rfl ?_
    refine EL.val (ix_44 rfl rfl hi) rfl ?_
    refine EL.val (fa_50_0 rfl) rfl ?_
    refine EL.val (ld_3 rfl (below_load hbw cc.c0)) rfl ?_
    refine EL.val (x_geq rfl rfl (by first | assumption | exact decide_eq_true (by omega))) rfl ?_
    refine EL.nil ?_
    refine EX.seq ?_
    refine EC.yes rfl ?_
    refine EC.skip ?_
    refine EX.seq ?_
    refine EC.block ?_
    refine EC.seq ?_
    refine EC.region ?_
    refine EL.val (x_move rfl) rfl ?_
    refine EL.val (fa_47_0 rfl) rfl ?_
    refine EL.val (ld_44 rfl (q1.at (j := 0) rfl)) rfl ?_
    refine EL.val (x_move rfl) rfl ?_
    refine EL.val (ix_44 rfl rfl hi) rfl ?_
    refine EL.val (fa_50_0 rfl) rfl ?_
    refine EL.val (ld_3 rfl (below_load hbw cc.c0)) rfl ?_
    refine EL.val (x_sub rfl rfl hsub) rfl ?_
    refine EL.val (x_assign rfl) rfl ?_
    refine EL.nil ?_
    refine EX.seq ?_
    refine EC.region ?_
    refine EL.val (x_move rfl) rfl ?_
    refine EL.val (x_add rfl rfl (by first | assumption | exact IntWalk.i64_in _ ⟨by omega, by omega⟩)) rfl ?_
    refine EL.val (x_assign rfl) rfl ?_
    refine EL.nil ?_
    refine EX.blk ?_
    refine EX.roundD (i + 1) ⟨rfl, rfl, trivial⟩ (by repeat first | exact Sub.refl _ | refine sub_past rfl ?_ | refine sub_del rfl ?_ | refine sub_insL_nil ?_) ⟨hne, by omega, by omega, q1, hbw⟩ (by omega)
  ·
    refine EC.seq ?_
    refine EC.seq ?_
    refine EC.region ?_
    refine EL.val (x_move rfl) rfl ?_
    refine EL.val (fa_47_0 rfl) rfl ?_
    refine EL.val (ld_44 rfl (q1.at (j := 0) rfl)) rfl ?_
    refine EL.val (x_move rfl) rfl ?_
    refine EL.val (ix_44 rfl rfl hi) rfl ?_
    refine EL.val (fa_50_0 rfl) rfl ?_
    refine EL.val (ld_3 rfl (below_load hbw cc.c0)) rfl ?_
    refine EL.val (x_geq rfl rfl (by first | assumption | exact decide_eq_false (by omega))) rfl ?_
    refine EL.nil ?_
    refine EX.seq ?_
    refine EC.no rfl ?_
    refine EC.exit ?_
    refine EX.seq_exit ?_
    refine EX.seq_exit ?_
    refine EX.blk_here ?_
    refine EX.seq ?_
    refine EC.seq ?_
    refine EC.region ?_
    refine EL.val (x_move rfl) rfl ?_
    refine EL.val (x_assign rfl) rfl ?_
    refine EL.nil ?_
    refine EX.seq ?_
    refine EC.ret ?_
    exact EX.done (res1 rfl rfl) ⟨by rw [reachOf_eq rv.reaches p i hlen hi (by rw [← eP]; exact hle) (by omega)], hbw⟩

section
variable {rv : River} {sides : List (List Bd)}
theorem start2 (h : riverB rv = false) : startErr rv sides = 2 := by unfold startErr; rw [if_pos h]
theorem start4 (h : riverB rv = true) (h1 : sides.length ≠ rv.reaches.length ∨ (sides.getD 0 []).length = 0) : startErr rv sides = 4 := by rw [side_err h, if_pos h1]
theorem start4' (h : riverB rv = true) (h1 : ¬(sides.length ≠ rv.reaches.length ∨ (sides.getD 0 []).length = 0)) {i : Nat} (hi : i < sides.length) (hne : (sides.getD i []).length ≠ (sides.getD 0 []).length) : startErr rv sides = 4 := by
  have e : (sides.all fun l => decide (l.length = (sides.getD 0 []).length)) = false := Bool.eq_false_iff.2 fun ha => hne (of_decide_eq_true (List.all_eq_true.1 ha _ (getD_mem (d := []) hi)))
  rw [side_err h, if_neg h1, if_pos e]
theorem all_getD {α : Type} {l : List α} {d : α} {p : α → Bool} (h : ∀ i, i < l.length → p (l.getD i d) = true) : l.all p = true := List.all_eq_true.2 fun x hx => by
  obtain ⟨k, hk, e⟩ := List.getElem_of_mem hx
  have := h k hk
  rwa [show l.getD k d = x by simp [hk, e]] at this
theorem start5 (h : riverB rv = true) (h1 : ¬(sides.length ≠ rv.reaches.length ∨ (sides.getD 0 []).length = 0)) (h2 : ∀ i, i < sides.length → (sides.getD i []).length = (sides.getD 0 []).length) (h3 : 400 < (sides.getD 0 []).length) : startErr rv sides = 5 := by
  have e : (sides.all fun l => decide (l.length = (sides.getD 0 []).length)) = true := all_getD (d := []) fun i hi => decide_eq_true (h2 i hi)
  rw [side_err h, if_neg h1, if_neg (by rw [e]; simp), if_pos h3]
theorem start2' (h : riverB rv = true) (h1 : ¬(sides.length ≠ rv.reaches.length ∨ (sides.getD 0 []).length = 0)) (h2 : ∀ i, i < sides.length → (sides.getD i []).length = (sides.getD 0 []).length) (h3 : ¬400 < (sides.getD 0 []).length) {i k : Nat} (hi : i < sides.length) (hk : k < (sides.getD i []).length) (hne : bdOk 0 10000000000 ((sides.getD i []).getD k bd0) = false) : startErr rv sides = 2 := by
  have e : (sides.all fun l => decide (l.length = (sides.getD 0 []).length)) = true := all_getD (d := []) fun i hi => decide_eq_true (h2 i hi)
  rw [side_err h, if_neg h1, if_neg (by rw [e]; simp), if_neg h3, if_pos (Bool.eq_false_iff.2 fun ha => by
    have h4 := List.all_eq_true.1 (List.all_eq_true.1 ha _ (getD_mem (d := []) hi)) _ (getD_mem (d := bd0) hk)
    rw [hne] at h4
    cases h4)]
theorem start0 (h : riverB rv = true) (h1 : ¬(sides.length ≠ rv.reaches.length ∨ (sides.getD 0 []).length = 0)) (h2 : ∀ i, i < sides.length → (sides.getD i []).length = (sides.getD 0 []).length) (h3 : ¬400 < (sides.getD 0 []).length) (h4 : ∀ i, i < sides.length → ∀ k, k < (sides.getD i []).length → bdOk 0 10000000000 ((sides.getD i []).getD k bd0) = true) : startErr rv sides = 0 := by
  have e : (sides.all fun l => decide (l.length = (sides.getD 0 []).length)) = true := all_getD (d := []) fun i hi => decide_eq_true (h2 i hi)
  have e2 : (sides.all fun l => l.all (bdOk 0 10000000000)) = true := all_getD (d := []) fun i hi => all_getD (d := bd0) (h4 i hi)
  rw [side_err h, if_neg h1, if_neg (by rw [e]; simp), if_neg h3, if_neg (by rw [e2]; simp)]
end

set_option maxRecDepth 100000 in
theorem rstart_any (rv : River) (sides : List (List Bd)) (v u s : Value) (vs ss : List Value) (w : World) (B : Nat) (hr : RdRiver w B v u rv vs) (hs : RdSides w B s sides ss) (hB : B ≤ w.heap.size)
    (hl : rv.reaches.length ≤ 1048576) (hl2 : rv.shoals.length ≤ 1048576) (hcv : CurvesB rv.reaches) (hl3 : sides.length ≤ 1048576) (hsb : SidesB sides) :
    Calls Try.prog 38 #[.agg #[v, u], s] w fun e w' => e = .returned (.int .i64 (startErr rv sides)) ∧ Below w.heap.size w w' := by
  obtain ⟨A, c, rfl, _⟩ := hr.reaches.shape
  obtain ⟨A', c', rfl, _⟩ := hr.shoals.shape
  obtain ⟨D, d, rfl, _⟩ := hs.rd.shape
  have hbw := Below.refl w.heap.size w
  refine EC.enter 69 Try.func38 rfl rfl rfl ?_
  cases hok : riverB rv
  ·
    refine EC.seq ?_
    refine EC.region ?_
    refine EL.newP (bx_47 rfl) rfl ?_
    intro g1 w1 q1 hb1 hg1 hl1
    have bhbw_1 := Nat.le_trans hbw.size hg1
    replace hbw := Below.on hbw hb1 hbw.size
    clear hb1 hg1 hl1
    refine EL.val (x_assign rfl) rfl ?_
    refine EL.nil ?_
    refine EX.seq ?_
    refine EC.seq ?_
    refine EC.seq ?_
    refine EC.region ?_
    refine EL.val (ld_47 rfl (q1.at (j := 0) rfl) (q1.at (j := 1) rfl)) rfl ?_
    refine EL.call (cl_26 rfl) rfl (by have key := rriver_any rv _ _ vs w1 B (hr.below (hbw.mono hB)) (Nat.le_trans hB hbw.size) hl hl2 hcv; rw [hok] at key; exact key) ?_
    rintro e w2 ⟨rfl, hc2⟩
    refine ⟨_, rfl, ?_⟩
    replace q1 := q1.below hc2 q1.lt
    replace hbw := Below.on hbw hc2 hbw.size
    clear hc2
    refine EL.val (x_not rfl) rfl ?_
    refine EL.nil ?_
    refine EX.seq ?_
    refine EC.yes rfl ?_
    refine EC.seq ?_
    refine EC.region ?_
    refine EL.val (x_assign rfl) rfl ?_
    refine EL.nil ?_
    refine EX.seq ?_
    refine EC.ret ?_
    refine EX.seq_ret ?_
    exact EX.done (res1 rfl rfl) ⟨by rw [start2 hok], hbw⟩
  ·
    have hR := riverB_ok hok
    have hsome := hR.some
    by_cases h1 : sides.length = rv.reaches.length
    ·
      have h0 : 0 < sides.length := by omega
      obtain ⟨b, o, rfl, _, d0⟩ := sides_cell hs 0 h0
      have s0 := hs.side 0 h0
      obtain ⟨As0, cs0, es0, _⟩ := s0.shape
      rw [es0] at d0 s0
      by_cases h00 : (sides.getD 0 []).length = 0
      ·
        refine EC.seq ?_
        refine EC.region ?_
        refine EL.newP (bx_47 rfl) rfl ?_
        intro g3 w3 q3 hb3 hg3 hl3
        have bhbw_3 := Nat.le_trans hbw.size hg3
        replace hbw := Below.on hbw hb3 hbw.size
        clear hb3 hg3 hl3
        refine EL.val (x_assign rfl) rfl ?_
        refine EL.nil ?_
        refine EX.seq ?_
        refine EC.seq ?_
        refine EC.seq ?_
        refine EC.region ?_
        refine EL.val (ld_47 rfl (q3.at (j := 0) rfl) (q3.at (j := 1) rfl)) rfl ?_
        refine EL.call (cl_26 rfl) rfl (by have key := rriver_any rv _ _ vs w3 B (hr.below (hbw.mono hB)) (Nat.le_trans hB hbw.size) hl hl2 hcv; rw [hok] at key; exact key) ?_
        rintro e w4 ⟨rfl, hc4⟩
        refine ⟨_, rfl, ?_⟩
        replace q3 := q3.below hc4 q3.lt
        replace hbw := Below.on hbw hc4 hbw.size
        clear hc4
        refine EL.val (x_not rfl) rfl ?_
        refine EL.nil ?_
        refine EX.seq ?_
        refine EC.no rfl ?_
        refine EC.skip ?_
        refine EX.seq ?_
        refine EC.seq ?_
        refine EC.seq ?_
        refine EC.region ?_
        refine EL.val (x_move rfl) rfl ?_
        refine EL.val (ln_52 rfl) rfl ?_
        refine EL.val (fa_47_0 rfl) rfl ?_
        refine EL.val (ld_44 rfl (q3.at (j := 0) rfl)) rfl ?_
        refine EL.val (ln_44 rfl) rfl ?_
        refine EL.val (x_neq rfl rfl (by first | assumption | exact decide_eq_false (by omega))) rfl ?_
        refine EL.val (x_move rfl) rfl ?_
        refine EL.valg rfl rfl (x_move rfl) rfl ?_
        refine EL.valg rfl rfl (ix_52 (k := 0) rfl rfl h0) rfl ?_
        refine EL.valg rfl rfl (ld_28 rfl (below_load hbw d0)) rfl ?_
        refine EL.valg rfl rfl (ln_28 rfl) rfl ?_
        refine EL.valg rfl rfl (x_eql rfl rfl (by first | assumption | exact decide_eq_true (by omega))) rfl ?_
        refine EL.val (x_pick_f rfl rfl) rfl ?_
        refine EL.nil ?_
        refine EX.seq ?_
        refine EC.yes rfl ?_
        refine EC.seq ?_
        refine EC.region ?_
        refine EL.val (x_assign rfl) rfl ?_
        refine EL.nil ?_
        refine EX.seq ?_
        refine EC.ret ?_
        refine EX.seq_ret ?_
        exact EX.done (res1 rfl rfl) ⟨by rw [start4 hok (Or.inr h00)], hbw⟩
      ·
        have hn1 : ¬(sides.length ≠ rv.reaches.length ∨ (sides.getD 0 []).length = 0) := by omega
        refine EC.seq ?_
        refine EC.region ?_
        refine EL.newP (bx_47 rfl) rfl ?_
        intro g5 w5 q5 hb5 hg5 hl5
        have bhbw_5 := Nat.le_trans hbw.size hg5
        replace hbw := Below.on hbw hb5 hbw.size
        clear hb5 hg5 hl5
        refine EL.val (x_assign rfl) rfl ?_
        refine EL.nil ?_
        refine EX.seq ?_
        refine EC.seq ?_
        refine EC.seq ?_
        refine EC.region ?_
        refine EL.val (ld_47 rfl (q5.at (j := 0) rfl) (q5.at (j := 1) rfl)) rfl ?_
        refine EL.call (cl_26 rfl) rfl (by have key := rriver_any rv _ _ vs w5 B (hr.below (hbw.mono hB)) (Nat.le_trans hB hbw.size) hl hl2 hcv; rw [hok] at key; exact key) ?_
        rintro e w6 ⟨rfl, hc6⟩
        refine ⟨_, rfl, ?_⟩
        replace q5 := q5.below hc6 q5.lt
        replace hbw := Below.on hbw hc6 hbw.size
        clear hc6
        refine EL.val (x_not rfl) rfl ?_
        refine EL.nil ?_
        refine EX.seq ?_
        refine EC.no rfl ?_
        refine EC.skip ?_
        refine EX.seq ?_
        refine EC.seq ?_
        refine EC.seq ?_
        refine EC.region ?_
        refine EL.val (x_move rfl) rfl ?_
        refine EL.val (ln_52 rfl) rfl ?_
        refine EL.val (fa_47_0 rfl) rfl ?_
        refine EL.val (ld_44 rfl (q5.at (j := 0) rfl)) rfl ?_
        refine EL.val (ln_44 rfl) rfl ?_
        refine EL.val (x_neq rfl rfl (by first | assumption | exact decide_eq_false (by omega))) rfl ?_
        refine EL.val (x_move rfl) rfl ?_
        refine EL.valg rfl rfl (x_move rfl) rfl ?_
        refine EL.valg rfl rfl (ix_52 (k := 0) rfl rfl h0) rfl ?_
        refine EL.valg rfl rfl (ld_28 rfl (below_load hbw d0)) rfl ?_
        refine EL.valg rfl rfl (ln_28 rfl) rfl ?_
        refine EL.valg rfl rfl (x_eql rfl rfl (by first | assumption | exact decide_eq_false (by omega))) rfl ?_
        refine EL.val (x_pick_f rfl rfl) rfl ?_
        refine EL.nil ?_
        refine EX.seq ?_
        refine EC.no rfl ?_
        refine EC.skip ?_
        refine EX.seq ?_
        refine EC.seq ?_
        refine EC.seq ?_
        refine EC.region ?_
        refine EL.val (x_assign rfl) rfl ?_
        refine EL.nil ?_
        refine EX.seq ?_
        refine EC.block ?_
        refine EC.loopD [4, 5, 24, 25, 26, 27, 28, 29, 30, 31, 32, 33, 34, 35, 36, 37, 38, 39] (fun x : Nat => [(5, .int .i64 (x : Nat))]) (fun x W => x ≤ sides.length ∧ (∀ j, j < x → (sides.getD j []).length = (sides.getD 0 []).length) ∧ Below w.heap.size w W) (fun x => sides.length - x) 0 ⟨Nat.zero_le _, fun j hj => absurd hj (Nat.not_lt_zero _), hbw⟩ ⟨rfl, trivial⟩ ?_
        clear hbw
        rintro i wr ⟨hil, hsm, hbw⟩
        by_cases hi : i < sides.length
        ·
          obtain ⟨b_, o_, e_, _, di⟩ := sides_cell hs (i) hi
          injection e_ with e_
          injection e_ with e1_ e2_
          subst e1_ e2_
          have si := hs.side (i) hi
          obtain ⟨Asi, csi, esi, _⟩ := si.shape
          rw [esi] at di si
          by_cases hne : (sides.getD i []).length = (sides.getD 0 []).length
          ·
            refine EC.seq ?_
            refine EC.seq ?_
            refine EC.region ?_
            refine EL.val (x_move rfl) rfl ?_
            refine EL.val (x_move rfl) rfl ?_
            refine EL.val (ln_52 rfl) rfl ?_
            refine EL.val (x_lss rfl rfl (by first | assumption | exact decide_eq_true (by omega))) rfl ?_
            refine EL.nil ?_
            refine EX.seq ?_
            refine EC.yes rfl ?_
            refine EC.skip ?_
            refine EX.seq ?_
            refine EC.seq ?_
            refine EC.block ?_
            refine EC.seq ?_
            refine EC.regionQ (by kernel_rfl) (by kernel_rfl) ?_
            refine EQ.val (fun _ hw => (x_move rfl)) rfl ?_
            refine EQ.val (fun _ hw => (x_move rfl)) rfl ?_
            refine EQ.val (fun _ hw => (ix_52 (k := i) rfl rfl hi)) rfl ?_
            refine EQ.val (fun _ hw => (ld_28 rfl (below_load hw (below_load hbw di)))) rfl ?_
            refine EQ.val (fun _ hw => (ln_28 rfl)) rfl ?_
            refine EQ.val (fun _ hw => (x_move rfl)) rfl ?_
            refine EQ.val (fun _ hw => (ix_52 (k := 0) rfl rfl h0)) rfl ?_
            refine EQ.val (fun _ hw => (ld_28 rfl (below_load hw (below_load hbw d0)))) rfl ?_
            refine EQ.val (fun _ hw => (ln_28 rfl)) rfl ?_
            refine EQ.val (fun _ hw => (x_neq rfl rfl (by first | assumption | exact decide_eq_false (by omega)))) rfl ?_
            refine EQ.fin (fun w_ hw_ => ?_)
            replace hbw := Below.on hbw hw_ hbw.size
            refine EX.seq ?_
            refine EC.no rfl ?_
            refine EC.skip ?_
            refine EX.blk ?_
            refine EX.seq ?_
            refine EC.region ?_
            refine EL.val (x_move rfl) rfl ?_
            refine EL.val (x_add rfl rfl (by first | assumption | exact IntWalk.i64_in _ ⟨by omega, by omega⟩)) rfl ?_
            refine EL.val (x_assign rfl) rfl ?_
            refine EL.nil ?_
            refine EX.roundD (i + 1) ⟨rfl, trivial⟩ (by repeat first | exact Sub.refl _ | refine sub_past rfl ?_ | refine sub_del rfl ?_ | refine sub_insL_nil ?_) ⟨hi, fun j hj => (Nat.lt_succ_iff_lt_or_eq.1 hj).elim (hsm j) (fun e => by subst e; exact hne), hbw⟩ (by omega)
          ·
            refine EC.seq ?_
            refine EC.seq ?_
            refine EC.region ?_
            refine EL.val (x_move rfl) rfl ?_
            refine EL.val (x_move rfl) rfl ?_
            refine EL.val (ln_52 rfl) rfl ?_
            refine EL.val (x_lss rfl rfl (by first | assumption | exact decide_eq_true (by omega))) rfl ?_
            refine EL.nil ?_
            refine EX.seq ?_
            refine EC.yes rfl ?_
            refine EC.skip ?_
            refine EX.seq ?_
            refine EC.seq ?_
            refine EC.block ?_
            refine EC.seq ?_
            refine EC.regionQ (by kernel_rfl) (by kernel_rfl) ?_
            refine EQ.val (fun _ hw => (x_move rfl)) rfl ?_
            refine EQ.val (fun _ hw => (x_move rfl)) rfl ?_
            refine EQ.val (fun _ hw => (ix_52 (k := i) rfl rfl hi)) rfl ?_
            refine EQ.val (fun _ hw => (ld_28 rfl (below_load hw (below_load hbw di)))) rfl ?_
            refine EQ.val (fun _ hw => (ln_28 rfl)) rfl ?_
            refine EQ.val (fun _ hw => (x_move rfl)) rfl ?_
            refine EQ.val (fun _ hw => (ix_52 (k := 0) rfl rfl h0)) rfl ?_
            refine EQ.val (fun _ hw => (ld_28 rfl (below_load hw (below_load hbw d0)))) rfl ?_
            refine EQ.val (fun _ hw => (ln_28 rfl)) rfl ?_
            refine EQ.val (fun _ hw => (x_neq rfl rfl (by first | assumption | exact decide_eq_true (by omega)))) rfl ?_
            refine EQ.fin (fun w_ hw_ => ?_)
            replace hbw := Below.on hbw hw_ hbw.size
            refine EX.seq ?_
            refine EC.yes rfl ?_
            refine EC.seq ?_
            refine EC.region ?_
            refine EL.val (x_assign rfl) rfl ?_
            refine EL.nil ?_
            refine EX.seq ?_
            refine EC.ret ?_
            refine EX.blk_ret ?_
            refine EX.seq_ret ?_
            refine EX.seq_ret ?_
            refine EX.blk_ret ?_
            refine EX.seq_ret ?_
            exact EX.done (res1 rfl rfl) ⟨by rw [start4' hok hn1 hi hne], hbw⟩
        ·
          obtain rfl : i = sides.length := by omega
          clear hi hil
          by_cases h5 : 400 < (sides.getD 0 []).length
          ·
            refine EC.seq ?_
            refine EC.seq ?_
            refine EC.region ?_
            refine EL.val (x_move rfl) rfl ?_
            refine EL.val (x_move rfl) rfl ?_
            refine EL.val (ln_52 rfl) rfl ?_
            refine EL.val (x_lss rfl rfl (by first | assumption | exact decide_eq_false (by omega))) rfl ?_
            refine EL.nil ?_
            refine EX.seq ?_
            refine EC.no rfl ?_
            refine EC.exit ?_
            refine EX.seq_exit ?_
            refine EX.seq_exit ?_
            refine EX.blk_here ?_
            refine EX.seq ?_
            refine EC.seq ?_
            refine EC.seq ?_
            refine EC.region ?_
            refine EL.val (x_move rfl) rfl ?_
            refine EL.val (ix_52 (k := 0) rfl rfl h0) rfl ?_
            refine EL.val (ld_28 rfl (below_load hbw d0)) rfl ?_
            refine EL.val (ln_28 rfl) rfl ?_
            refine EL.val (x_gtr rfl rfl (by first | assumption | exact decide_eq_true (by omega))) rfl ?_
            refine EL.nil ?_
            refine EX.seq ?_
            refine EC.yes rfl ?_
            refine EC.seq ?_
            refine EC.region ?_
            refine EL.val (x_assign rfl) rfl ?_
            refine EL.nil ?_
            refine EX.seq ?_
            refine EC.ret ?_
            refine EX.seq_ret ?_
            exact EX.done (res1 rfl rfl) ⟨by rw [start5 hok hn1 hsm h5], hbw⟩
          ·
            refine EC.seq ?_
            refine EC.seq ?_
            refine EC.region ?_
            refine EL.val (x_move rfl) rfl ?_
            refine EL.val (x_move rfl) rfl ?_
            refine EL.val (ln_52 rfl) rfl ?_
            refine EL.val (x_lss rfl rfl (by first | assumption | exact decide_eq_false (by omega))) rfl ?_
            refine EL.nil ?_
            refine EX.seq ?_
            refine EC.no rfl ?_
            refine EC.exit ?_
            refine EX.seq_exit ?_
            refine EX.seq_exit ?_
            refine EX.blk_here ?_
            refine EX.seq ?_
            refine EC.seq ?_
            refine EC.seq ?_
            refine EC.region ?_
            refine EL.val (x_move rfl) rfl ?_
            refine EL.val (ix_52 (k := 0) rfl rfl h0) rfl ?_
            refine EL.val (ld_28 rfl (below_load hbw d0)) rfl ?_
            refine EL.val (ln_28 rfl) rfl ?_
            refine EL.val (x_gtr rfl rfl (by first | assumption | exact decide_eq_false (by omega))) rfl ?_
            refine EL.nil ?_
            refine EX.seq ?_
            refine EC.no rfl ?_
            refine EC.skip ?_
            refine EX.seq ?_
            refine EC.seq ?_
            refine EC.seq ?_
            refine EC.region ?_
            refine EL.val (x_assign rfl) rfl ?_
            refine EL.nil ?_
            refine EX.seq ?_
            refine EC.block ?_
            refine EC.loopD [4, 6, 7, 45, 46, 47, 48, 49, 50, 51, 52, 53, 54, 55, 56, 57, 58, 59, 60, 61, 62, 63, 64, 65, 66, 67, 68] (fun x : Nat => [(6, .int .i64 (x : Nat))]) (fun x W => x ≤ sides.length ∧ (∀ j, j < x → ∀ k, k < (sides.getD j []).length → bdOk 0 10000000000 ((sides.getD j []).getD k bd0) = true) ∧ Below w.heap.size w W) (fun x => sides.length - x) 0 ⟨Nat.zero_le _, fun j hj => absurd hj (Nat.not_lt_zero _), hbw⟩ ⟨rfl, trivial⟩ ?_
            clear hbw
            rintro i wr2 ⟨hil, hal, hbw⟩
            by_cases hi : i < sides.length
            ·
              obtain ⟨b_, o_, e_, _, di⟩ := sides_cell hs (i) hi
              injection e_ with e_
              injection e_ with e1_ e2_
              subst e1_ e2_
              have si := hs.side (i) hi
              obtain ⟨Asi, csi, esi, _⟩ := si.shape
              rw [esi] at di si
              refine EC.seq ?_
              refine EC.seq ?_
              refine EC.region ?_
              refine EL.val (x_move rfl) rfl ?_
              refine EL.val (x_move rfl) rfl ?_
              refine EL.val (ln_52 rfl) rfl ?_
              refine EL.val (x_lss rfl rfl (by first | assumption | exact decide_eq_true (by omega))) rfl ?_
              refine EL.nil ?_
              refine EX.seq ?_
              refine EC.yes rfl ?_
              refine EC.skip ?_
              refine EX.seq ?_
              refine EC.seq ?_
              refine EC.block ?_
              refine EC.seq ?_
              refine EC.region ?_
              refine EL.val (x_assign rfl) rfl ?_
              refine EL.nil ?_
              refine EX.seq ?_
              refine EC.block ?_
              refine EC.loopD [4, 7, 51, 52, 53, 54, 55, 56, 57, 58, 59, 60, 61, 62, 63, 64, 65, 66, 67, 68] (fun x : Nat => [(7, .int .i64 (x : Nat))]) (fun x W => x ≤ (sides.getD i []).length ∧ (∀ k, k < x → bdOk 0 10000000000 ((sides.getD i []).getD k bd0) = true) ∧ Below w.heap.size w W) (fun x => (sides.getD i []).length - x) 0 ⟨Nat.zero_le _, fun j hj => absurd hj (Nat.not_lt_zero _), hbw⟩ ⟨rfl, trivial⟩ ?_
              clear hbw
              rintro k wr3 ⟨hkl, hak, hbw⟩
              have hsmi := hsm i hi
              by_cases hk : k < (sides.getD i []).length
              ·
                obtain ⟨b3, o3, e3, _, g0, g1⟩ := bds_cells _ k hk _ _ _ _ _ si
                subst e3
                cases hv : bdOk 0 10000000000 ((sides.getD i []).getD k bd0)
                ·
                  refine EC.seq ?_
                  refine EC.seq ?_
                  refine EC.region ?_
                  refine EL.val (x_move rfl) rfl ?_
                  refine EL.val (x_move rfl) rfl ?_
                  refine EL.val (x_move rfl) rfl ?_
                  refine EL.val (ix_52 (k := i) rfl rfl hi) rfl ?_
                  refine EL.val (ld_28 rfl (below_load hbw di)) rfl ?_
                  refine EL.val (ln_28 rfl) rfl ?_
                  refine EL.val (x_lss rfl rfl (by first | assumption | exact decide_eq_true (by omega))) rfl ?_
                  refine EL.nil ?_
                  refine EX.seq ?_
                  refine EC.yes rfl ?_
                  refine EC.skip ?_
                  refine EX.seq ?_
                  refine EC.seq ?_
                  refine EC.block ?_
                  refine EC.seq ?_
                  refine EC.region ?_
                  refine EL.val (x_move rfl) rfl ?_
                  refine EL.val (x_move rfl) rfl ?_
                  refine EL.val (ix_52 (k := i) rfl rfl hi) rfl ?_
                  refine EL.val (ld_28 rfl (below_load hbw di)) rfl ?_
                  refine EL.val (x_move rfl) rfl ?_
                  refine EL.val (ix_28 (k := k) rfl rfl hk) rfl ?_
                  refine EL.val (ld_23 rfl (below_load hbw g0) (below_load hbw g1)) rfl ?_
                  refine EL.call (cl_30 rfl rfl rfl) rfl (by have key := rvalid_any ((sides.getD i []).getD k bd0) 0 10000000000 wr3; rw [hv] at key; exact key) ?_
                  rintro e w7 ⟨rfl, hc7⟩
                  refine ⟨_, rfl, ?_⟩
                  replace hbw := Below.on hbw hc7 hbw.size
                  clear hc7
                  refine EL.val (x_not rfl) rfl ?_
                  refine EL.nil ?_
                  refine EX.seq ?_
                  refine EC.yes rfl ?_
                  refine EC.seq ?_
                  refine EC.region ?_
                  refine EL.val (x_assign rfl) rfl ?_
                  refine EL.nil ?_
                  refine EX.seq ?_
                  refine EC.ret ?_
                  refine EX.blk_ret ?_
                  refine EX.seq_ret ?_
                  refine EX.seq_ret ?_
                  refine EX.blk_ret ?_
                  refine EX.blk_ret ?_
                  refine EX.seq_ret ?_
                  refine EX.seq_ret ?_
                  refine EX.blk_ret ?_
                  refine EX.seq_ret ?_
                  exact EX.done (res1 rfl rfl) ⟨by rw [start2' hok hn1 hsm h5 hi hk hv], hbw⟩
                ·
                  refine EC.seq ?_
                  refine EC.seq ?_
                  refine EC.region ?_
                  refine EL.val (x_move rfl) rfl ?_
                  refine EL.val (x_move rfl) rfl ?_
                  refine EL.val (x_move rfl) rfl ?_
                  refine EL.val (ix_52 (k := i) rfl rfl hi) rfl ?_
                  refine EL.val (ld_28 rfl (below_load hbw di)) rfl ?_
                  refine EL.val (ln_28 rfl) rfl ?_
                  refine EL.val (x_lss rfl rfl (by first | assumption | exact decide_eq_true (by omega))) rfl ?_
                  refine EL.nil ?_
                  refine EX.seq ?_
                  refine EC.yes rfl ?_
                  refine EC.skip ?_
                  refine EX.seq ?_
                  refine EC.seq ?_
                  refine EC.block ?_
                  refine EC.seq ?_
                  refine EC.region ?_
                  refine EL.val (x_move rfl) rfl ?_
                  refine EL.val (x_move rfl) rfl ?_
                  refine EL.val (ix_52 (k := i) rfl rfl hi) rfl ?_
                  refine EL.val (ld_28 rfl (below_load hbw di)) rfl ?_
                  refine EL.val (x_move rfl) rfl ?_
                  refine EL.val (ix_28 (k := k) rfl rfl hk) rfl ?_
                  refine EL.val (ld_23 rfl (below_load hbw g0) (below_load hbw g1)) rfl ?_
                  refine EL.call (cl_30 rfl rfl rfl) rfl (by have key := rvalid_any ((sides.getD i []).getD k bd0) 0 10000000000 wr3; rw [hv] at key; exact key) ?_
                  rintro e w8 ⟨rfl, hc8⟩
                  refine ⟨_, rfl, ?_⟩
                  replace hbw := Below.on hbw hc8 hbw.size
                  clear hc8
                  refine EL.val (x_not rfl) rfl ?_
                  refine EL.nil ?_
                  refine EX.seq ?_
                  refine EC.no rfl ?_
                  refine EC.skip ?_
                  refine EX.blk ?_
                  refine EX.seq ?_
                  refine EC.region ?_
                  refine EL.val (x_move rfl) rfl ?_
                  refine EL.val (x_add rfl rfl (by first | assumption | exact IntWalk.i64_in _ ⟨by omega, by omega⟩)) rfl ?_
                  refine EL.val (x_assign rfl) rfl ?_
                  refine EL.nil ?_
                  refine EX.roundD (k + 1) ⟨rfl, trivial⟩ (by repeat first | exact Sub.refl _ | refine sub_past rfl ?_ | refine sub_del rfl ?_ | refine sub_insL_nil ?_) ⟨hk, fun j hj => (Nat.lt_succ_iff_lt_or_eq.1 hj).elim (hak j) (fun e => by subst e; exact hv), hbw⟩ (by omega)
              ·
                obtain rfl : k = (sides.getD i []).length := by omega
                refine EC.seq ?_
                refine EC.seq ?_
                refine EC.region ?_
                refine EL.val (x_move rfl) rfl ?_
                refine EL.val (x_move rfl) rfl ?_
                refine EL.val (x_move rfl) rfl ?_
                refine EL.val (ix_52 (k := i) rfl rfl hi) rfl ?_
                refine EL.val (ld_28 rfl (below_load hbw di)) rfl ?_
                refine EL.val (ln_28 rfl) rfl ?_
                refine EL.val (x_lss rfl rfl (by first | assumption | exact decide_eq_false (by omega))) rfl ?_
                refine EL.nil ?_
                refine EX.seq ?_
                refine EC.no rfl ?_
                refine EC.exit ?_
                refine EX.seq_exit ?_
                refine EX.seq_exit ?_
                refine EX.blk_here ?_
                refine EX.blk ?_
                refine EX.seq ?_
                refine EC.region ?_
                refine EL.val (x_move rfl) rfl ?_
                refine EL.val (x_add rfl rfl (by first | assumption | exact IntWalk.i64_in _ ⟨by omega, by omega⟩)) rfl ?_
                refine EL.val (x_assign rfl) rfl ?_
                refine EL.nil ?_
                refine EX.roundD (i + 1) ⟨rfl, trivial⟩ (by repeat first | exact Sub.refl _ | refine sub_past rfl ?_ | refine sub_del rfl ?_ | refine sub_insL_nil ?_) ⟨hi, fun j hj => (Nat.lt_succ_iff_lt_or_eq.1 hj).elim (hal j) (fun e => by subst e; exact hak), hbw⟩ (by omega)
            ·
              obtain rfl : i = sides.length := by omega
              refine EC.seq ?_
              refine EC.seq ?_
              refine EC.region ?_
              refine EL.val (x_move rfl) rfl ?_
              refine EL.val (x_move rfl) rfl ?_
              refine EL.val (ln_52 rfl) rfl ?_
              refine EL.val (x_lss rfl rfl (by first | assumption | exact decide_eq_false (by omega))) rfl ?_
              refine EL.nil ?_
              refine EX.seq ?_
              refine EC.no rfl ?_
              refine EC.exit ?_
              refine EX.seq_exit ?_
              refine EX.seq_exit ?_
              refine EX.blk_here ?_
              refine EX.seq ?_
              refine EC.seq ?_
              refine EC.region ?_
              refine EL.val (x_assign rfl) rfl ?_
              refine EL.nil ?_
              refine EX.seq ?_
              refine EC.ret ?_
              exact EX.done (res1 rfl rfl) ⟨by rw [start0 hok hn1 hsm h5 hal], hbw⟩
    ·
      refine EC.seq ?_
      refine EC.region ?_
      refine EL.newP (bx_47 rfl) rfl ?_
      intro g9 w9 q9 hb9 hg9 hl9
      have bhbw_9 := Nat.le_trans hbw.size hg9
      replace hbw := Below.on hbw hb9 hbw.size
      clear hb9 hg9 hl9
      refine EL.val (x_assign rfl) rfl ?_
      refine EL.nil ?_
      refine EX.seq ?_
      refine EC.seq ?_
      refine EC.seq ?_
      refine EC.region ?_
      refine EL.val (ld_47 rfl (q9.at (j := 0) rfl) (q9.at (j := 1) rfl)) rfl ?_
      refine EL.call (cl_26 rfl) rfl (by have key := rriver_any rv _ _ vs w9 B (hr.below (hbw.mono hB)) (Nat.le_trans hB hbw.size) hl hl2 hcv; rw [hok] at key; exact key) ?_
      rintro e w10 ⟨rfl, hc10⟩
      refine ⟨_, rfl, ?_⟩
      replace q9 := q9.below hc10 q9.lt
      replace hbw := Below.on hbw hc10 hbw.size
      clear hc10
      refine EL.val (x_not rfl) rfl ?_
      refine EL.nil ?_
      refine EX.seq ?_
      refine EC.no rfl ?_
      refine EC.skip ?_
      refine EX.seq ?_
      refine EC.seq ?_
      refine EC.seq ?_
      refine EC.region ?_
      refine EL.val (x_move rfl) rfl ?_
      refine EL.val (ln_52 rfl) rfl ?_
      refine EL.val (fa_47_0 rfl) rfl ?_
      refine EL.val (ld_44 rfl (q9.at (j := 0) rfl)) rfl ?_
      refine EL.val (ln_44 rfl) rfl ?_
      refine EL.val (x_neq rfl rfl (by first | assumption | exact decide_eq_true (by omega))) rfl ?_
      refine EL.val (x_move rfl) rfl ?_
      refine EL.skip rfl rfl rfl rfl ?_
      refine EL.skip rfl rfl rfl rfl ?_
      refine EL.skip rfl rfl rfl rfl ?_
      refine EL.skip rfl rfl rfl rfl ?_
      refine EL.skip rfl rfl rfl rfl ?_
      refine EL.val (x_pick_t rfl rfl) rfl ?_
      refine EL.nil ?_
      refine EX.seq ?_
      refine EC.yes rfl ?_
      refine EC.seq ?_
      refine EC.region ?_
      refine EL.val (x_assign rfl) rfl ?_
      refine EL.nil ?_
      refine EX.seq ?_
      refine EC.ret ?_
      refine EX.seq_ret ?_
      exact EX.done (res1 rfl rfl) ⟨by rw [start4 hok (Or.inl h1)], hbw⟩
end Go.Proofs.Ytncnlhkmdljgpaa
