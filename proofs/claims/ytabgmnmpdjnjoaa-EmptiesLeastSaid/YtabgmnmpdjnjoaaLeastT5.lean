/- X18, ELift2, ExX19, ExX20, X20: what EmptiesLeastProof needs of them (merged by trimpack.py). -/
import Derived.Test.YtabgmnmpdjnjoaaLeastT4
set_option linter.unusedVariables false
set_option linter.unusedSimpArgs false
namespace Go.Proofs.Ytabgmnmpdjnjoaa
open Go Go.RowKit
def u8s (l : List Int) : List Value := l.map fun x => .int .u8 x
theorem part_any (l : List Int) (v : Value) (i : Nat) (w : World) (B : Nat) (hr : Rd w B 1 v l.length (u8s l)) (hn : l.length ≤ 9223372036854775807) :
    Calls Try.prog 28 #[v, .int .i64 (i : Nat)] w fun e w' => e = .returned (.int .u8 (partI l i)) ∧ Below w.heap.size w w' := by
  obtain ⟨A, c, rfl, _⟩ := hr.shape
  have hbw := Below.refl w.heap.size w
  refine EC.enter 15 Try.func28 rfl rfl rfl ?_
  refine EC.seq ?_
  refine EC.region ?_
  refine EL.val (x_assign rfl) rfl ?_
  refine EL.nil ?_
  refine EX.seq ?_
  refine EC.seq ?_
  refine EC.seq ?_
  refine EC.region ?_
  refine EL.val (x_move rfl) rfl ?_
  refine EL.val (ln_49 rfl) rfl ?_
  by_cases h0 : l.length = 0
  ·
    have hp : partI l i = 0 := by rw [partI, if_pos h0]
    refine EL.val (x_eql rfl rfl (by first | assumption | exact decide_eq_true (by omega))) rfl ?_
    refine EL.nil ?_
    refine EX.seq ?_
    refine EC.yes rfl ?_
    refine EC.seq ?_
    refine EC.region ?_
    refine EL.val (x_assign rfl) rfl ?_
    refine EL.nil ?_
    refine EX.seq ?_
    refine EC.ret ?_
    refine EX.seq_ret ?_
    exact EX.done (res1 rfl rfl) ⟨by rw [hp], hbw⟩
  ·
    have hk : i % l.length < l.length := Nat.mod_lt _ (by omega)
    have hp : partI l i = l.getD (i % l.length) 0 := by rw [partI, if_neg h0]
    obtain ⟨b, o, rfl, _, hc⟩ := hr.at_ (by omega)
    have c0 := hc (i % l.length) (.int .u8 (partI l i)) (by rw [hp]; simp [u8s, hk])
    refine EL.val (x_eql rfl rfl (by first | assumption | exact decide_eq_false (by omega))) rfl ?_
    refine EL.nil ?_
    refine EX.seq ?_
    refine EC.no rfl ?_
    refine EC.skip ?_
    refine EX.seq ?_
    refine EC.seq ?_
    refine EC.region ?_
    refine EL.val (x_move rfl) rfl ?_
    refine EL.val (x_move rfl) rfl ?_
    refine EL.val (x_move rfl) rfl ?_
    refine EL.val (ln_49 rfl) rfl ?_
    refine EL.val (x_rem rfl rfl (c := ((i % l.length : Nat) : Int)) (by omega) rfl) rfl ?_
    refine EL.val (ix_49 rfl rfl hk) rfl ?_
    refine EL.val (ld_5 rfl c0) rfl ?_
    refine EL.val (x_assign rfl) rfl ?_
    refine EL.nil ?_
    refine EX.seq ?_
    refine EC.ret ?_
    exact EX.done (res1 rfl rfl) ⟨rfl, hbw⟩
theorem ints_rep (n : Nat) : ints (List.replicate n 0) = List.replicate n (.int .i64 0) := by simp [ints]
def exL (nt : Net) (x : Nat) : List Int := (List.range nt.ports.length).map fun i => if i < x then (nt.ports.getD i prt0).has - (nt.ports.getD i prt0).wants else 0
theorem exL_len (nt : Net) (x : Nat) : (exL nt x).length = nt.ports.length := by simp [exL]
theorem exL_at {nt : Net} {x v : Nat} (h : v < nt.ports.length) : (exL nt x).getD v 0 = if v < x then (nt.ports.getD v prt0).has - (nt.ports.getD v prt0).wants else 0 := by simp [exL, List.getD, h]
theorem exL_zero (nt : Net) : exL nt 0 = List.replicate nt.ports.length 0 := by
  refine list_getD_ext (by simp [exL]) fun i hi => ?_
  rw [exL_len] at hi
  rw [exL_at hi]
  simp [List.getD, hi]
theorem exL_succ {nt : Net} {x : Nat} (h : x < nt.ports.length) : exL nt (x + 1) = (exL nt x).set x ((nt.ports.getD x prt0).has - (nt.ports.getD x prt0).wants) := by
  refine list_getD_ext (by simp [exL]) fun i hi => ?_
  rw [exL_len] at hi
  rw [exL_at hi, getD_set0 (by rw [exL_len]; exact h), exL_at hi]
  by_cases e : i = x
  · subst e; rw [if_pos rfl, if_pos (by omega)]
  · rw [if_neg e]
    by_cases h2 : i < x
    · rw [if_pos h2, if_pos (by omega)]
    · rw [if_neg h2, if_neg (by omega)]
theorem exL_all (nt : Net) : exL nt nt.ports.length = ext0 nt nt.ports.length := by
  refine List.map_congr_left fun i hi => ?_
  rw [if_pos (List.mem_range.1 hi)]
set_option maxHeartbeats 1000000 in
theorem extra_any (nt : Net) (mv : List Int) (vp vw vm : Value) (w : World) (B : Nat) (hr : RdNet w B vp vw nt) (hrm : Rd w B 1 vm mv.length (ints mv)) (hB : B ≤ w.heap.size) (hv : netB nt = true) (hml : mv.length = nt.ways.length) (hok : okTo nt mv nt.ways.length = true) :
    Calls Try.prog 36 #[.agg #[vp, vw], vm] w fun e w' => (∃ v, e = .returned (.tuple #[v, .bool true]) ∧ w'.ownsRow w.heap.size 3 1 v nt.ports.length (ints (extL nt mv))) ∧ Below w.heap.size w w' := by
  obtain ⟨Ap, cp_, rfl, _⟩ := hr.ports.shape
  obtain ⟨Aw, cw_, rfl, _⟩ := hr.ways.shape
  obtain ⟨Am, cm_, rfl, _⟩ := hrm.shape
  obtain ⟨⟨hp1, hp60⟩, hw300, hvp, hvw⟩ := netB_ok hv
  have hbw := Below.refl w.heap.size w
  refine EC.enter 116 Try.func36 rfl rfl rfl ?_
  refine EC.seq ?_
  refine EC.region ?_
  refine EL.newP (bx_25 rfl) rfl ?_
  intro g1 w1 q1 hb1 hg1 hl1
  have bhbw_1 := Nat.le_trans hbw.size hg1
  replace hbw := Below.on hbw hb1 hbw.size
  clear hb1 hg1 hl1
  refine EL.val (x_assign rfl) rfl ?_
  refine EL.val (x_assign rfl) rfl ?_
  refine EL.nil ?_
  refine EX.seq ?_
  refine EC.seq ?_
  refine EC.seq ?_
  refine EC.region ?_
  refine EL.val (x_move rfl) rfl ?_
  refine EL.val (ln_29 rfl) rfl ?_
  refine EL.val (fa_25_1 rfl) rfl ?_
  refine EL.val (ld_23 rfl (q1.at (j := 1) rfl)) rfl ?_
  refine EL.val (ln_23 rfl) rfl ?_
  refine EL.val (x_neq (r := false) rfl rfl (decide_eq_false (fun h => h (by omega)))) rfl ?_
  refine EL.nil ?_
  refine EX.seq ?_
  refine EC.no rfl ?_
  refine EC.skip ?_
  refine EX.seq ?_
  refine EC.seq ?_
  refine EC.region ?_
  refine EL.val (fa_25_0 rfl) rfl ?_
  refine EL.val (ld_22 rfl (q1.at (j := 0) rfl)) rfl ?_
  refine EL.val (ln_22 rfl) rfl ?_
  refine EL.make1 (base := w.heap.size) (z := .int .i64 0) Try.underlying29 i64_info rfl rfl (by omega) rfl hbw.size rfl ?_
  intro go w2 ho hb2 hgo
  rw [← ints_rep] at ho
  replace q1 := q1.below hb2 q1.lt
  replace hbw := Below.on hbw hb2 hbw.size
  clear hb2
  refine EL.val (x_assign rfl) rfl ?_
  refine EL.nil ?_
  refine EX.seq ?_
  refine EC.seq ?_
  refine EC.seq ?_
  refine EC.region ?_
  refine EL.val (x_assign rfl) rfl ?_
  refine EL.nil ?_
  refine EX.seq ?_
  refine EC.block ?_
  refine EC.loopD [7, 20, 21, 22, 23, 24, 25, 26, 27, 28, 29, 30, 31, 32, 33, 34, 35, 36, 37, 38, 39, 40, 41, 42] (fun x : Nat => [(7, .int .i64 (x : Nat))]) (fun x W => x ≤ nt.ports.length ∧ Blk W g1 25 #[.slice Ap nt.ports.length cp_, .slice Aw nt.ways.length cw_] ∧ W.ownsRow w.heap.size 3 1 (.slice (some ⟨go, 0, none⟩) nt.ports.length nt.ports.length) nt.ports.length (ints (exL nt x)) ∧ Below w.heap.size w W) (fun x => nt.ports.length - x) 0 ⟨Nat.zero_le _, q1, (by rw [exL_zero]; exact ho), hbw⟩ ⟨rfl, trivial⟩ ?_
  clear q1 ho hbw
  rintro x wx ⟨hx, q2x, ho, hbw⟩
  by_cases hlt : x < nt.ports.length
  ·
    obtain ⟨bp, op, e_, _, pc0, pc1⟩ := prts_cells nt.ports x hlt _ _ _ _ _ hr.ports
    subst e_
    obtain ⟨⟨ph0, ph1⟩, pw0, pw1⟩ := hvp x hlt
    have hsl := exL_succ hlt
    have hel := exL_len nt x
    obtain ⟨y, ey⟩ : ∃ z, z = nt.ports.getD x prt0 := ⟨_, rfl⟩
    rw [← ey] at pc0 pc1 ph0 ph1 pw0 pw1 hsl
    obtain ⟨el, eel⟩ : ∃ z, z = exL nt x := ⟨_, rfl⟩
    rw [← eel] at ho hel hsl
    refine EC.seq ?_
    refine EC.seq ?_
    refine EC.region ?_
    refine EL.val (x_move rfl) rfl ?_
    refine EL.val (fa_25_0 rfl) rfl ?_
    refine EL.val (ld_22 rfl (q2x.at (j := 0) rfl)) rfl ?_
    refine EL.val (ln_22 rfl) rfl ?_
    refine EL.val (x_lss rfl rfl (decide_eq_true (show (((x : Nat) : Int) < ((nt.ports.length : Nat) : Int)) by omega))) rfl ?_
    refine EL.nil ?_
    refine EX.seq ?_
    refine EC.yes rfl ?_
    refine EC.skip ?_
    refine EX.seq ?_
    refine EC.seq ?_
    refine EC.block ?_
    have lt_1 := q2x.lt
    refine EC.regionP [[], [], [], [2], [], [2, 3, 4], [2, 3, 4, 5], [2, 3, 4, 5, 6], [], [8], [], [8, 9, 10], [8, 9, 10, 11], [8, 9, 10, 11, 12], [2, 3, 4, 5, 6, 7, 8, 9, 10, 11, 12, 13], [0, 1, 2, 3, 4, 5, 6, 7, 8, 9, 10, 11, 12, 13, 14], [0, 1, 2, 3, 4, 5, 6, 7, 8, 9, 10, 11, 12, 13, 14, 15]] 15 [] (phi (fun i_ r => match i_ with | 0 => r 0 = .slice (some ⟨go, 0, none⟩) nt.ports.length nt.ports.length | 1 => r 1 = .int .i64 (x : Nat) | 2 => r 2 = .pointer (some ⟨g1, 0, none⟩) | 3 => r 3 = .slice (some ⟨bp, op, none⟩) nt.ports.length cp_ | 4 => r 4 = .int .i64 (x : Nat) | 5 => r 5 = .pointer (some ⟨bp, op + x * 2, none⟩) | 6 => r 6 = .pointer (some ⟨bp, op + x * 2, none⟩) | 7 => r 7 = .int .i64 y.has | 8 => r 8 = .pointer (some ⟨g1, 0, none⟩) | 9 => r 9 = .slice (some ⟨bp, op, none⟩) nt.ports.length cp_ | 10 => r 10 = .int .i64 (x : Nat) | 11 => r 11 = .pointer (some ⟨bp, op + x * 2, none⟩) | 12 => r 12 = .pointer (some ⟨bp, op + x * 2 + 1, none⟩) | 13 => r 13 = .int .i64 y.wants | 14 => r 14 = .int .i64 (y.has - y.wants) | _ => True) []) (by kernel_rfl) rfl rfl (phi_nil) (fun i_ hi_ => ?_) ?_
    · match i_, hi_ with
      | 0, _ =>
        intro val w1 a hb ha hd
        have ha := ha.sub (Sub.ins (d := 6) (Sub.nil _) rfl)
        exact hs_val ha rfl rfl (x_move rfl) rfl rfl
      | 1, _ =>
        intro val w1 a hb ha hd
        have ha := ha.sub (Sub.ins (d := 7) (Sub.nil _) rfl)
        exact hs_val ha rfl rfl (x_move rfl) rfl rfl
      | 2, _ =>
        intro val w1 a hb ha hd
        have ha := ha.sub (Sub.ins (d := 2) (Sub.nil _) rfl)
        exact hs_val ha rfl rfl (fa_25_0 rfl) rfl rfl
      | 3, _ =>
        intro val w1 a hb ha hd
        have e2 : val 2 = .pointer (some ⟨g1, 0, none⟩) := hd 2 (memB_mem.1 rfl)
        have ha := ha.sub (Sub.ins (d := 29) (Sub.nil _) (dep_get rfl e2))
        exact hs_val ha rfl rfl (ld_22 rfl ((q2x.below hb q2x.lt).at (j := 0) rfl)) rfl rfl
      | 4, _ =>
        intro val w1 a hb ha hd
        have ha := ha.sub (Sub.ins (d := 7) (Sub.nil _) rfl)
        exact hs_val ha rfl rfl (x_move rfl) rfl rfl
      | 5, _ =>
        intro val w1 a hb ha hd
        have e3 : val 3 = .slice (some ⟨bp, op, none⟩) nt.ports.length cp_ := hd 3 (memB_mem.1 rfl)
        have e4 : val 4 = .int .i64 (x : Nat) := hd 4 (memB_mem.1 rfl)
        have ha := ha.sub (Sub.ins (d := 31) (Sub.ins (d := 30) (Sub.nil _) (dep_get rfl e3)) (dep_get rfl e4))
        exact hs_val ha rfl rfl (ix_22 rfl rfl hlt) rfl rfl
      | 6, _ =>
        intro val w1 a hb ha hd
        have e5 : val 5 = .pointer (some ⟨bp, op + x * 2, none⟩) := hd 5 (memB_mem.1 rfl)
        have ha := ha.sub (Sub.ins (d := 32) (Sub.nil _) (dep_get rfl e5))
        exact hs_val ha rfl rfl (fa_47_0 rfl) rfl rfl
      | 7, _ =>
        intro val w1 a hb ha hd
        have e6 : val 6 = .pointer (some ⟨bp, op + x * 2, none⟩) := hd 6 (memB_mem.1 rfl)
        have ha := ha.sub (Sub.ins (d := 33) (Sub.nil _) (dep_get rfl e6))
        exact hs_val ha rfl rfl (ld_3 rfl (below_load hb (below_load hbw pc0))) rfl rfl
      | 8, _ =>
        intro val w1 a hb ha hd
        have ha := ha.sub (Sub.ins (d := 2) (Sub.nil _) rfl)
        exact hs_val ha rfl rfl (fa_25_0 rfl) rfl rfl
      | 9, _ =>
        intro val w1 a hb ha hd
        have e8 : val 8 = .pointer (some ⟨g1, 0, none⟩) := hd 8 (memB_mem.1 rfl)
        have ha := ha.sub (Sub.ins (d := 35) (Sub.nil _) (dep_get rfl e8))
        exact hs_val ha rfl rfl (ld_22 rfl ((q2x.below hb q2x.lt).at (j := 0) rfl)) rfl rfl
      | 10, _ =>
        intro val w1 a hb ha hd
        have ha := ha.sub (Sub.ins (d := 7) (Sub.nil _) rfl)
        exact hs_val ha rfl rfl (x_move rfl) rfl rfl
      | 11, _ =>
        intro val w1 a hb ha hd
        have e9 : val 9 = .slice (some ⟨bp, op, none⟩) nt.ports.length cp_ := hd 9 (memB_mem.1 rfl)
        have e10 : val 10 = .int .i64 (x : Nat) := hd 10 (memB_mem.1 rfl)
        have ha := ha.sub (Sub.ins (d := 37) (Sub.ins (d := 36) (Sub.nil _) (dep_get rfl e9)) (dep_get rfl e10))
        exact hs_val ha rfl rfl (ix_22 rfl rfl hlt) rfl rfl
      | 12, _ =>
        intro val w1 a hb ha hd
        have e11 : val 11 = .pointer (some ⟨bp, op + x * 2, none⟩) := hd 11 (memB_mem.1 rfl)
        have ha := ha.sub (Sub.ins (d := 38) (Sub.nil _) (dep_get rfl e11))
        exact hs_val ha rfl rfl (fa_47_1 rfl) rfl rfl
      | 13, _ =>
        intro val w1 a hb ha hd
        have e12 : val 12 = .pointer (some ⟨bp, op + x * 2 + 1, none⟩) := hd 12 (memB_mem.1 rfl)
        have ha := ha.sub (Sub.ins (d := 39) (Sub.nil _) (dep_get rfl e12))
        exact hs_val ha rfl rfl (ld_3 rfl (below_load hb (below_load hbw pc1))) rfl rfl
      | 14, _ =>
        intro val w1 a hb ha hd
        have e7 : val 7 = .int .i64 y.has := hd 7 (memB_mem.1 rfl)
        have e13 : val 13 = .int .i64 y.wants := hd 13 (memB_mem.1 rfl)
        have ha := ha.sub (Sub.ins (d := 40) (Sub.ins (d := 34) (Sub.nil _) (dep_get rfl e7)) (dep_get rfl e13))
        exact hs_val ha rfl rfl (x_sub rfl rfl (c := y.has - y.wants) (IntWalk.i64_in _ ⟨by omega, by omega⟩)) rfl rfl
      | k + 15, h => exact absurd h (by omega)
    · intro val wR7 hb halc hd
      have e0 : val 0 = .slice (some ⟨go, 0, none⟩) nt.ports.length nt.ports.length := hd 0 (by omega)
      have e1 : val 1 = .int .i64 (x : Nat) := hd 1 (by omega)
      have e2 : val 2 = .pointer (some ⟨g1, 0, none⟩) := hd 2 (by omega)
      have e3 : val 3 = .slice (some ⟨bp, op, none⟩) nt.ports.length cp_ := hd 3 (by omega)
      have e4 : val 4 = .int .i64 (x : Nat) := hd 4 (by omega)
      have e5 : val 5 = .pointer (some ⟨bp, op + x * 2, none⟩) := hd 5 (by omega)
      have e6 : val 6 = .pointer (some ⟨bp, op + x * 2, none⟩) := hd 6 (by omega)
      have e7 : val 7 = .int .i64 y.has := hd 7 (by omega)
      have e8 : val 8 = .pointer (some ⟨g1, 0, none⟩) := hd 8 (by omega)
      have e9 : val 9 = .slice (some ⟨bp, op, none⟩) nt.ports.length cp_ := hd 9 (by omega)
      have e10 : val 10 = .int .i64 (x : Nat) := hd 10 (by omega)
      have e11 : val 11 = .pointer (some ⟨bp, op + x * 2, none⟩) := hd 11 (by omega)
      have e12 : val 12 = .pointer (some ⟨bp, op + x * 2 + 1, none⟩) := hd 12 (by omega)
      have e13 : val 13 = .int .i64 y.wants := hd 13 (by omega)
      have e14 : val 14 = .int .i64 (y.has - y.wants) := hd 14 (by omega)
      refine EL.ends (cs := [.slice (some ⟨go, 0, none⟩) nt.ports.length nt.ports.length, .int .i64 (x : Nat), .pointer (some ⟨g1, 0, none⟩), .slice (some ⟨bp, op, none⟩) nt.ports.length cp_, .int .i64 (x : Nat), .pointer (some ⟨bp, op + x * 2, none⟩), .pointer (some ⟨bp, op + x * 2, none⟩), .int .i64 y.has, .pointer (some ⟨g1, 0, none⟩), .slice (some ⟨bp, op, none⟩) nt.ports.length cp_, .int .i64 (x : Nat), .pointer (some ⟨bp, op + x * 2, none⟩), .pointer (some ⟨bp, op + x * 2 + 1, none⟩), .int .i64 y.wants, .int .i64 (y.has - y.wants)]) ⟨e0, e1, e2, e3, e4, e5, e6, e7, e8, e9, e10, e11, e12, e13, e14, trivial⟩ rfl ?_
      replace q2x := q2x.below hb q2x.lt
      replace ho := own_below ho hb (Nat.le_refl _)
      replace hbw := Below.on hbw hb hbw.size
      clear hb
      refine EL.val (ix_29 rfl rfl hlt) rfl ?_
      refine EL.storeRow (l' := [.int .i64 (y.has - y.wants)]) rfl rfl ho sz_3 rfl rfl (by rw [ints_len, Nat.zero_add]; omega) rfl ?_
      intro w3 ho2 hgr
      rw [Nat.zero_add, spl_ints (by omega)] at ho2
      replace q2x := blk_grown q2x ho rfl hgr
      replace hbw := hbw.trans (below_row ho hgr hbw.size)
      clear ho hgr
      have ho := ho2
      clear ho2
      refine EL.nil ?_
      refine EX.blk ?_
      refine EX.seq ?_
      refine EC.region ?_
      refine EL.val (x_move rfl) rfl ?_
      refine EL.val (x_add rfl rfl (c := ((x + 1 : Nat) : Int)) ((IntWalk.i64_in _ ⟨by first | omega | (simp only; omega), by first | omega | (simp only; omega)⟩).trans (by first | omega | (simp only; omega)))) rfl ?_
      refine EL.val (x_assign rfl) rfl ?_
      refine EL.nil ?_
      refine EX.roundD (x + 1) ⟨rfl, trivial⟩ (by repeat first | with_reducible exact Sub.refl _ | refine sub_past rfl ?_ | exact Sub.refl _ | refine sub_del rfl ?_ | refine sub_insL_nil ?_) ⟨hlt, q2x, by rw [hsl]; exact ho, hbw⟩ (by omega)
  ·
    have hxe : x = nt.ports.length := by omega
    subst hxe
    rw [exL_all] at ho
    refine EC.seq ?_
    refine EC.seq ?_
    refine EC.region ?_
    refine EL.val (x_move rfl) rfl ?_
    refine EL.val (fa_25_0 rfl) rfl ?_
    refine EL.val (ld_22 rfl (q2x.at (j := 0) rfl)) rfl ?_
    refine EL.val (ln_22 rfl) rfl ?_
    refine EL.val (x_lss rfl rfl (decide_eq_false (show ¬(((nt.ports.length : Nat) : Int) < ((nt.ports.length : Nat) : Int)) by omega))) rfl ?_
    refine EL.nil ?_
    refine EX.seq ?_
    refine EC.no rfl ?_
    refine EC.exit ?_
    refine EX.seq_exit ?_
    refine EX.seq_exit ?_
    refine EX.blk_here ?_
    refine EX.seq ?_
    refine EC.seq ?_
    refine EC.seq ?_
    refine EC.region ?_
    refine EL.val (x_assign rfl) rfl ?_
    refine EL.nil ?_
    refine EX.seq ?_
    refine EC.block ?_
    refine EC.loopD [4, 5, 8, 9, 43, 44, 45, 46, 47, 48, 49, 50, 51, 52, 53, 54, 55, 56, 57, 58, 59, 60, 61, 62, 63, 64, 65, 66, 67, 68, 69, 70, 71, 72, 73, 74, 75, 76, 77, 78, 79, 80, 81, 82, 83, 84, 85, 86, 87, 88, 89, 90, 91, 92, 93, 94, 95, 96, 97, 98, 99, 100, 101, 102, 103, 104, 105, 106, 107, 108, 109, 110, 111, 112, 113, 114] (fun x : Nat => [(8, .int .i64 (x : Nat))]) (fun x W => x ≤ nt.ways.length ∧ Blk W g1 25 #[.slice Ap nt.ports.length cp_, .slice Aw nt.ways.length cw_] ∧ W.ownsRow w.heap.size 3 1 (.slice (some ⟨go, 0, none⟩) nt.ports.length nt.ports.length) nt.ports.length (ints (extTo nt mv x)) ∧ Below w.heap.size w W) (fun x => nt.ways.length - x) 0 ⟨Nat.zero_le _, q2x, ho, hbw⟩ ⟨rfl, trivial⟩ ?_
    clear q2x ho hbw
    rintro x wx ⟨hx, q2x, ho, hbw⟩
    by_cases hlt : x < nt.ways.length
    ·
      obtain ⟨bw, ow, e_, _, wc⟩ := ways_cells nt.ways x hlt _ _ _ _ _ hr.ways
      subst e_
      obtain ⟨bm, om, e_, _, mc⟩ := ints_cells mv x (by omega) _ _ _ _ _ hrm
      subst e_
      obtain ⟨⟨wf0, wf1⟩, ⟨wt0, wt1⟩, wne, ⟨wc0, wc1⟩, wr0, wr1⟩ := hvw x hlt
      have hel := extTo_len (nt := nt) (mv := mv) x
      have heb := ext_bd hv x hx (okTo_less hx hok)
      have hmb := okTo_at hok hlt
      have hen : extTo nt mv (x + 1) = extStep (extTo nt mv x) (nt.ways.getD x way0) (mv.getD x 0) := rfl
      obtain ⟨y, ey⟩ : ∃ z, z = nt.ways.getD x way0 := ⟨_, rfl⟩
      obtain ⟨m, em⟩ : ∃ z, z = mv.getD x 0 := ⟨_, rfl⟩
      rw [← em] at mc hen hmb
      rw [← ey] at wc wf0 wf1 wt0 wt1 wne wc0 wc1 wr0 wr1 hen hmb
      obtain ⟨el, eel⟩ : ∃ z, z = extTo nt mv x := ⟨_, rfl⟩
      rw [← eel] at ho hel heb hen
      clear ey em eel
      obtain ⟨yf, yt, yc, yr⟩ := y
      obtain ⟨wk0, wk1, wk2, wk3⟩ := wc
      dsimp only at wf0 wf1 wt0 wt1 wne wc0 wc1 wr0 wr1 hmb wk0 wk1 wk2 wk3
      obtain ⟨f_, rfl⟩ := Int.eq_ofNat_of_zero_le wf0
      obtain ⟨t_, rfl⟩ := Int.eq_ofNat_of_zero_le wt0
      unfold extStep at hen
      simp only [Int.toNat_natCast] at hen
      have hef := heb f_
      have het := heb t_
      have het2 : -(2000 + 1000 * ((x : Nat) : Int)) ≤ (el.set f_ (el.getD f_ 0 - m)).getD t_ 0 ∧ (el.set f_ (el.getD f_ 0 - m)).getD t_ 0 ≤ 2000 + 1000 * ((x : Nat) : Int) := by rw [getD_set0 (by omega)]; split <;> omega
      refine EC.seq ?_
      refine EC.seq ?_
      refine EC.region ?_
      refine EL.val (x_move rfl) rfl ?_
      refine EL.val (fa_25_1 rfl) rfl ?_
      refine EL.val (ld_23 rfl (q2x.at (j := 1) rfl)) rfl ?_
      refine EL.val (ln_23 rfl) rfl ?_
      refine EL.val (x_lss rfl rfl (decide_eq_true (show (((x : Nat) : Int) < ((nt.ways.length : Nat) : Int)) by omega))) rfl ?_
      refine EL.nil ?_
      refine EX.seq ?_
      refine EC.yes rfl ?_
      refine EC.skip ?_
      refine EX.seq ?_
      refine EC.seq ?_
      refine EC.block ?_
      refine EC.seq ?_
      refine EC.region ?_
      refine EL.val (fa_25_1 rfl) rfl ?_
      refine EL.val (ld_23 rfl (q2x.at (j := 1) rfl)) rfl ?_
      refine EL.val (x_move rfl) rfl ?_
      refine EL.val (ix_23 rfl rfl hlt) rfl ?_
      refine EL.val (ld_56 rfl (below_load hbw wk0) (below_load hbw wk1) (below_load hbw wk2) (below_load hbw wk3)) rfl ?_
      refine EL.newP al_56 rfl ?_
      intro g4 w4 q4 hb4 hg4 hl4
      have n1_4 : g1 ≠ g4 := Nat.ne_of_lt (Nat.lt_of_lt_of_le q2x.lt hg4)
      have bhbw_4 := Nat.le_trans hbw.size hg4
      replace q2x := q2x.below hb4 q2x.lt
      replace ho := own_below ho hb4 (Nat.le_refl _)
      replace hbw := Below.on hbw hb4 hbw.size
      clear hb4 hg4 hl4
      refine EL.store rfl rfl q4 sz_56 rfl rfl rfl rfl ?_
      intro w5 hq5 hg5
      replace q2x := q2x.grown hg5 (fun h => n1_4 (Option.some.inj h))
      replace ho := own_type ho q4 rfl hg5
      replace hbw := below_store hbw hg5 bhbw_4
      replace q4 := hq5
      clear hg5 hq5
      refine EL.nil ?_
      refine EX.seq ?_
      refine EC.seq ?_
      refine EC.seq ?_
      refine EC.regionQ (by kernel_rfl) (by kernel_rfl) ?_
      refine EQ.val (fun _ hw => (x_move rfl)) rfl ?_
      refine EQ.val (fun _ hw => (x_move rfl)) rfl ?_
      refine EQ.val (fun _ hw => (ix_29 rfl rfl (show x < mv.length by omega))) rfl ?_
      refine EQ.val (fun _ hw => (ld_3 rfl (below_load hw (below_load hbw mc)))) rfl ?_
      refine EQ.val (fun _ hw => (x_lss (r := false) rfl rfl (decide_eq_false (by omega)))) rfl ?_
      refine EQ.val (fun _ hw => (x_move rfl)) rfl ?_
      refine EQ.valg rfl rfl (fun _ hw => (x_move rfl)) rfl ?_
      refine EQ.valg rfl rfl (fun _ hw => (x_move rfl)) rfl ?_
      refine EQ.valg rfl rfl (fun _ hw => (ix_29 rfl rfl (show x < mv.length by omega))) rfl ?_
      refine EQ.valg rfl rfl (fun _ hw => (ld_3 rfl (below_load hw (below_load hbw mc)))) rfl ?_
      refine EQ.valg rfl rfl (fun _ hw => (fa_56_3 rfl)) rfl ?_
      refine EQ.valg rfl rfl (fun _ hw => (ld_3 rfl (below_load hw (q4.at (j := 3) rfl)))) rfl ?_
      refine EQ.valg rfl rfl (fun _ hw => (x_gtr (r := false) rfl rfl (decide_eq_false (by omega)))) rfl ?_
      refine EQ.val (fun _ hw => (x_pick_f rfl rfl)) rfl ?_
      refine EQ.val (fun _ hw => (x_move rfl)) rfl ?_
      refine EQ.valg rfl rfl (fun _ hw => (fa_56_0 rfl)) rfl ?_
      refine EQ.valg rfl rfl (fun _ hw => (ld_3 rfl (below_load hw (q4.at (j := 0) rfl)))) rfl ?_
      refine EQ.valg rfl rfl (fun _ hw => (x_lss (r := false) rfl rfl (decide_eq_false (by omega)))) rfl ?_
      refine EQ.val (fun _ hw => (x_pick_f rfl rfl)) rfl ?_
      refine EQ.val (fun _ hw => (x_move rfl)) rfl ?_
      refine EQ.valg rfl rfl (fun _ hw => (fa_56_0 rfl)) rfl ?_
      refine EQ.valg rfl rfl (fun _ hw => (ld_3 rfl (below_load hw (q4.at (j := 0) rfl)))) rfl ?_
      refine EQ.valg rfl rfl (fun _ hw => (x_move rfl)) rfl ?_
      refine EQ.valg rfl rfl (fun _ hw => (ln_29 rfl)) rfl ?_
      refine EQ.valg rfl rfl (fun _ hw => (x_geq (r := false) rfl rfl (decide_eq_false (by omega)))) rfl ?_
      refine EQ.val (fun _ hw => (x_pick_f rfl rfl)) rfl ?_
      refine EQ.val (fun _ hw => (x_move rfl)) rfl ?_
      refine EQ.valg rfl rfl (fun _ hw => (fa_56_1 rfl)) rfl ?_
      refine EQ.valg rfl rfl (fun _ hw => (ld_3 rfl (below_load hw (q4.at (j := 1) rfl)))) rfl ?_
      refine EQ.valg rfl rfl (fun _ hw => (x_lss (r := false) rfl rfl (decide_eq_false (by omega)))) rfl ?_
      refine EQ.val (fun _ hw => (x_pick_f rfl rfl)) rfl ?_
      refine EQ.val (fun _ hw => (x_move rfl)) rfl ?_
      refine EQ.valg rfl rfl (fun _ hw => (fa_56_1 rfl)) rfl ?_
      refine EQ.valg rfl rfl (fun _ hw => (ld_3 rfl (below_load hw (q4.at (j := 1) rfl)))) rfl ?_
      refine EQ.valg rfl rfl (fun _ hw => (x_move rfl)) rfl ?_
      refine EQ.valg rfl rfl (fun _ hw => (ln_29 rfl)) rfl ?_
      refine EQ.valg rfl rfl (fun _ hw => (x_geq (r := false) rfl rfl (decide_eq_false (by omega)))) rfl ?_
      refine EQ.val (fun _ hw => (x_pick_f rfl rfl)) rfl ?_
      refine EQ.fin (fun w6 hw_ => ?_)
      replace q2x := q2x.below hw_ q2x.lt
      replace q4 := q4.below hw_ q4.lt
      replace ho := own_below ho hw_ (Nat.le_refl _)
      replace hbw := Below.on hbw hw_ hbw.size
      clear hw_
      refine EX.seq ?_
      refine EC.no rfl ?_
      refine EC.skip ?_
      refine EX.seq ?_
      refine EC.seq ?_
      have rc14 := own_int_cell ho (k := f_) (by omega)
      have lt_1 := q2x.lt
      have lt_4 := q4.lt
      refine EC.regionP [[], [], [1], [0, 1, 2], [0, 1, 2, 3], [], [], [5, 6], [5, 6, 7], [0, 1, 2, 3, 4, 5, 6, 7, 8], [0, 1, 2, 3, 4, 5, 6, 7, 8, 9], [0, 1, 2, 3, 4, 5, 6, 7, 8, 9, 10]] 10 [] (phi (fun i_ r => match i_ with | 0 => r 0 = .slice (some ⟨go, 0, none⟩) nt.ports.length nt.ports.length | 1 => r 1 = .pointer (some ⟨g4, 0, none⟩) | 2 => r 2 = .int .i64 (f_ : Nat) | 3 => r 3 = .pointer (some ⟨go, 0 + f_, none⟩) | 4 => r 4 = .int .i64 ((el).getD f_ 0) | 5 => r 5 = .slice (some ⟨bm, om, none⟩) mv.length cm_ | 6 => r 6 = .int .i64 (x : Nat) | 7 => r 7 = .pointer (some ⟨bm, om + x, none⟩) | 8 => r 8 = .int .i64 m | 9 => r 9 = .int .i64 (el.getD f_ 0 - m) | _ => True) []) (by kernel_rfl) rfl rfl (phi_nil) (fun i_ hi_ => ?_) ?_
      · match i_, hi_ with
        | 0, _ =>
          intro val w1 a hb ha hd
          have ha := ha.sub (Sub.ins (d := 6) (Sub.nil _) rfl)
          exact hs_val ha rfl rfl (x_move rfl) rfl rfl
        | 1, _ =>
          intro val w1 a hb ha hd
          have ha := ha.sub (Sub.ins (d := 9) (Sub.nil _) rfl)
          exact hs_val ha rfl rfl (fa_56_0 rfl) rfl rfl
        | 2, _ =>
          intro val w1 a hb ha hd
          have e1 : val 1 = .pointer (some ⟨g4, 0, none⟩) := hd 1 (memB_mem.1 rfl)
          have ha := ha.sub (Sub.ins (d := 94) (Sub.nil _) (dep_get rfl e1))
          exact hs_val ha rfl rfl (ld_3 rfl ((q4.below hb q4.lt).at (j := 0) rfl)) rfl rfl
        | 3, _ =>
          intro val w1 a hb ha hd
          have e0 : val 0 = .slice (some ⟨go, 0, none⟩) nt.ports.length nt.ports.length := hd 0 (memB_mem.1 rfl)
          have e2 : val 2 = .int .i64 (f_ : Nat) := hd 2 (memB_mem.1 rfl)
          have ha := ha.sub (Sub.ins (d := 95) (Sub.ins (d := 93) (Sub.nil _) (dep_get rfl e0)) (dep_get rfl e2))
          exact hs_val ha rfl rfl (ix_29 rfl rfl (show f_ < nt.ports.length by omega)) rfl rfl
        | 4, _ =>
          intro val w1 a hb ha hd
          have e3 : val 3 = .pointer (some ⟨go, 0 + f_, none⟩) := hd 3 (memB_mem.1 rfl)
          have ha := ha.sub (Sub.ins (d := 96) (Sub.nil _) (dep_get rfl e3))
          exact hs_val ha rfl rfl (ld_3 rfl (below_load hb rc14)) rfl rfl
        | 5, _ =>
          intro val w1 a hb ha hd
          have ha := ha.sub (Sub.ins (d := 1) (Sub.nil _) rfl)
          exact hs_val ha rfl rfl (x_move rfl) rfl rfl
        | 6, _ =>
          intro val w1 a hb ha hd
          have ha := ha.sub (Sub.ins (d := 8) (Sub.nil _) rfl)
          exact hs_val ha rfl rfl (x_move rfl) rfl rfl
        | 7, _ =>
          intro val w1 a hb ha hd
          have e5 : val 5 = .slice (some ⟨bm, om, none⟩) mv.length cm_ := hd 5 (memB_mem.1 rfl)
          have e6 : val 6 = .int .i64 (x : Nat) := hd 6 (memB_mem.1 rfl)
          have ha := ha.sub (Sub.ins (d := 99) (Sub.ins (d := 98) (Sub.nil _) (dep_get rfl e5)) (dep_get rfl e6))
          exact hs_val ha rfl rfl (ix_29 rfl rfl (show x < mv.length by omega)) rfl rfl
        | 8, _ =>
          intro val w1 a hb ha hd
          have e7 : val 7 = .pointer (some ⟨bm, om + x, none⟩) := hd 7 (memB_mem.1 rfl)
          have ha := ha.sub (Sub.ins (d := 100) (Sub.nil _) (dep_get rfl e7))
          exact hs_val ha rfl rfl (ld_3 rfl (below_load hb (below_load hbw mc))) rfl rfl
        | 9, _ =>
          intro val w1 a hb ha hd
          have e4 : val 4 = .int .i64 ((el).getD f_ 0) := hd 4 (memB_mem.1 rfl)
          have e8 : val 8 = .int .i64 m := hd 8 (memB_mem.1 rfl)
          have ha := ha.sub (Sub.ins (d := 101) (Sub.ins (d := 97) (Sub.nil _) (dep_get rfl e4)) (dep_get rfl e8))
          exact hs_val ha rfl rfl (x_sub rfl rfl (IntWalk.i64_in _ ⟨by omega, by omega⟩)) rfl rfl
        | k + 10, h => exact absurd h (by omega)
      · intro val wR14 hb halc hd
        have e0 : val 0 = .slice (some ⟨go, 0, none⟩) nt.ports.length nt.ports.length := hd 0 (by omega)
        have e1 : val 1 = .pointer (some ⟨g4, 0, none⟩) := hd 1 (by omega)
        have e2 : val 2 = .int .i64 (f_ : Nat) := hd 2 (by omega)
        have e3 : val 3 = .pointer (some ⟨go, 0 + f_, none⟩) := hd 3 (by omega)
        have e4 : val 4 = .int .i64 ((el).getD f_ 0) := hd 4 (by omega)
        have e5 : val 5 = .slice (some ⟨bm, om, none⟩) mv.length cm_ := hd 5 (by omega)
        have e6 : val 6 = .int .i64 (x : Nat) := hd 6 (by omega)
        have e7 : val 7 = .pointer (some ⟨bm, om + x, none⟩) := hd 7 (by omega)
        have e8 : val 8 = .int .i64 m := hd 8 (by omega)
        have e9 : val 9 = .int .i64 (el.getD f_ 0 - m) := hd 9 (by omega)
        refine EL.ends (cs := [.slice (some ⟨go, 0, none⟩) nt.ports.length nt.ports.length, .pointer (some ⟨g4, 0, none⟩), .int .i64 (f_ : Nat), .pointer (some ⟨go, 0 + f_, none⟩), .int .i64 ((el).getD f_ 0), .slice (some ⟨bm, om, none⟩) mv.length cm_, .int .i64 (x : Nat), .pointer (some ⟨bm, om + x, none⟩), .int .i64 m, .int .i64 (el.getD f_ 0 - m)]) ⟨e0, e1, e2, e3, e4, e5, e6, e7, e8, e9, trivial⟩ rfl ?_
        replace q2x := q2x.below hb q2x.lt
        replace q4 := q4.below hb q4.lt
        replace ho := own_below ho hb (Nat.le_refl _)
        replace hbw := Below.on hbw hb hbw.size
        clear hb
        refine EL.val (ix_29 rfl rfl (show f_ < nt.ports.length by omega)) rfl ?_
        refine EL.storeRow (l' := [.int .i64 (el.getD f_ 0 - m)]) rfl rfl ho sz_3 rfl rfl (by rw [ints_len, Nat.zero_add]; omega) rfl ?_
        intro w7 ho2 hgr
        rw [Nat.zero_add, spl_ints (by omega)] at ho2
        replace q2x := blk_grown q2x ho rfl hgr
        replace q4 := blk_grown q4 ho rfl hgr
        replace hbw := hbw.trans (below_row ho hgr hbw.size)
        clear ho hgr
        have ho := ho2
        clear ho2
        refine EL.nil ?_
        refine EX.seq ?_
        have rc15 := own_int_cell ho (k := t_) (by rw [List.length_set]; omega)
        have lt_1 := q2x.lt
        have lt_4 := q4.lt
        refine EC.regionP [[], [], [1], [0, 1, 2], [0, 1, 2, 3], [], [], [5, 6], [5, 6, 7], [0, 1, 2, 3, 4, 5, 6, 7, 8], [0, 1, 2, 3, 4, 5, 6, 7, 8, 9], [0, 1, 2, 3, 4, 5, 6, 7, 8, 9, 10]] 10 [] (phi (fun i_ r => match i_ with | 0 => r 0 = .slice (some ⟨go, 0, none⟩) nt.ports.length nt.ports.length | 1 => r 1 = .pointer (some ⟨g4, 1, none⟩) | 2 => r 2 = .int .i64 (t_ : Nat) | 3 => r 3 = .pointer (some ⟨go, 0 + t_, none⟩) | 4 => r 4 = .int .i64 (((el.set f_ (el.getD f_ 0 - m))).getD t_ 0) | 5 => r 5 = .slice (some ⟨bm, om, none⟩) mv.length cm_ | 6 => r 6 = .int .i64 (x : Nat) | 7 => r 7 = .pointer (some ⟨bm, om + x, none⟩) | 8 => r 8 = .int .i64 m | 9 => r 9 = .int .i64 ((el.set f_ (el.getD f_ 0 - m)).getD t_ 0 + m) | _ => True) []) (by kernel_rfl) rfl rfl (phi_nil) (fun i_ hi_ => ?_) ?_
        · match i_, hi_ with
          | 0, _ =>
            intro val w1 a hb ha hd
            have ha := ha.sub (Sub.ins (d := 6) (Sub.nil _) rfl)
            exact hs_val ha rfl rfl (x_move rfl) rfl rfl
          | 1, _ =>
            intro val w1 a hb ha hd
            have ha := ha.sub (Sub.ins (d := 9) (Sub.nil _) rfl)
            exact hs_val ha rfl rfl (fa_56_1 rfl) rfl rfl
          | 2, _ =>
            intro val w1 a hb ha hd
            have e1 : val 1 = .pointer (some ⟨g4, 1, none⟩) := hd 1 (memB_mem.1 rfl)
            have ha := ha.sub (Sub.ins (d := 105) (Sub.nil _) (dep_get rfl e1))
            exact hs_val ha rfl rfl (ld_3 rfl ((q4.below hb q4.lt).at (j := 1) rfl)) rfl rfl
          | 3, _ =>
            intro val w1 a hb ha hd
            have e0 : val 0 = .slice (some ⟨go, 0, none⟩) nt.ports.length nt.ports.length := hd 0 (memB_mem.1 rfl)
            have e2 : val 2 = .int .i64 (t_ : Nat) := hd 2 (memB_mem.1 rfl)
            have ha := ha.sub (Sub.ins (d := 106) (Sub.ins (d := 104) (Sub.nil _) (dep_get rfl e0)) (dep_get rfl e2))
            exact hs_val ha rfl rfl (ix_29 rfl rfl (show t_ < nt.ports.length by omega)) rfl rfl
          | 4, _ =>
            intro val w1 a hb ha hd
            have e3 : val 3 = .pointer (some ⟨go, 0 + t_, none⟩) := hd 3 (memB_mem.1 rfl)
            have ha := ha.sub (Sub.ins (d := 107) (Sub.nil _) (dep_get rfl e3))
            exact hs_val ha rfl rfl (ld_3 rfl (below_load hb rc15)) rfl rfl
          | 5, _ =>
            intro val w1 a hb ha hd
            have ha := ha.sub (Sub.ins (d := 1) (Sub.nil _) rfl)
            exact hs_val ha rfl rfl (x_move rfl) rfl rfl
          | 6, _ =>
            intro val w1 a hb ha hd
            have ha := ha.sub (Sub.ins (d := 8) (Sub.nil _) rfl)
            exact hs_val ha rfl rfl (x_move rfl) rfl rfl
          | 7, _ =>
            intro val w1 a hb ha hd
            have e5 : val 5 = .slice (some ⟨bm, om, none⟩) mv.length cm_ := hd 5 (memB_mem.1 rfl)
            have e6 : val 6 = .int .i64 (x : Nat) := hd 6 (memB_mem.1 rfl)
            have ha := ha.sub (Sub.ins (d := 110) (Sub.ins (d := 109) (Sub.nil _) (dep_get rfl e5)) (dep_get rfl e6))
            exact hs_val ha rfl rfl (ix_29 rfl rfl (show x < mv.length by omega)) rfl rfl
          | 8, _ =>
            intro val w1 a hb ha hd
            have e7 : val 7 = .pointer (some ⟨bm, om + x, none⟩) := hd 7 (memB_mem.1 rfl)
            have ha := ha.sub (Sub.ins (d := 111) (Sub.nil _) (dep_get rfl e7))
            exact hs_val ha rfl rfl (ld_3 rfl (below_load hb (below_load hbw mc))) rfl rfl
          | 9, _ =>
            intro val w1 a hb ha hd
            have e4 : val 4 = .int .i64 (((el.set f_ (el.getD f_ 0 - m))).getD t_ 0) := hd 4 (memB_mem.1 rfl)
            have e8 : val 8 = .int .i64 m := hd 8 (memB_mem.1 rfl)
            have ha := ha.sub (Sub.ins (d := 112) (Sub.ins (d := 108) (Sub.nil _) (dep_get rfl e4)) (dep_get rfl e8))
            exact hs_val ha rfl rfl (x_add rfl rfl (IntWalk.i64_in _ ⟨by omega, by omega⟩)) rfl rfl
          | k + 10, h => exact absurd h (by omega)
        · intro val wR15 hb halc hd
          have e0 : val 0 = .slice (some ⟨go, 0, none⟩) nt.ports.length nt.ports.length := hd 0 (by omega)
          have e1 : val 1 = .pointer (some ⟨g4, 1, none⟩) := hd 1 (by omega)
          have e2 : val 2 = .int .i64 (t_ : Nat) := hd 2 (by omega)
          have e3 : val 3 = .pointer (some ⟨go, 0 + t_, none⟩) := hd 3 (by omega)
          have e4 : val 4 = .int .i64 (((el.set f_ (el.getD f_ 0 - m))).getD t_ 0) := hd 4 (by omega)
          have e5 : val 5 = .slice (some ⟨bm, om, none⟩) mv.length cm_ := hd 5 (by omega)
          have e6 : val 6 = .int .i64 (x : Nat) := hd 6 (by omega)
          have e7 : val 7 = .pointer (some ⟨bm, om + x, none⟩) := hd 7 (by omega)
          have e8 : val 8 = .int .i64 m := hd 8 (by omega)
          have e9 : val 9 = .int .i64 ((el.set f_ (el.getD f_ 0 - m)).getD t_ 0 + m) := hd 9 (by omega)
          refine EL.ends (cs := [.slice (some ⟨go, 0, none⟩) nt.ports.length nt.ports.length, .pointer (some ⟨g4, 1, none⟩), .int .i64 (t_ : Nat), .pointer (some ⟨go, 0 + t_, none⟩), .int .i64 (((el.set f_ (el.getD f_ 0 - m))).getD t_ 0), .slice (some ⟨bm, om, none⟩) mv.length cm_, .int .i64 (x : Nat), .pointer (some ⟨bm, om + x, none⟩), .int .i64 m, .int .i64 ((el.set f_ (el.getD f_ 0 - m)).getD t_ 0 + m)]) ⟨e0, e1, e2, e3, e4, e5, e6, e7, e8, e9, trivial⟩ rfl ?_
          replace q2x := q2x.below hb q2x.lt
          replace q4 := q4.below hb q4.lt
          replace ho := own_below ho hb (Nat.le_refl _)
          replace hbw := Below.on hbw hb hbw.size
          clear hb
          refine EL.val (ix_29 rfl rfl (show t_ < nt.ports.length by omega)) rfl ?_
          refine EL.storeRow (l' := [.int .i64 ((el.set f_ (el.getD f_ 0 - m)).getD t_ 0 + m)]) rfl rfl ho sz_3 rfl rfl (by rw [ints_len, Nat.zero_add]; rw [List.length_set]; omega) rfl ?_
          intro w8 ho2 hgr
          rw [Nat.zero_add, spl_ints (by rw [List.length_set]; omega)] at ho2
          replace q2x := blk_grown q2x ho rfl hgr
          replace q4 := blk_grown q4 ho rfl hgr
          replace hbw := hbw.trans (below_row ho hgr hbw.size)
          clear ho hgr
          have ho := ho2
          clear ho2
          refine EL.nil ?_
          refine EX.blk ?_
          refine EX.seq ?_
          refine EC.region ?_
          refine EL.val (x_move rfl) rfl ?_
          refine EL.val (x_add rfl rfl (c := ((x + 1 : Nat) : Int)) ((IntWalk.i64_in _ ⟨by first | omega | (simp only; omega), by first | omega | (simp only; omega)⟩).trans (by first | omega | (simp only; omega)))) rfl ?_
          refine EL.val (x_assign rfl) rfl ?_
          refine EL.nil ?_
          refine EX.roundD (x + 1) ⟨rfl, trivial⟩ (by repeat first | with_reducible exact Sub.refl _ | refine sub_past rfl ?_ | exact Sub.refl _ | refine sub_del rfl ?_ | refine sub_insL_nil ?_) ⟨hlt, q2x, (by rw [hen]; exact ho), hbw⟩ (by omega)
    ·
      have hxe : x = nt.ways.length := by omega
      subst hxe
      refine EC.seq ?_
      refine EC.seq ?_
      refine EC.region ?_
      refine EL.val (x_move rfl) rfl ?_
      refine EL.val (fa_25_1 rfl) rfl ?_
      refine EL.val (ld_23 rfl (q2x.at (j := 1) rfl)) rfl ?_
      refine EL.val (ln_23 rfl) rfl ?_
      refine EL.val (x_lss rfl rfl (decide_eq_false (show ¬(((nt.ways.length : Nat) : Int) < ((nt.ways.length : Nat) : Int)) by omega))) rfl ?_
      refine EL.nil ?_
      refine EX.seq ?_
      refine EC.no rfl ?_
      refine EC.exit ?_
      refine EX.seq_exit ?_
      refine EX.seq_exit ?_
      refine EX.blk_here ?_
      refine EX.seq ?_
      refine EC.seq ?_
      refine EC.region ?_
      refine EL.val (x_move rfl) rfl ?_
      refine EL.val (x_assign rfl) rfl ?_
      refine EL.val (x_assign rfl) rfl ?_
      refine EL.nil ?_
      refine EX.seq ?_
      refine EC.ret ?_
      exact EX.done (res2 rfl rfl rfl) ⟨⟨_, rfl, ho⟩, hbw⟩
end Go.Proofs.Ytabgmnmpdjnjoaa
set_option linter.unusedVariables false
namespace Go.Proofs.Ytabgmnmpdjnjoaa
open Go Go.ChangeShapes Go.WideShapes Go.Deep Go.RowKit Go.Joins
section
variable {H : Type} {enc : TypeId × Value → H} {w : World} {base : Nat} {spare : Nat → Bool} {held : Bool}
theorem wf_u8 {n : Int} (h : (Lit.int .u8 n).wf = true) : 0 ≤ n ∧ n ≤ 255 := by
  simp [Lit.wf, IntKind.min, IntKind.max, IntKind.signed, IntKind.bits] at h
  omega
theorem co_5 : Try.prog.cellsOf 5 = 1 := by kernel_rfl
theorem flat_u8s : ∀ l : List Int, l.flatMap (fun x => [Value.int .u8 x]) = u8s l
  | [] => rfl
  | x :: l => by
    have := flat_u8s l
    simp only [u8s, List.flatMap_cons, List.map_cons, List.singleton_append] at this ⊢
    rw [this]
theorem rd_u8s {fuel : Nat} {v : Value} {x : DataW H × List MemPlace} (h : DataW.trod enc Try.prog w base spare held fuel 49 [v] = some x) : ∃ l : List Int, Rd w w.heap.size 1 v l.length (u8s l) ∧ (∀ y ∈ l, 0 ≤ y ∧ y ≤ 255) ∧ l.length ≤ maxLen := by
  obtain ⟨l, h1, h3, h2⟩ := rd_list (α := Int) (s := 1) (f := fun x => [Value.int .u8 x]) (Good := fun x => 0 ≤ x ∧ x ≤ 255) (fun _ => rfl) (by omega) Try.underlying49 co_5 (fun _ cs _ hl ht => by
    match cs, hl with
    | [u], _ =>
      obtain ⟨z, hz, _, wf⟩ := DataW.trod_int Try.underlying5 ht
      injection hz with hz
      subst hz
      exact ⟨z, rfl, wf_u8 wf⟩) h
  rw [flat_u8s] at h1
  exact ⟨l, h1, h3, h2⟩
end
end Go.Proofs.Ytabgmnmpdjnjoaa
set_option linter.unusedVariables false
set_option linter.unusedSimpArgs false
namespace Go.Proofs.Ytabgmnmpdjnjoaa
open Go Go.RowKit
section
variable {n : Nat} {σ : Sg} {w : World} {dst : Option Tmp} {ty : TypeId} {pos : String} {af : Array Edge} {g : Option (Nat × Bool)} {x y z : Operand} {at' : Array TypeId}
theorem cv_5_3 {m : Int} (hx : evS σ x = some (.int .u8 m)) (hm : IntKind.i64.wrap m = m) : Gives Try.prog n σ w ⟨dst, .convert 5 3 x, ty, pos, af, g⟩ (.int .i64 m) := fun a ha => by
  simp only [execOp, ha.eval hx]
  simp [go_sem, hm]
end
end Go.Proofs.Ytabgmnmpdjnjoaa
set_option linter.unusedVariables false
set_option linter.unusedSimpArgs false
namespace Go.Proofs.Ytabgmnmpdjnjoaa
open Go Go.RowKit
section
variable {n : Nat} {σ : Sg} {w : World} {dst : Option Tmp} {ty : TypeId} {pos : String} {af : Array Edge} {g : Option (Nat × Bool)} {x y z : Operand} {at' : Array TypeId}
theorem cl_36 {x0 x1 : Operand} {v0 v1 : Value} (h0 : evS σ x0 = some v0) (h1 : evS σ x1 = some v1) (a : Act) (ha : Env n σ a) : (execOp a.eval ⟨dst, .call { callee := .value (.func 36), args := #[x0, x1], argTypes := at' }, ty, pos, af, g⟩).run Try.prog w = .ok (.enter 36 #[v0, v1]) w := by
  simp only [execOp, resolve, List.map_toArray, List.map_cons, List.map_nil, ha.eval h0, ha.eval h1]
  simp [go_sem, Act.eval]
theorem cl_28 {x0 x1 : Operand} {v0 v1 : Value} (h0 : evS σ x0 = some v0) (h1 : evS σ x1 = some v1) (a : Act) (ha : Env n σ a) : (execOp a.eval ⟨dst, .call { callee := .value (.func 28), args := #[x0, x1], argTypes := at' }, ty, pos, af, g⟩).run Try.prog w = .ok (.enter 28 #[v0, v1]) w := by
  simp only [execOp, resolve, List.map_toArray, List.map_cons, List.map_nil, ha.eval h0, ha.eval h1]
  simp [go_sem, Act.eval]
end
end Go.Proofs.Ytabgmnmpdjnjoaa
set_option linter.unusedVariables false
set_option linter.unusedSimpArgs false
namespace Go.Proofs.Ytabgmnmpdjnjoaa
open Go Go.RowKit
section
variable {n : Nat} {σ : Sg} {w : World} {dst : Option Tmp} {ty : TypeId} {t' : TypeId} {pos : String} {af : Array Edge} {g : Option (Nat × Bool)} {x y z : Operand} {at' : Array TypeId}
theorem mm_min3 {p q s r : Int} (hx : evS σ x = some (.int .i64 p)) (hy : evS σ y = some (.int .i64 q)) (hz : evS σ z = some (.int .i64 s)) (hr : min (min p q) s = r) : Gives Try.prog n σ w ⟨dst, .call { callee := .builtin .min, args := #[x, y, z], argTypes := at' }, ty, pos, af, g⟩ (.int .i64 r) := fun a ha => by
  simp only [execOp, resolve, List.map_toArray, List.map_cons, List.map_nil, ha.eval hx, ha.eval hy, ha.eval hz]
  subst hr
  simp [go_sem, Int.min_def]
  repeat' split
  all_goals first | omega | (simp [go_sem]; repeat' split) | skip
  all_goals omega
end
set_option maxHeartbeats 4000000 in
set_option maxRecDepth 100000 in
theorem least_law (nt : Net) (vp vw : Value) (w : World) (B : Nat) (hr : RdNet w B vp vw nt) (hB : B ≤ w.heap.size) (hm1 : nt.ports.length ≤ 9223372036854775807) (hm2 : nt.ways.length ≤ 9223372036854775807) (xs ys : List Int) (vx vy : Value) (hrx : Rd w B 1 vx xs.length (u8s xs)) (hry : Rd w B 1 vy ys.length (u8s ys)) (hbx : byteL xs) (hby : byteL ys) (hlx : xs.length ≤ 9223372036854775807) (hly : ys.length ≤ 9223372036854775807) :
    Calls Try.prog 11 #[.agg #[vp, vw], vx, vy] w fun e w' => e = .returned (.bool true) ∧ Below w.heap.size w w' := by
  obtain ⟨Ap, cp_, rfl, _⟩ := hr.ports.shape
  obtain ⟨Aw, cw_, rfl, _⟩ := hr.ways.shape
  obtain ⟨Ax, cx, rfl, _⟩ := hrx.shape
  obtain ⟨Ay, cy, rfl, _⟩ := hry.shape
  have hbw := Below.refl w.heap.size w
  refine EC.enter 326 Try.func11 rfl rfl rfl ?_
  refine EC.seq ?_
  refine EC.region ?_
  refine EL.newP (bx_25 rfl) rfl ?_
  intro g1 w1 q1 hb1 hg1 hl1
  have bhbw_1 := Nat.le_trans hbw.size hg1
  replace hbw := Below.on hbw hb1 hbw.size
  clear hb1 hg1 hl1
  refine EL.val (x_assign rfl) rfl ?_
  refine EL.nil ?_
  refine EX.seq ?_
  refine EC.seq ?_
  refine EC.seq ?_
  refine EC.region ?_
  refine EL.val (fa_25_0 rfl) rfl ?_
  refine EL.val (ld_22 rfl (q1.at (j := 0) rfl)) rfl ?_
  refine EL.val (ln_22 rfl) rfl ?_
  by_cases lm1 : 30 < nt.ports.length
  ·
    refine EL.val (x_gtr (r := true) rfl rfl (decide_eq_true (by omega))) rfl ?_
    refine EL.val (x_move rfl) rfl ?_
    refine EL.skip rfl rfl rfl rfl ?_
    refine EL.skip rfl rfl rfl rfl ?_
    refine EL.skip rfl rfl rfl rfl ?_
    refine EL.skip rfl rfl rfl rfl ?_
    refine EL.val (x_pick_t rfl rfl) rfl ?_
    refine EL.val (x_move rfl) rfl ?_
    refine EL.skip rfl rfl rfl rfl ?_
    refine EL.skip rfl rfl rfl rfl ?_
    refine EL.skip rfl rfl rfl rfl ?_
    refine EL.skip rfl rfl rfl rfl ?_
    refine EL.val (x_pick_t rfl rfl) rfl ?_
    refine EL.nil ?_
    refine EX.seq ?_
    refine EC.yes rfl ?_
    refine EC.seq ?_
    refine EC.region ?_
    refine EL.call cl_13 rfl (known_any _) ?_
    rintro e w2 ⟨rfl, hc2⟩
    refine ⟨_, rfl, ?_⟩
    replace q1 := q1.below hc2 q1.lt
    replace hbw := Below.on hbw hc2 hbw.size
    clear hc2
    refine EL.val (x_assign rfl) rfl ?_
    refine EL.nil ?_
    refine EX.seq ?_
    refine EC.ret ?_
    refine EX.seq_ret ?_
    exact EX.done (res1 rfl rfl) ⟨rfl, hbw⟩
  ·
    refine EL.val (x_gtr (r := false) rfl rfl (decide_eq_false (by omega))) rfl ?_
    refine EL.val (x_move rfl) rfl ?_
    refine EL.valg rfl rfl (fa_25_1 rfl) rfl ?_
    refine EL.valg rfl rfl (ld_23 rfl (q1.at (j := 1) rfl)) rfl ?_
    refine EL.valg rfl rfl (ln_23 rfl) rfl ?_
    by_cases lm2 : 100 < nt.ways.length
    ·
      refine EL.valg rfl rfl (x_gtr (r := true) rfl rfl (decide_eq_true (by omega))) rfl ?_
      refine EL.val (x_pick_f rfl rfl) rfl ?_
      refine EL.val (x_move rfl) rfl ?_
      refine EL.skip rfl rfl rfl rfl ?_
      refine EL.skip rfl rfl rfl rfl ?_
      refine EL.skip rfl rfl rfl rfl ?_
      refine EL.skip rfl rfl rfl rfl ?_
      refine EL.val (x_pick_t rfl rfl) rfl ?_
      refine EL.nil ?_
      refine EX.seq ?_
      refine EC.yes rfl ?_
      refine EC.seq ?_
      refine EC.region ?_
      refine EL.call cl_13 rfl (known_any _) ?_
      rintro e w3 ⟨rfl, hc3⟩
      refine ⟨_, rfl, ?_⟩
      replace q1 := q1.below hc3 q1.lt
      replace hbw := Below.on hbw hc3 hbw.size
      clear hc3
      refine EL.val (x_assign rfl) rfl ?_
      refine EL.nil ?_
      refine EX.seq ?_
      refine EC.ret ?_
      refine EX.seq_ret ?_
      exact EX.done (res1 rfl rfl) ⟨rfl, hbw⟩
    ·
      refine EL.valg rfl rfl (x_gtr (r := false) rfl rfl (decide_eq_false (by omega))) rfl ?_
      refine EL.val (x_pick_f rfl rfl) rfl ?_
      refine EL.val (x_move rfl) rfl ?_
      refine EL.valg rfl rfl (ld_25 rfl (q1.at (j := 0) rfl) (q1.at (j := 1) rfl)) rfl ?_
      refine EL.callg rfl rfl (cl_14 rfl) rfl (copied_any nt _ _ _ B (hr.below (hbw.mono hB)) (Nat.le_trans hB hbw.size) (by omega) (by omega)) ?_
      rintro e w4 ⟨⟨vp4, vw4, rfl, ho1⟩, hc4⟩
      refine ⟨_, rfl, ?_⟩
      replace q1 := q1.below hc4 q1.lt
      replace hbw := Below.on hbw hc4 hbw.size
      clear hc4
      obtain ⟨Bp4, dp4, rfl, _⟩ := (Rd.of_own ho1.ports).shape
      obtain ⟨Bw4, dw4, rfl, _⟩ := (Rd.of_own ho1.ways).shape
      by_cases hv : netB nt = true
      ·
        obtain ⟨⟨hp1, hp60⟩, hw300, hvp, hvw⟩ := netB_ok hv
        refine EL.callg rfl rfl (cl_27 rfl) rfl (check_to (e0 := 0) (by rw [netE, if_pos hv]) _ _ _ _ ho1.rd (Nat.le_refl _) (by omega) (by omega)) ?_
        rintro e w5 ⟨rfl, hc5⟩
        refine ⟨_, rfl, ?_⟩
        replace q1 := q1.below hc5 q1.lt
        replace hbw := Below.on hbw hc5 hbw.size
        clear hc5
        refine EL.valg rfl rfl (x_neq (r := false) rfl rfl (decide_eq_false (fun h => h rfl))) rfl ?_
        refine EL.val (x_pick_f rfl rfl) rfl ?_
        refine EL.nil ?_
        refine EX.seq ?_
        refine EC.no rfl ?_
        refine EC.skip ?_
        refine EX.seq ?_
        refine EC.seq ?_
        refine EC.region ?_
        refine EL.val (ld_25 rfl (q1.at (j := 0) rfl) (q1.at (j := 1) rfl)) rfl ?_
        refine EL.call (cl_14 rfl) rfl (copied_any nt _ _ _ B (hr.below (hbw.mono hB)) (Nat.le_trans hB hbw.size) (by omega) (by omega)) ?_
        rintro e w6 ⟨⟨vp6, vw6, rfl, ho3⟩, hc6⟩
        refine ⟨_, rfl, ?_⟩
        replace q1 := q1.below hc6 q1.lt
        replace hbw := Below.on hbw hc6 hbw.size
        clear hc6
        obtain ⟨Bp6, dp6, rfl, _⟩ := (Rd.of_own ho3.ports).shape
        obtain ⟨Bw6, dw6, rfl, _⟩ := (Rd.of_own ho3.ways).shape
        refine EL.call (cl_15 rfl) rfl (move_any nt _ _ _ _ ho3.rd (Nat.le_refl _) (by omega) (by omega)) ?_
        rintro e w7 ⟨⟨vm, vr, ml, c, pr, err, rfl, hm, hrm, hrp⟩, hc7⟩
        refine ⟨_, rfl, ?_⟩
        replace q1 := q1.below hc7 q1.lt
        replace hbw := Below.on hbw hc7 hbw.size
        clear hc7
        obtain ⟨Am, cm_, rfl, _⟩ := hrm.shape
        obtain ⟨Ar, cr_, rfl, _⟩ := hrp.shape
        have hwM := hbw.size
        have hrM : RdNet w7 w7.heap.size _ _ nt := ⟨(hr.ports.below (hbw.mono hB)).more (Nat.le_trans hB hbw.size), (hr.ways.below (hbw.mono hB)).more (Nat.le_trans hB hbw.size)⟩
        have hbM := Below.refl w7.heap.size w7
        refine EL.val (x_move rfl) rfl ?_
        refine EL.val (x_extract rfl rfl) rfl ?_
        refine EL.val (x_extract rfl rfl) rfl ?_
        refine EL.val (x_extract rfl rfl) rfl ?_
        refine EL.val (x_extract rfl rfl) rfl ?_
        refine EL.val (x_assign rfl) rfl ?_
        refine EL.val (x_assign rfl) rfl ?_
        refine EL.val (x_assign rfl) rfl ?_
        refine EL.val (x_assign rfl) rfl ?_
        refine EL.nil ?_
        refine EX.seq ?_
        refine EC.seq ?_
        refine EC.seq ?_
        refine EC.region ?_
        refine EL.val (x_move rfl) rfl ?_
        by_cases he0 : err = 0
        ·
          subst he0
          obtain ⟨ha, hcV, hcE, hbV, hbE, hpV, hpE, hc0, hpl, hml⟩ := least_facts hv hm
          refine EL.val (x_neq (r := false) rfl rfl (decide_eq_false (fun h => h rfl))) rfl ?_
          refine EL.nil ?_
          refine EX.seq ?_
          refine EC.no rfl ?_
          refine EC.skip ?_
          refine EX.seq ?_
          refine EC.seq ?_
          refine EC.region ?_
          refine EL.val (ld_25 rfl (q1.at (j := 0) rfl) (q1.at (j := 1) rfl)) rfl ?_
          refine EL.val (x_move rfl) rfl ?_
          have hszE := hbM.size
          refine EL.call (cl_36 rfl rfl) rfl (extra_any nt ml _ _ _ _ _ (hrM.below hbM) (hrm.below hbM) hbM.size hv hml (aft_parts ha).2.1) ?_
          rintro e w8 ⟨⟨vo, rfl, hov⟩, hc8⟩
          refine ⟨_, rfl, ?_⟩
          replace q1 := q1.below hc8 q1.lt
          replace hbw := Below.on hbw hc8 hbw.size
          replace hbM := Below.on hbM hc8 hbM.size
          clear hc8
          replace hov := own_less hov hszE
          clear hszE
          obtain ⟨Ao, cov, rfl, _⟩ := (Rd.of_own hov).shape
          obtain ⟨gov, rfl⟩ := own_slice hov (by omega)
          refine EL.val (x_move rfl) rfl ?_
          refine EL.val (x_extract rfl rfl) rfl ?_
          refine EL.val (x_extract rfl rfl) rfl ?_
          refine EL.val (x_assign rfl) rfl ?_
          refine EL.val (x_assign rfl) rfl ?_
          refine EL.nil ?_
          refine EX.seq ?_
          refine EC.seq ?_
          refine EC.region ?_
          refine EL.val (ld_25 rfl (q1.at (j := 0) rfl) (q1.at (j := 1) rfl)) rfl ?_
          refine EL.call (cl_14 rfl) rfl (copied_any nt _ _ _ B (hr.below (hbw.mono hB)) (Nat.le_trans hB hbw.size) (by omega) (by omega)) ?_
          rintro e w9 ⟨⟨vp9, vw9, rfl, ho7⟩, hc9⟩
          refine ⟨_, rfl, ?_⟩
          replace q1 := q1.below hc9 q1.lt
          replace hov := own_below hov hc9 (Nat.le_refl _)
          replace hbw := Below.on hbw hc9 hbw.size
          replace hbM := Below.on hbM hc9 hbM.size
          clear hc9
          obtain ⟨Bp9, dp9, rfl, _⟩ := (Rd.of_own ho7.ports).shape
          obtain ⟨Bw9, dw9, rfl, _⟩ := (Rd.of_own ho7.ways).shape
          refine EL.val (x_move rfl) rfl ?_
          refine EL.call (cl_30 rfl) rfl (ints_any ml _ _ _ (hrm.below hbM) hbM.size (by omega)) ?_
          rintro e w10 ⟨⟨vl10, rfl, hl7⟩, hc10⟩
          refine ⟨_, rfl, ?_⟩
          replace q1 := q1.below hc10 q1.lt
          replace hov := own_below hov hc10 (Nat.le_refl _)
          replace ho7 := ho7.below hc10
          replace hbw := Below.on hbw hc10 hbw.size
          replace hbM := Below.on hbM hc10 hbM.size
          clear hc10
          obtain ⟨Al10, cl10, rfl, _⟩ := (Rd.of_own hl7).shape
          refine EL.call (cl_31 rfl rfl) rfl (cost_to hcV hcE _ _ _ _ ho7.rd (Nat.le_refl _) (by omega) (by omega) _ (Rd.of_own hl7) (by omega)) ?_
          rintro e w11 ⟨rfl, hc11⟩
          refine ⟨_, rfl, ?_⟩
          replace q1 := q1.below hc11 q1.lt
          replace hov := own_below hov hc11 (Nat.le_refl _)
          replace ho7 := ho7.below hc11
          replace hl7 := own_below hl7 hc11 (Nat.le_refl _)
          replace hbw := Below.on hbw hc11 hbw.size
          replace hbM := Below.on hbM hc11 hbM.size
          clear hc11
          refine EL.val (x_move rfl) rfl ?_
          refine EL.val (x_extract rfl rfl) rfl ?_
          refine EL.val (x_extract rfl rfl) rfl ?_
          refine EL.val (x_assign rfl) rfl ?_
          refine EL.val (x_assign rfl) rfl ?_
          refine EL.nil ?_
          refine EX.seq ?_
          refine EC.seq ?_
          refine EC.region ?_
          refine EL.val (ld_25 rfl (q1.at (j := 0) rfl) (q1.at (j := 1) rfl)) rfl ?_
          refine EL.call (cl_14 rfl) rfl (copied_any nt _ _ _ B (hr.below (hbw.mono hB)) (Nat.le_trans hB hbw.size) (by omega) (by omega)) ?_
          rintro e w12 ⟨⟨vp12, vw12, rfl, ho8⟩, hc12⟩
          refine ⟨_, rfl, ?_⟩
          replace q1 := q1.below hc12 q1.lt
          replace hov := own_below hov hc12 (Nat.le_refl _)
          replace hbw := Below.on hbw hc12 hbw.size
          replace hbM := Below.on hbM hc12 hbM.size
          clear hc12
          obtain ⟨Bp12, dp12, rfl, _⟩ := (Rd.of_own ho8.ports).shape
          obtain ⟨Bw12, dw12, rfl, _⟩ := (Rd.of_own ho8.ways).shape
          refine EL.val (x_move rfl) rfl ?_
          refine EL.call (cl_30 rfl) rfl (ints_any pr _ _ _ (hrp.below hbM) hbM.size (by omega)) ?_
          rintro e w13 ⟨⟨vl13, rfl, hl8⟩, hc13⟩
          refine ⟨_, rfl, ?_⟩
          replace q1 := q1.below hc13 q1.lt
          replace hov := own_below hov hc13 (Nat.le_refl _)
          replace ho8 := ho8.below hc13
          replace hbw := Below.on hbw hc13 hbw.size
          replace hbM := Below.on hbM hc13 hbM.size
          clear hc13
          obtain ⟨Al13, cl13, rfl, _⟩ := (Rd.of_own hl8).shape
          refine EL.call (cl_32 rfl rfl) rfl (bound_to hbV hbE _ _ _ _ ho8.rd (Nat.le_refl _) (by omega) (by omega) _ (Rd.of_own hl8) (by omega)) ?_
          rintro e w14 ⟨rfl, hc14⟩
          refine ⟨_, rfl, ?_⟩
          replace q1 := q1.below hc14 q1.lt
          replace hov := own_below hov hc14 (Nat.le_refl _)
          replace ho8 := ho8.below hc14
          replace hl8 := own_below hl8 hc14 (Nat.le_refl _)
          replace hbw := Below.on hbw hc14 hbw.size
          replace hbM := Below.on hbM hc14 hbM.size
          clear hc14
          refine EL.val (x_move rfl) rfl ?_
          refine EL.val (x_extract rfl rfl) rfl ?_
          refine EL.val (x_extract rfl rfl) rfl ?_
          refine EL.val (x_assign rfl) rfl ?_
          refine EL.val (x_assign rfl) rfl ?_
          refine EL.nil ?_
          refine EX.seq ?_
          refine EC.seq ?_
          refine EC.region ?_
          refine EL.val (ld_25 rfl (q1.at (j := 0) rfl) (q1.at (j := 1) rfl)) rfl ?_
          refine EL.call (cl_14 rfl) rfl (copied_any nt _ _ _ B (hr.below (hbw.mono hB)) (Nat.le_trans hB hbw.size) (by omega) (by omega)) ?_
          rintro e w15 ⟨⟨vp15, vw15, rfl, ho9⟩, hc15⟩
          refine ⟨_, rfl, ?_⟩
          replace q1 := q1.below hc15 q1.lt
          replace hov := own_below hov hc15 (Nat.le_refl _)
          replace hbw := Below.on hbw hc15 hbw.size
          replace hbM := Below.on hbM hc15 hbM.size
          clear hc15
          obtain ⟨Bp15, dp15, rfl, _⟩ := (Rd.of_own ho9.ports).shape
          obtain ⟨Bw15, dw15, rfl, _⟩ := (Rd.of_own ho9.ways).shape
          refine EL.val (x_move rfl) rfl ?_
          refine EL.call (cl_30 rfl) rfl (ints_any ml _ _ _ (hrm.below hbM) hbM.size (by omega)) ?_
          rintro e w16 ⟨⟨vl16, rfl, hl9⟩, hc16⟩
          refine ⟨_, rfl, ?_⟩
          replace q1 := q1.below hc16 q1.lt
          replace hov := own_below hov hc16 (Nat.le_refl _)
          replace ho9 := ho9.below hc16
          replace hbw := Below.on hbw hc16 hbw.size
          replace hbM := Below.on hbM hc16 hbM.size
          clear hc16
          obtain ⟨Al16, cl16, rfl, _⟩ := (Rd.of_own hl9).shape
          refine EL.val (x_move rfl) rfl ?_
          refine EL.call (cl_30 rfl) rfl (ints_any pr _ _ _ (hrp.below hbM) hbM.size (by omega)) ?_
          rintro e w17 ⟨⟨vl17, rfl, hl9b⟩, hc17⟩
          refine ⟨_, rfl, ?_⟩
          replace q1 := q1.below hc17 q1.lt
          replace hov := own_below hov hc17 (Nat.le_refl _)
          replace ho9 := ho9.below hc17
          replace hl9 := own_below hl9 hc17 (Nat.le_refl _)
          replace hbw := Below.on hbw hc17 hbw.size
          replace hbM := Below.on hbM hc17 hbM.size
          clear hc17
          obtain ⟨Al17, cl17, rfl, _⟩ := (Rd.of_own hl9b).shape
          refine EL.call (cl_33 rfl rfl rfl) rfl (proves_to hpV hpE _ _ _ _ ho9.rd (Nat.le_refl _) (by omega) (by omega) _ _ (Rd.of_own hl9) (Rd.of_own hl9b) (by omega) (by omega)) ?_
          rintro e w18 ⟨rfl, hc18⟩
          refine ⟨_, rfl, ?_⟩
          replace q1 := q1.below hc18 q1.lt
          replace hov := own_below hov hc18 (Nat.le_refl _)
          replace ho9 := ho9.below hc18
          replace hl9 := own_below hl9 hc18 (Nat.le_refl _)
          replace hl9b := own_below hl9b hc18 (Nat.le_refl _)
          replace hbw := Below.on hbw hc18 hbw.size
          replace hbM := Below.on hbM hc18 hbM.size
          clear hc18
          refine EL.val (x_move rfl) rfl ?_
          refine EL.val (x_extract rfl rfl) rfl ?_
          refine EL.val (x_extract rfl rfl) rfl ?_
          refine EL.val (x_assign rfl) rfl ?_
          refine EL.val (x_assign rfl) rfl ?_
          refine EL.nil ?_
          refine EX.seq ?_
          refine EC.seq ?_
          refine EC.seq ?_
          refine EC.region ?_
          refine EL.val (x_move rfl) rfl ?_
          refine EL.val (x_not rfl) rfl ?_
          refine EL.val (x_move rfl) rfl ?_
          refine EL.valg rfl rfl (x_move rfl) rfl ?_
          refine EL.valg rfl rfl (x_neq (r := false) rfl rfl (decide_eq_false (fun h => h rfl))) rfl ?_
          refine EL.val (x_pick_f rfl rfl) rfl ?_
          refine EL.val (x_move rfl) rfl ?_
          refine EL.valg rfl rfl (x_move rfl) rfl ?_
          refine EL.valg rfl rfl (x_neq (r := false) rfl rfl (decide_eq_false (fun h => h rfl))) rfl ?_
          refine EL.val (x_pick_f rfl rfl) rfl ?_
          refine EL.val (x_move rfl) rfl ?_
          refine EL.valg rfl rfl (x_move rfl) rfl ?_
          refine EL.valg rfl rfl (x_neq (r := false) rfl rfl (decide_eq_false (fun h => h rfl))) rfl ?_
          refine EL.val (x_pick_f rfl rfl) rfl ?_
          refine EL.val (x_move rfl) rfl ?_
          refine EL.valg rfl rfl (x_move rfl) rfl ?_
          refine EL.valg rfl rfl (x_move rfl) rfl ?_
          refine EL.valg rfl rfl (x_neq (r := false) rfl rfl (decide_eq_false (fun h => h rfl))) rfl ?_
          refine EL.val (x_pick_f rfl rfl) rfl ?_
          refine EL.val (x_move rfl) rfl ?_
          refine EL.valg rfl rfl (x_move rfl) rfl ?_
          refine EL.valg rfl rfl (x_move rfl) rfl ?_
          refine EL.valg rfl rfl (x_neq (r := false) rfl rfl (decide_eq_false (fun h => h rfl))) rfl ?_
          refine EL.val (x_pick_f rfl rfl) rfl ?_
          refine EL.val (x_move rfl) rfl ?_
          refine EL.valg rfl rfl (x_move rfl) rfl ?_
          refine EL.valg rfl rfl (x_not rfl) rfl ?_
          refine EL.val (x_pick_f rfl rfl) rfl ?_
          refine EL.val (x_move rfl) rfl ?_
          refine EL.valg rfl rfl (x_move rfl) rfl ?_
          refine EL.valg rfl rfl (x_lss (r := false) rfl rfl (decide_eq_false (by omega))) rfl ?_
          refine EL.val (x_pick_f rfl rfl) rfl ?_
          refine EL.val (x_move rfl) rfl ?_
          refine EL.valg rfl rfl (x_move rfl) rfl ?_
          refine EL.valg rfl rfl (ln_29 rfl) rfl ?_
          refine EL.valg rfl rfl (fa_25_0 rfl) rfl ?_
          refine EL.valg rfl rfl (ld_22 rfl (q1.at (j := 0) rfl)) rfl ?_
          refine EL.valg rfl rfl (ln_22 rfl) rfl ?_
          refine EL.valg rfl rfl (x_neq (r := false) rfl rfl (decide_eq_false (fun h => h (by omega)))) rfl ?_
          refine EL.val (x_pick_f rfl rfl) rfl ?_
          refine EL.nil ?_
          refine EX.seq ?_
          refine EC.no rfl ?_
          refine EC.skip ?_
          refine EX.seq ?_
          refine EC.seq ?_
          refine EC.seq ?_
          refine EC.region ?_
          refine EL.val (x_assign rfl) rfl ?_
          refine EL.nil ?_
          refine EX.seq ?_
          refine EC.block ?_
          refine EC.loopD [6, 19, 144, 145, 146, 147, 148, 149, 150, 151, 152, 153, 154] (fun x : Nat => [(19, .int .i64 (x : Nat))]) (fun x W => x ≤ nt.ports.length ∧ Blk W g1 25 #[.slice Ap nt.ports.length cp_, .slice Aw nt.ways.length cw_] ∧ W.ownsRow w7.heap.size 3 1 (.slice (some ⟨gov, 0, none⟩) nt.ports.length cov) nt.ports.length (ints (extL nt ml)) ∧ Below w7.heap.size w7 W ∧ Below w.heap.size w W) (fun x => nt.ports.length - x) 0 ⟨Nat.zero_le _, q1, hov, hbM, hbw⟩ ⟨rfl, trivial⟩ ?_
          clear q1 hov hbM hbw
          rintro x wx ⟨hx, q2x, hov, hbM, hbw⟩
          by_cases hlt : x < nt.ports.length
          ·
            have hel : (extL nt ml).length = nt.ports.length := extTo_len _
            have hen := ext_nn ha hlt
            have rc := own_int_cell hov (k := x) (by omega)
            refine EC.seq ?_
            refine EC.seq ?_
            refine EC.region ?_
            refine EL.val (x_move rfl) rfl ?_
            refine EL.val (x_move rfl) rfl ?_
            refine EL.val (ln_29 rfl) rfl ?_
            refine EL.val (x_lss rfl rfl (decide_eq_true (show (((x : Nat) : Int) < ((nt.ports.length : Nat) : Int)) by omega))) rfl ?_
            refine EL.nil ?_
            refine EX.seq ?_
            refine EC.yes rfl ?_
            refine EC.skip ?_
            refine EX.seq ?_
            refine EC.seq ?_
            refine EC.block ?_
            refine EC.seq ?_
            refine EC.region ?_
            refine EL.val (x_move rfl) rfl ?_
            refine EL.val (x_move rfl) rfl ?_
            refine EL.val (ix_29 rfl rfl hlt) rfl ?_
            refine EL.val (ld_3 rfl rc) rfl ?_
            refine EL.val (x_lss (r := false) rfl rfl (decide_eq_false (by omega))) rfl ?_
            refine EL.nil ?_
            refine EX.seq ?_
            refine EC.no rfl ?_
            refine EC.skip ?_
            refine EX.blk ?_
            refine EX.seq ?_
            refine EC.region ?_
            refine EL.val (x_move rfl) rfl ?_
            refine EL.val (x_add rfl rfl (c := ((x + 1 : Nat) : Int)) ((IntWalk.i64_in _ ⟨by first | omega | (simp only; omega), by first | omega | (simp only; omega)⟩).trans (by first | omega | (simp only; omega)))) rfl ?_
            refine EL.val (x_assign rfl) rfl ?_
            refine EL.nil ?_
            refine EX.roundD (x + 1) ⟨rfl, trivial⟩ (by repeat first | with_reducible exact Sub.refl _ | refine sub_past rfl ?_ | exact Sub.refl _ | refine sub_del rfl ?_ | refine sub_insL_nil ?_) ⟨hlt, q2x, hov, hbM, hbw⟩ (by omega)
          ·
            have hxe : x = nt.ports.length := by omega
            subst hxe
            refine EC.seq ?_
            refine EC.seq ?_
            refine EC.region ?_
            refine EL.val (x_move rfl) rfl ?_
            refine EL.val (x_move rfl) rfl ?_
            refine EL.val (ln_29 rfl) rfl ?_
            refine EL.val (x_lss rfl rfl (decide_eq_false (show ¬(((nt.ports.length : Nat) : Int) < ((nt.ports.length : Nat) : Int)) by omega))) rfl ?_
            refine EL.nil ?_
            refine EX.seq ?_
            refine EC.no rfl ?_
            refine EC.exit ?_
            refine EX.seq_exit ?_
            refine EX.seq_exit ?_
            refine EX.blk_here ?_
            refine EX.seq ?_
            refine EC.seq ?_
            refine EC.region ?_
            have hovlt := (hov.lt gov rfl).2
            have hszL := hbM.size
            refine EL.newS bs_29_0 rfl ?_
            intro g19 w19 q19 hb19 hg19 hl19
            have n1_19 : g1 ≠ g19 := Nat.ne_of_lt (Nat.lt_of_lt_of_le q2x.lt hg19)
            have bhbw_19 := Nat.le_trans hbw.size hg19
            have bhbM_19 := Nat.le_trans hbM.size hg19
            replace q2x := q2x.below hb19 q2x.lt
            replace hov := own_below hov hb19 (Nat.le_refl _)
            replace hbw := Below.on hbw hb19 hbw.size
            replace hbM := Below.on hbM hb19 hbM.size
            clear hb19 hl19
            have hoo : World.ownsRow w19 w7.heap.size 3 1 (.slice (some ⟨g19, 0, none⟩) 0 0) 0 [] := own_empty 1 q19 (by omega)
            have hgvo : gov ≠ g19 := Nat.ne_of_lt (Nat.lt_of_lt_of_le hovlt hg19)
            refine EL.val (x_assign rfl) rfl ?_
            refine EL.nil ?_
            refine EX.seq ?_
            refine EC.seq ?_
            refine EC.seq ?_
            refine EC.region ?_
            refine EL.val (x_assign rfl) rfl ?_
            refine EL.nil ?_
            refine EX.seq ?_
            refine EC.block ?_
            refine EC.loopD [20, 21, 156, 157, 158, 159, 160, 161, 162, 163, 164, 165, 166, 167, 168, 169, 170, 171, 172, 173, 174, 175, 176, 177, 178, 179, 180, 181] (fun x : Nat × Value => [(20, x.2), (21, .int .i64 (x.1 : Nat))]) (fun x W => x.1 ≤ nt.ports.length ∧ W.ownsRow w7.heap.size 3 1 x.2 x.1 (ints (othL pr xs ys x.1)) ∧ (∀ g, x.2.ownBlock = some g → gov ≠ g) ∧ Blk W g1 25 #[.slice Ap nt.ports.length cp_, .slice Aw nt.ways.length cw_] ∧ W.ownsRow w7.heap.size 3 1 (.slice (some ⟨gov, 0, none⟩) nt.ports.length cov) nt.ports.length (ints (extL nt ml)) ∧ Below w7.heap.size w7 W ∧ Below w.heap.size w W) (fun x => nt.ports.length - x.1) (0, .slice (some ⟨g19, 0, none⟩) 0 0) ⟨Nat.zero_le _, hoo, (fun g h => by injection h with h; rw [← h]; exact hgvo), q2x, hov, hbM, hbw⟩ ⟨rfl, rfl, trivial⟩ ?_
            clear q2x hov hbM hbw hoo
            rintro ⟨x, vl⟩ wx ⟨hx, hoo, hav, q2x, hov, hbM, hbw⟩
            dsimp only at hx hoo hav
            obtain ⟨Al, cl, rfl, _⟩ := (Rd.of_own hoo).shape
            by_cases hlt : x < nt.ports.length
            ·
              have hbz := Below.refl wx.heap.size wx
              obtain ⟨bm, om, e_, _, pc⟩ := ints_cells pr x (by omega) _ _ _ _ _ hrp
              subst e_
              have px := part_bd hbx x
              have py := part_bd hby x
              have hpm := mul_bd (a := partI xs x) (b := partI ys x) (A := 255) (B := 255) px.1 px.2 (by omega) py.2 (by omega)
              have hpb := pr_at (pr_zero (move_ok hv hm).2.1).2 x
              refine EC.seq ?_
              refine EC.seq ?_
              refine EC.region ?_
              refine EL.val (x_move rfl) rfl ?_
              refine EL.val (x_move rfl) rfl ?_
              refine EL.val (ln_29 rfl) rfl ?_
              refine EL.val (x_lss rfl rfl (decide_eq_true (show (((x : Nat) : Int) < ((pr.length : Nat) : Int)) by omega))) rfl ?_
              refine EL.nil ?_
              refine EX.seq ?_
              refine EC.yes rfl ?_
              refine EC.skip ?_
              refine EX.seq ?_
              refine EC.seq ?_
              refine EC.block ?_
              have hovb := (hov.lt gov rfl).2
              have hszW := hbM.size
              have hW := below_row hoo (w1 := wx) ⟨rfl, rfl, rfl, Nat.le_refl _, fun _ _ _ => rfl⟩ hbM.size
              clear hW
              have lt_1 := q2x.lt
              refine EC.regionS [[], [], [], [1, 2], [1, 2, 3], [], [], [5, 6], [5, 6, 7], [], [], [5, 6, 7, 9, 10], [5, 6, 7, 9, 10, 11], [5, 6, 7, 8, 9, 10, 11, 12], [1, 2, 3, 4, 5, 6, 7, 8, 9, 10, 11, 12, 13], [1, 2, 3, 4, 5, 6, 7, 8, 9, 10, 11, 12, 13, 14], [1, 2, 3, 4, 5, 6, 7, 8, 9, 10, 11, 12, 13, 14, 15], [1, 2, 3, 4, 5, 6, 7, 8, 9, 10, 11, 12, 13, 14, 15, 16], [1, 2, 3, 4, 5, 6, 7, 8, 9, 10, 11, 12, 13, 14, 15, 16, 17], [0, 1, 2, 3, 4, 5, 6, 7, 8, 9, 10, 11, 12, 13, 14, 15, 16, 17, 18], [0, 1, 2, 3, 4, 5, 6, 7, 8, 9, 10, 11, 12, 13, 14, 15, 16, 17, 18, 19]] 20 [] [19] (fun fl w_ => wx.grownBy w_ ((.slice Al x cl) : Value).ownBlock ∧ (fl 19 = false → w_.ownsRow w7.heap.size 3 1 (.slice Al x cl) x (ints (othL pr xs ys x)))) (phiS (fun i_ r => match i_ with | 0 => r 0 = .slice Al x cl | 1 => r 1 = .slice (some ⟨bm, om, none⟩) pr.length cr_ | 2 => r 2 = .int .i64 (x : Nat) | 3 => r 3 = .pointer (some ⟨bm, om + x, none⟩) | 4 => r 4 = .int .i64 (pr.getD x 0) | 5 => r 5 = .slice Ax xs.length cx | 6 => r 6 = .int .i64 (x : Nat) | 7 => r 7 = .int .u8 (partI xs x) | 8 => r 8 = .int .i64 (partI xs x) | 9 => r 9 = .slice Ay ys.length cy | 10 => r 10 = .int .i64 (x : Nat) | 11 => r 11 = .int .u8 (partI ys x) | 12 => r 12 = .int .i64 (partI ys x) | 13 => r 13 = .int .i64 (partI xs x * partI ys x) | 14 => r 14 = .int .i64 (pr.getD x 0 + partI xs x * partI ys x) | 15 => r 15 = .int .i64 (pr.getD x 0 + partI xs x * partI ys x - 3000) | 16 => r 16 = .int .i64 (max 0 (pr.getD x 0 + partI xs x * partI ys x - 3000)) | 17 => r 17 = .int .i64 (othP pr xs ys x) | _ => True) [(18, fun fl r w_ => fl 19 = false → (∃ g_, r 18 = .slice (some ⟨g_, 0, none⟩) 1 1 ∧ Blk w_ g_ 3 #[.int .i64 (othP pr xs ys x)] ∧ wx.heap.size ≤ g_)), (19, fun _ r w_ => w_.ownsRow w7.heap.size 3 1 (r 19) (x + 1) ((ints (othL pr xs ys x)) ++ [.int .i64 (othP pr xs ys x)]) ∧ ∀ b, (r 19).ownBlock = some b → ((.slice Al x cl) : Value).ownBlock = some b ∨ wx.heap.size ≤ b)]) (by kernel_rfl) rfl rfl (by intro i hi; simp at hi; subst hi; exact ⟨by simp, by omega⟩) (base_row hoo) (phiS_cons (monoS_till mono_bs) (phiS_cons (monoS_row (e := 19) (C := fun u_ => ∀ b, u_.ownBlock = some b → ((.slice Al x cl) : Value).ownBlock = some b ∨ wx.heap.size ≤ b)) (phiS_nil))) (fun i_ hi_ hs_ => ?_) (fun i_ hi_ => ?_) ?_
              · match i_, hi_ with
                | 0, _ =>
                  intro val fl w1 a hb ha hd hfl
                  obtain ⟨hgb, hg0⟩ := hb
                  have hb := below_row hoo hgb hbM.size
                  have ha := ha.sub (Sub.ins (d := 20) (Sub.nil _) rfl)
                  exact ss_val ha rfl rfl (x_move rfl) rfl rfl
                | 1, _ =>
                  intro val fl w1 a hb ha hd hfl
                  obtain ⟨hgb, hg0⟩ := hb
                  have hb := below_row hoo hgb hbM.size
                  have ha := ha.sub (Sub.ins (d := 9) (Sub.nil _) rfl)
                  exact ss_val ha rfl rfl (x_move rfl) rfl rfl
                | 2, _ =>
                  intro val fl w1 a hb ha hd hfl
                  obtain ⟨hgb, hg0⟩ := hb
                  have hb := below_row hoo hgb hbM.size
                  have ha := ha.sub (Sub.ins (d := 21) (Sub.nil _) rfl)
                  exact ss_val ha rfl rfl (x_move rfl) rfl rfl
                | 3, _ =>
                  intro val fl w1 a hb ha hd hfl
                  obtain ⟨hgb, hg0⟩ := hb
                  have hb := below_row hoo hgb hbM.size
                  have e1 : val 1 = .slice (some ⟨bm, om, none⟩) pr.length cr_ := hd 1 (memB_mem.1 rfl)
                  have e2 : val 2 = .int .i64 (x : Nat) := hd 2 (memB_mem.1 rfl)
                  have ha := ha.sub (Sub.ins (d := 164) (Sub.ins (d := 163) (Sub.nil _) (dep_get rfl e1)) (dep_get rfl e2))
                  exact ss_val ha rfl rfl (ix_29 rfl rfl (show x < pr.length by omega)) rfl rfl
                | 4, _ =>
                  intro val fl w1 a hb ha hd hfl
                  obtain ⟨hgb, hg0⟩ := hb
                  have hb := below_row hoo hgb hbM.size
                  have e3 : val 3 = .pointer (some ⟨bm, om + x, none⟩) := hd 3 (memB_mem.1 rfl)
                  have ha := ha.sub (Sub.ins (d := 165) (Sub.nil _) (dep_get rfl e3))
                  exact ss_val ha rfl rfl (ld_3 rfl (below_load (hbM.trans hb) pc)) rfl rfl
                | 5, _ =>
                  intro val fl w1 a hb ha hd hfl
                  obtain ⟨hgb, hg0⟩ := hb
                  have hb := below_row hoo hgb hbM.size
                  have ha := ha.sub (Sub.ins (d := 1) (Sub.nil _) rfl)
                  exact ss_val ha rfl rfl (x_move rfl) rfl rfl
                | 6, _ =>
                  intro val fl w1 a hb ha hd hfl
                  obtain ⟨hgb, hg0⟩ := hb
                  have hb := below_row hoo hgb hbM.size
                  have ha := ha.sub (Sub.ins (d := 21) (Sub.nil _) rfl)
                  exact ss_val ha rfl rfl (x_move rfl) rfl rfl
                | 7, _ =>
                  intro val fl w1 a hb ha hd hfl
                  obtain ⟨hgb, hg0⟩ := hb
                  have hb := below_row hoo hgb hbM.size
                  have e5 : val 5 = .slice Ax xs.length cx := hd 5 (memB_mem.1 rfl)
                  have e6 : val 6 = .int .i64 (x : Nat) := hd 6 (memB_mem.1 rfl)
                  have ha := ha.sub (Sub.ins (d := 168) (Sub.ins (d := 167) (Sub.nil _) (dep_get rfl e5)) (dep_get rfl e6))
                  refine ss_call ha rfl rfl (cl_28 rfl rfl) (part_any xs _ x w1 B (hrx.below ((hbw.trans (hb.mono hwM)).mono hB)) hlx) rfl ?_
                  rintro e w' ⟨rfl, hb'⟩
                  exact ⟨_, rfl, hb', rfl⟩
                | 8, _ =>
                  intro val fl w1 a hb ha hd hfl
                  obtain ⟨hgb, hg0⟩ := hb
                  have hb := below_row hoo hgb hbM.size
                  have e7 : val 7 = .int .u8 (partI xs x) := hd 7 (memB_mem.1 rfl)
                  have ha := ha.sub (Sub.ins (d := 169) (Sub.nil _) (dep_get rfl e7))
                  exact ss_val ha rfl rfl (cv_5_3 rfl (IntWalk.i64_in _ ⟨by omega, by omega⟩)) rfl rfl
                | 9, _ =>
                  intro val fl w1 a hb ha hd hfl
                  obtain ⟨hgb, hg0⟩ := hb
                  have hb := below_row hoo hgb hbM.size
                  have ha := ha.sub (Sub.ins (d := 2) (Sub.nil _) rfl)
                  exact ss_val ha rfl rfl (x_move rfl) rfl rfl
                | 10, _ =>
                  intro val fl w1 a hb ha hd hfl
                  obtain ⟨hgb, hg0⟩ := hb
                  have hb := below_row hoo hgb hbM.size
                  have ha := ha.sub (Sub.ins (d := 21) (Sub.nil _) rfl)
                  exact ss_val ha rfl rfl (x_move rfl) rfl rfl
                | 11, _ =>
                  intro val fl w1 a hb ha hd hfl
                  obtain ⟨hgb, hg0⟩ := hb
                  have hb := below_row hoo hgb hbM.size
                  have e9 : val 9 = .slice Ay ys.length cy := hd 9 (memB_mem.1 rfl)
                  have e10 : val 10 = .int .i64 (x : Nat) := hd 10 (memB_mem.1 rfl)
                  have ha := ha.sub (Sub.ins (d := 172) (Sub.ins (d := 171) (Sub.nil _) (dep_get rfl e9)) (dep_get rfl e10))
                  refine ss_call ha rfl rfl (cl_28 rfl rfl) (part_any ys _ x w1 B (hry.below ((hbw.trans (hb.mono hwM)).mono hB)) hly) rfl ?_
                  rintro e w' ⟨rfl, hb'⟩
                  exact ⟨_, rfl, hb', rfl⟩
                | 12, _ =>
                  intro val fl w1 a hb ha hd hfl
                  obtain ⟨hgb, hg0⟩ := hb
                  have hb := below_row hoo hgb hbM.size
                  have e11 : val 11 = .int .u8 (partI ys x) := hd 11 (memB_mem.1 rfl)
                  have ha := ha.sub (Sub.ins (d := 173) (Sub.nil _) (dep_get rfl e11))
                  exact ss_val ha rfl rfl (cv_5_3 rfl (IntWalk.i64_in _ ⟨by omega, by omega⟩)) rfl rfl
                | 13, _ =>
                  intro val fl w1 a hb ha hd hfl
                  obtain ⟨hgb, hg0⟩ := hb
                  have hb := below_row hoo hgb hbM.size
                  have e8 : val 8 = .int .i64 (partI xs x) := hd 8 (memB_mem.1 rfl)
                  have e12 : val 12 = .int .i64 (partI ys x) := hd 12 (memB_mem.1 rfl)
                  have ha := ha.sub (Sub.ins (d := 174) (Sub.ins (d := 170) (Sub.nil _) (dep_get rfl e8)) (dep_get rfl e12))
                  exact ss_val ha rfl rfl (x_mul rfl rfl (c := partI xs x * partI ys x) (IntWalk.i64_in _ ⟨by omega, by omega⟩)) rfl rfl
                | 14, _ =>
                  intro val fl w1 a hb ha hd hfl
                  obtain ⟨hgb, hg0⟩ := hb
                  have hb := below_row hoo hgb hbM.size
                  have e4 : val 4 = .int .i64 (pr.getD x 0) := hd 4 (memB_mem.1 rfl)
                  have e13 : val 13 = .int .i64 (partI xs x * partI ys x) := hd 13 (memB_mem.1 rfl)
                  have ha := ha.sub (Sub.ins (d := 175) (Sub.ins (d := 166) (Sub.nil _) (dep_get rfl e4)) (dep_get rfl e13))
                  exact ss_val ha rfl rfl (x_add rfl rfl (c := pr.getD x 0 + partI xs x * partI ys x) (IntWalk.i64_in _ ⟨by omega, by omega⟩)) rfl rfl
                | 15, _ =>
                  intro val fl w1 a hb ha hd hfl
                  obtain ⟨hgb, hg0⟩ := hb
                  have hb := below_row hoo hgb hbM.size
                  have e14 : val 14 = .int .i64 (pr.getD x 0 + partI xs x * partI ys x) := hd 14 (memB_mem.1 rfl)
                  have ha := ha.sub (Sub.ins (d := 176) (Sub.nil _) (dep_get rfl e14))
                  exact ss_val ha rfl rfl (x_sub rfl rfl (c := pr.getD x 0 + partI xs x * partI ys x - 3000) (IntWalk.i64_in _ ⟨by omega, by omega⟩)) rfl rfl
                | 16, _ =>
                  intro val fl w1 a hb ha hd hfl
                  obtain ⟨hgb, hg0⟩ := hb
                  have hb := below_row hoo hgb hbM.size
                  have e15 : val 15 = .int .i64 (pr.getD x 0 + partI xs x * partI ys x - 3000) := hd 15 (memB_mem.1 rfl)
                  have ha := ha.sub (Sub.ins (d := 177) (Sub.nil _) (dep_get rfl e15))
                  exact ss_val ha rfl rfl (mm_max rfl rfl (r := max 0 (pr.getD x 0 + partI xs x * partI ys x - 3000)) rfl) rfl rfl
                | 17, _ =>
                  intro val fl w1 a hb ha hd hfl
                  obtain ⟨hgb, hg0⟩ := hb
                  have hb := below_row hoo hgb hbM.size
                  have e16 : val 16 = .int .i64 (max 0 (pr.getD x 0 + partI xs x * partI ys x - 3000)) := hd 16 (memB_mem.1 rfl)
                  have ha := ha.sub (Sub.ins (d := 178) (Sub.nil _) (dep_get rfl e16))
                  exact ss_val ha rfl rfl (mm_min rfl rfl (r := othP pr xs ys x) rfl) rfl rfl
                | 18, _ =>
                  intro val fl w1 a hb ha hd hfl
                  obtain ⟨hgb, hg0⟩ := hb
                  have hb := below_row hoo hgb hbM.size
                  have e17 : val 17 = .int .i64 (othP pr xs ys x) := hd 17 (memB_mem.1 rfl)
                  have ha := ha.sub (Sub.ins (d := 179) (Sub.nil _) (dep_get rfl e17))
                  exact ss_newS ha rfl rfl (bs_29_1 rfl) rfl (fun g w' hq _ hge => fun _ => ⟨g, rfl, hq, Nat.le_trans hgb.size hge⟩)
                | 19, _ =>
                  exact absurd (by simp) hs_
                | k + 20, h => exact absurd h (by omega)
              · simp only [List.mem_singleton] at hi_; subst hi_
                intro val fl w1 a hb hfi ha hd hfl
                obtain ⟨hgb, hg0⟩ := hb
                have hb := below_row hoo hgb hbM.size
                have e0 : val 0 = .slice Al x cl := hd 0 (memB_mem.1 rfl)
                obtain ⟨g18_, e18, q18_, h18_⟩ := hd 18 (memB_mem.1 rfl) hfi
                change val 18 = _ at e18
                have ha := ha.sub (Sub.ins (d := 180) (Sub.ins (d := 162) (Sub.nil _) (dep_get rfl e0)) (dep_get rfl e18))
                refine ts_push i64_elem ha rfl rfl rfl (hg0 hfi) (rd_one (l := [.int .i64 (othP pr xs ys x)]) q18_ rfl) (by intro u hu; rw [List.mem_singleton.1 hu]; rfl) (by omega) rfl (Nat.le_trans hbM.size hgb.size) ?_
                intro v' w' ho' hgr hat
                refine ⟨v', rfl, hgr.size, ⟨grown_three hgb hgr, fun h => by rw [fset_eq] at h; cases h⟩, ⟨ho', fun b hb' => ?_⟩, fun j _ hj hn hA => ?_⟩
                · rcases hat with h | h
                  · exact .inl (h ▸ hb')
                  · refine .inr ?_
                    change v'.ownBlock = some b at hb'
                    rw [h] at hb'
                    injection hb' with hb'
                    have := hgb.size
                    omega
                · exact phiS_cons_st (C := fun j => j ≠ 19 ∧ 19 ∉ clsAt [[], [], [], [1, 2], [1, 2, 3], [], [], [5, 6], [5, 6, 7], [], [], [5, 6, 7, 9, 10], [5, 6, 7, 9, 10, 11], [5, 6, 7, 8, 9, 10, 11, 12], [1, 2, 3, 4, 5, 6, 7, 8, 9, 10, 11, 12, 13], [1, 2, 3, 4, 5, 6, 7, 8, 9, 10, 11, 12, 13, 14], [1, 2, 3, 4, 5, 6, 7, 8, 9, 10, 11, 12, 13, 14, 15], [1, 2, 3, 4, 5, 6, 7, 8, 9, 10, 11, 12, 13, 14, 15, 16], [1, 2, 3, 4, 5, 6, 7, 8, 9, 10, 11, 12, 13, 14, 15, 16, 17], [0, 1, 2, 3, 4, 5, 6, 7, 8, 9, 10, 11, 12, 13, 14, 15, 16, 17, 18], [0, 1, 2, 3, 4, 5, 6, 7, 8, 9, 10, 11, 12, 13, 14, 15, 16, 17, 18, 19]] j) (fun _ _ h => by rw [fset_eq] at h; cases h) (phiS_cons_st (C := fun j => j ≠ 19 ∧ 19 ∉ clsAt [[], [], [], [1, 2], [1, 2, 3], [], [], [5, 6], [5, 6, 7], [], [], [5, 6, 7, 9, 10], [5, 6, 7, 9, 10, 11], [5, 6, 7, 8, 9, 10, 11, 12], [1, 2, 3, 4, 5, 6, 7, 8, 9, 10, 11, 12, 13], [1, 2, 3, 4, 5, 6, 7, 8, 9, 10, 11, 12, 13, 14], [1, 2, 3, 4, 5, 6, 7, 8, 9, 10, 11, 12, 13, 14, 15], [1, 2, 3, 4, 5, 6, 7, 8, 9, 10, 11, 12, 13, 14, 15, 16], [1, 2, 3, 4, 5, 6, 7, 8, 9, 10, 11, 12, 13, 14, 15, 16, 17], [0, 1, 2, 3, 4, 5, 6, 7, 8, 9, 10, 11, 12, 13, 14, 15, 16, 17, 18], [0, 1, 2, 3, 4, 5, 6, 7, 8, 9, 10, 11, 12, 13, 14, 15, 16, 17, 18, 19]] j) (fun hc => absurd rfl hc.1) (fun _ _ h => h)) j ⟨hj, hn⟩
              · intro val fl w' hfl hb halc hd
                obtain ⟨hgb, _⟩ := hb
                have hb := below_row hoo hgb hbM.size
                have e0 : val 0 = .slice Al x cl := hd 0 (by omega)
                have e1 : val 1 = .slice (some ⟨bm, om, none⟩) pr.length cr_ := hd 1 (by omega)
                have e2 : val 2 = .int .i64 (x : Nat) := hd 2 (by omega)
                have e3 : val 3 = .pointer (some ⟨bm, om + x, none⟩) := hd 3 (by omega)
                have e4 : val 4 = .int .i64 (pr.getD x 0) := hd 4 (by omega)
                have e5 : val 5 = .slice Ax xs.length cx := hd 5 (by omega)
                have e6 : val 6 = .int .i64 (x : Nat) := hd 6 (by omega)
                have e7 : val 7 = .int .u8 (partI xs x) := hd 7 (by omega)
                have e8 : val 8 = .int .i64 (partI xs x) := hd 8 (by omega)
                have e9 : val 9 = .slice Ay ys.length cy := hd 9 (by omega)
                have e10 : val 10 = .int .i64 (x : Nat) := hd 10 (by omega)
                have e11 : val 11 = .int .u8 (partI ys x) := hd 11 (by omega)
                have e12 : val 12 = .int .i64 (partI ys x) := hd 12 (by omega)
                have e13 : val 13 = .int .i64 (partI xs x * partI ys x) := hd 13 (by omega)
                have e14 : val 14 = .int .i64 (pr.getD x 0 + partI xs x * partI ys x) := hd 14 (by omega)
                have e15 : val 15 = .int .i64 (pr.getD x 0 + partI xs x * partI ys x - 3000) := hd 15 (by omega)
                have e16 : val 16 = .int .i64 (max 0 (pr.getD x 0 + partI xs x * partI ys x - 3000)) := hd 16 (by omega)
                have e17 : val 17 = .int .i64 (othP pr xs ys x) := hd 17 (by omega)
                obtain ⟨ho19, hn19⟩ := hd 19 (by omega)
                change w'.ownsRow _ _ _ (val 19) _ _ at ho19
                refine EL.ends (cs := [.slice Al x cl, .slice (some ⟨bm, om, none⟩) pr.length cr_, .int .i64 (x : Nat), .pointer (some ⟨bm, om + x, none⟩), .int .i64 (pr.getD x 0), .slice Ax xs.length cx, .int .i64 (x : Nat), .int .u8 (partI xs x), .int .i64 (partI xs x), .slice Ay ys.length cy, .int .i64 (x : Nat), .int .u8 (partI ys x), .int .i64 (partI ys x), .int .i64 (partI xs x * partI ys x), .int .i64 (pr.getD x 0 + partI xs x * partI ys x), .int .i64 (pr.getD x 0 + partI xs x * partI ys x - 3000), .int .i64 (max 0 (pr.getD x 0 + partI xs x * partI ys x - 3000)), .int .i64 (othP pr xs ys x), val 18, val 19]) ⟨e0, e1, e2, e3, e4, e5, e6, e7, e8, e9, e10, e11, e12, e13, e14, e15, e16, e17, rfl, rfl, trivial⟩ rfl ?_
                replace q2x := blk_grown q2x hoo rfl hgb
                replace hov := own_apart hov hgb (fun g h1 h2 => hav g h1 (by injection h2))
                replace hbw := hbw.trans (hb.mono hwM)
                replace hbM := hbM.trans (hb.mono (Nat.le_refl _))
                obtain ⟨v19, ev19⟩ : ∃ z, z = val 19 := ⟨_, rfl⟩
                change ∀ b, (val 19).ownBlock = some b → _ at hn19
                rw [← ev19] at ho19 hn19 ⊢
                have hav2 : ∀ g, v19.ownBlock = some g → gov ≠ g := fun g h => (hn19 g h).elim (hav g) (fun h2 => by omega)
                clear hn19 hav
                refine EL.val (x_assign rfl) rfl ?_
                refine EL.nil ?_
                refine EX.blk ?_
                refine EX.seq ?_
                refine EC.region ?_
                refine EL.val (x_move rfl) rfl ?_
                refine EL.val (x_add rfl rfl (c := ((x + 1 : Nat) : Int)) ((IntWalk.i64_in _ ⟨by first | omega | (simp only; omega), by first | omega | (simp only; omega)⟩).trans (by first | omega | (simp only; omega)))) rfl ?_
                refine EL.val (x_assign rfl) rfl ?_
                refine EL.nil ?_
                refine EX.roundD (x + 1, _) ⟨rfl, rfl, trivial⟩ (by repeat first | with_reducible exact Sub.refl _ | refine sub_past rfl ?_ | exact Sub.refl _ | refine sub_del rfl ?_ | refine sub_insL_nil ?_) ⟨hlt, by show World.ownsRow _ _ _ _ _ (x + 1) (ints (othL pr xs ys (x + 1))); rw [oth_succ, ints_app]; exact ho19, hav2, q2x, hov, hbM, hbw⟩ (by simp only; omega)
            ·
              have hxe : x = nt.ports.length := by omega
              subst hxe
              have hol : (othL pr xs ys nt.ports.length).length = nt.ports.length := by simp [othL]
              replace hoo := own_n hoo hol.symm
              refine EC.seq ?_
              refine EC.seq ?_
              refine EC.region ?_
              refine EL.val (x_move rfl) rfl ?_
              refine EL.val (x_move rfl) rfl ?_
              refine EL.val (ln_29 rfl) rfl ?_
              refine EL.val (x_lss rfl rfl (decide_eq_false (show ¬(((nt.ports.length : Nat) : Int) < ((pr.length : Nat) : Int)) by omega))) rfl ?_
              refine EL.nil ?_
              refine EX.seq ?_
              refine EC.no rfl ?_
              refine EC.exit ?_
              refine EX.seq_exit ?_
              refine EX.seq_exit ?_
              refine EX.blk_here ?_
              refine EX.seq ?_
              refine EC.seq ?_
              refine EC.seq ?_
              refine EC.region ?_
              refine EL.val (ld_25 rfl (q2x.at (j := 0) rfl) (q2x.at (j := 1) rfl)) rfl ?_
              refine EL.call (cl_14 rfl) rfl (copied_any nt _ _ _ B (hr.below (hbw.mono hB)) (Nat.le_trans hB hbw.size) (by omega) (by omega)) ?_
              rintro e w20 ⟨⟨vp20, vw20, rfl, ho22⟩, hc20⟩
              refine ⟨_, rfl, ?_⟩
              replace q2x := q2x.below hc20 q2x.lt
              replace hoo := own_below hoo hc20 (Nat.le_refl _)
              replace hov := own_below hov hc20 (Nat.le_refl _)
              replace hbw := Below.on hbw hc20 hbw.size
              replace hbM := Below.on hbM hc20 hbM.size
              clear hc20
              obtain ⟨Bp20, dp20, rfl, _⟩ := (Rd.of_own ho22.ports).shape
              obtain ⟨Bw20, dw20, rfl, _⟩ := (Rd.of_own ho22.ways).shape
              refine EL.val (x_move rfl) rfl ?_
              obtain ⟨hoE, hoB⟩ := oth_bound (xs := xs) (ys := ys) hv hm
              refine EL.call (cl_32 rfl rfl) rfl (bound_to rfl hoE _ _ _ _ ho22.rd (Nat.le_refl _) (by omega) (by omega) _ (Rd.of_own hoo) (by omega)) ?_
              rintro e w21 ⟨rfl, hc21⟩
              refine ⟨_, rfl, ?_⟩
              replace q2x := q2x.below hc21 q2x.lt
              replace hoo := own_below hoo hc21 (Nat.le_refl _)
              replace hov := own_below hov hc21 (Nat.le_refl _)
              replace ho22 := ho22.below hc21
              replace hbw := Below.on hbw hc21 hbw.size
              replace hbM := Below.on hbM hc21 hbM.size
              clear hc21
              refine EL.val (x_move rfl) rfl ?_
              refine EL.val (x_extract rfl rfl) rfl ?_
              refine EL.val (x_extract rfl rfl) rfl ?_
              refine EL.val (x_assign rfl) rfl ?_
              refine EL.val (x_assign rfl) rfl ?_
              refine EL.nil ?_
              refine EX.seq ?_
              refine EC.seq ?_
              refine EC.region ?_
              refine EL.val (x_move rfl) rfl ?_
              refine EL.val (x_neq (r := false) rfl rfl (decide_eq_false (fun h => h rfl))) rfl ?_
              refine EL.val (x_move rfl) rfl ?_
              refine EL.valg rfl rfl (x_move rfl) rfl ?_
              refine EL.valg rfl rfl (x_move rfl) rfl ?_
              refine EL.valg rfl rfl (x_gtr (r := false) rfl rfl (decide_eq_false (by omega))) rfl ?_
              refine EL.val (x_pick_f rfl rfl) rfl ?_
              refine EL.nil ?_
              refine EX.seq ?_
              refine EC.no rfl ?_
              refine EC.skip ?_
              refine EX.seq ?_
              refine EC.seq ?_
              refine EC.region ?_
              refine EL.val (x_move rfl) rfl ?_
              have hovlt2 := (hov.lt gov rfl).2
              have hszW := hbM.size
              refine EL.call (cl_30 rfl) rfl (ints_any ml _ _ _ (hrm.below hbM) hbM.size (by omega)) ?_
              rintro e w22 ⟨⟨vl22, rfl, hmo⟩, hc22⟩
              refine ⟨_, rfl, ?_⟩
              replace q2x := q2x.below hc22 q2x.lt
              replace hov := own_below hov hc22 (Nat.le_refl _)
              replace hbw := Below.on hbw hc22 hbw.size
              replace hbM := Below.on hbM hc22 hbM.size
              clear hc22
              obtain ⟨Al22, cl22, rfl, _⟩ := (Rd.of_own hmo).shape
              have hap : ∀ g, (Value.slice Al22 ml.length cl22).ownBlock = some g → gov ≠ g := fun g h => by have := (hmo.lt g h).1; omega
              replace hmo := own_less hmo hszW
              refine EL.val (x_assign rfl) rfl ?_
              refine EL.nil ?_
              refine EX.seq ?_
              refine EC.seq ?_
              refine EC.seq ?_
              refine EC.region ?_
              refine EL.val (x_assign rfl) rfl ?_
              refine EL.nil ?_
              refine EX.seq ?_
              refine EC.block ?_
              refine EC.loopD [25, 26, 27, 198, 199, 200, 201, 202, 203, 204, 205, 206, 207, 208, 209, 210, 211, 212, 213, 214, 215, 216, 217, 218, 219, 220, 221, 222, 223, 224, 225, 226, 227, 228, 229, 230, 231, 232, 233, 234, 235, 236, 237, 238, 239, 240, 241, 242, 243, 244, 245, 246, 247, 248, 249, 250, 251, 252, 253, 254, 255, 256, 257, 258, 259, 260, 261, 262, 263, 264, 265, 266, 267, 268, 269, 270, 271, 272, 273, 274, 275, 276, 277, 278, 279, 280, 281, 282, 283, 284, 285, 286, 287, 288, 289, 290, 291, 292, 293, 294, 295, 296, 297, 298, 299, 300, 301, 302, 303, 304, 305, 306, 307, 308] (fun x : Nat × List Int × List Int => [(25, .int .i64 (x.1 : Nat))]) (fun x W => x.1 ≤ nt.ways.length ∧ MoreAt nt x.2.1 x.2.2 ∧ W.ownsRow w7.heap.size 3 1 (.slice Al22 ml.length cl22) ml.length (ints x.2.1) ∧ Blk W g1 25 #[.slice Ap nt.ports.length cp_, .slice Aw nt.ways.length cw_] ∧ W.ownsRow w7.heap.size 3 1 (.slice (some ⟨gov, 0, none⟩) nt.ports.length cov) nt.ports.length (ints x.2.2) ∧ Below w7.heap.size w7 W ∧ Below w.heap.size w W) (fun x => nt.ways.length - x.1) (0, ml, extL nt ml) ⟨Nat.zero_le _, MoreAt.of_aft ha, hmo, q2x, hov, hbM, hbw⟩ ⟨rfl, trivial⟩ ?_
              clear q2x hov hmo hbM hbw
              rintro ⟨x, mo, ov⟩ wx ⟨hx, hMo, hmo, q2x, hov, hbM, hbw⟩
              dsimp only at hx hMo hmo hov
              have hmol := hMo.len
              have hovl := hMo.lov
              by_cases hlt : x < nt.ways.length
              ·
                obtain ⟨gmo, rfl⟩ := own_slice hmo (by omega)
                have hgn : gov ≠ gmo := hap gmo rfl
                obtain ⟨bw, ow, e_, _, wc⟩ := ways_cells nt.ways x hlt _ _ _ _ _ hr.ways
                subst e_
                obtain ⟨⟨wf0, wf1⟩, ⟨wt0, wt1⟩, wne, ⟨wc0, wc1⟩, wr0, wr1⟩ := hvw x hlt
                have hmr := hMo.room hlt
                have hsp := fun k h0 h1 h2 h3 => hMo.step hv hlt (d := k) h0 h1 h2 h3
                have hsb := fun k h0 h1 h2 h3 => hMo.back hv hlt (k := k) h0 h1 h2 h3
                have px := part_bd hbx x
                have py := part_bd hby x
                have hk0 : 0 ≤ (partI xs x).tmod 4 ∧ (partI xs x).tmod 4 ≤ 3 := by rw [Int.tmod_eq_emod_of_nonneg px.1]; omega
                have hk9 : 0 ≤ (partI ys x).tmod 4 ∧ (partI ys x).tmod 4 ≤ 3 := by rw [Int.tmod_eq_emod_of_nonneg py.1]; omega
                obtain ⟨y, ey⟩ : ∃ z, z = nt.ways.getD x way0 := ⟨_, rfl⟩
                obtain ⟨m, em⟩ : ∃ z, z = mo.getD x 0 := ⟨_, rfl⟩
                rw [← em] at hmr hsp hsb
                rw [← ey] at wc wf0 wf1 wt0 wt1 wne wc0 wc1 wr0 wr1 hmr hsp hsb
                clear ey
                obtain ⟨yf, yt, yc, yr⟩ := y
                obtain ⟨wk0, wk1, wk2, wk3⟩ := wc
                dsimp only at wf0 wf1 wt0 wt1 wne wc0 wc1 wr0 wr1 hmr wk0 wk1 wk2 wk3 hsp hsb
                obtain ⟨f_, rfl⟩ := Int.eq_ofNat_of_zero_le wf0
                obtain ⟨t_, rfl⟩ := Int.eq_ofNat_of_zero_le wt0
                simp only [Int.toNat_natCast] at hsp hsb
                have bf := hMo.bd hv f_
                have bt := hMo.bd hv t_
                have nf := hMo.nn f_ (by omega)
                have nt_ := hMo.nn t_ (by omega)
                have rm := own_int_cell hmo (k := x) (by omega)
                have rf_ := own_int_cell hov (k := f_) (by omega)
                have rt_ := own_int_cell hov (k := t_) (by omega)
                rw [← em] at rm
                obtain ⟨vf, evf⟩ : ∃ z, z = ov.getD f_ 0 := ⟨_, rfl⟩
                obtain ⟨vt, evt⟩ : ∃ z, z = ov.getD t_ 0 := ⟨_, rfl⟩
                rw [← evf] at hsp hsb bf nf rf_
                rw [← evt] at hsp hsb bt nt_ rt_
                obtain ⟨k1, ek1⟩ : ∃ z, z = min (min ((partI xs x).tmod 4) (yr - m)) vf := ⟨_, rfl⟩
                obtain ⟨k2, ek2⟩ : ∃ z, z = min (min ((partI ys x).tmod 4) m) vt := ⟨_, rfl⟩
                refine EC.seq ?_
                refine EC.seq ?_
                refine EC.region ?_
                refine EL.val (x_move rfl) rfl ?_
                refine EL.val (x_move rfl) rfl ?_
                refine EL.val (ln_29 rfl) rfl ?_
                refine EL.val (x_lss rfl rfl (decide_eq_true (show (((x : Nat) : Int) < ((ml.length : Nat) : Int)) by omega))) rfl ?_
                refine EL.nil ?_
                refine EX.seq ?_
                refine EC.yes rfl ?_
                refine EC.skip ?_
                refine EX.seq ?_
                refine EC.seq ?_
                refine EC.block ?_
                refine EC.seq ?_
                refine EC.region ?_
                refine EL.val (x_move rfl) rfl ?_
                refine EL.val (x_move rfl) rfl ?_
                refine EL.call (cl_28 rfl rfl) rfl (part_any xs _ x _ B (hrx.below (hbw.mono hB)) hlx) ?_
                rintro e w23 ⟨rfl, hc23⟩
                refine ⟨_, rfl, ?_⟩
                replace q2x := q2x.below hc23 q2x.lt
                replace hmo := own_below hmo hc23 (Nat.le_refl _)
                replace hov := own_below hov hc23 (Nat.le_refl _)
                replace hbw := Below.on hbw hc23 hbw.size
                replace hbM := Below.on hbM hc23 hbM.size
                clear hc23
                refine EL.val (cv_5_3 rfl (IntWalk.i64_in _ ⟨by omega, by omega⟩)) rfl ?_
                refine EL.val (x_rem rfl rfl (c := (partI xs x).tmod 4) (by decide) rfl) rfl ?_
                refine EL.val (x_assign rfl) rfl ?_
                refine EL.nil ?_
                refine EX.seq ?_
                refine EC.seq ?_
                refine EC.region ?_
                refine EL.val (fa_25_1 rfl) rfl ?_
                refine EL.val (ld_23 rfl (q2x.at (j := 1) rfl)) rfl ?_
                refine EL.val (x_move rfl) rfl ?_
                refine EL.val (ix_23 rfl rfl hlt) rfl ?_
                refine EL.val (ld_56 rfl (below_load hbw wk0) (below_load hbw wk1) (below_load hbw wk2) (below_load hbw wk3)) rfl ?_
                refine EL.newP al_56 rfl ?_
                intro g24 w24 q24 hb24 hg24 hl24
                have n1_24 : g1 ≠ g24 := Nat.ne_of_lt (Nat.lt_of_lt_of_le q2x.lt hg24)
                have bhbw_24 := Nat.le_trans hbw.size hg24
                have bhbM_24 := Nat.le_trans hbM.size hg24
                replace q2x := q2x.below hb24 q2x.lt
                replace hmo := own_below hmo hb24 (Nat.le_refl _)
                replace hov := own_below hov hb24 (Nat.le_refl _)
                replace hbw := Below.on hbw hb24 hbw.size
                replace hbM := Below.on hbM hb24 hbM.size
                clear hb24 hg24 hl24
                refine EL.store rfl rfl q24 sz_56 rfl rfl rfl rfl ?_
                intro w25 hq25 hg25
                replace q2x := q2x.grown hg25 (fun h => n1_24 (Option.some.inj h))
                replace hmo := own_type hmo q24 rfl hg25
                replace hov := own_type hov q24 rfl hg25
                replace hbw := below_store hbw hg25 bhbw_24
                replace hbM := below_store hbM hg25 bhbM_24
                replace q24 := hq25
                clear hg25 hq25
                refine EL.nil ?_
                refine EX.seq ?_
                refine EC.seq ?_
                replace rm := own_int_cell hmo (k := x) (by omega)
                rw [← em] at rm
                replace rf_ := own_int_cell hov (k := f_) (by omega)
                rw [← evf] at rf_
                replace rt_ := own_int_cell hov (k := t_) (by omega)
                rw [← evt] at rt_
                refine EC.regionQ (by kernel_rfl) (by kernel_rfl) ?_
                refine EQ.val (fun _ hw => (x_move rfl)) rfl ?_
                refine EQ.val (fun _ hw => (fa_56_3 rfl)) rfl ?_
                refine EQ.val (fun _ hw => (ld_3 rfl (below_load hw (q24.at (j := 3) rfl)))) rfl ?_
                refine EQ.val (fun _ hw => (x_move rfl)) rfl ?_
                refine EQ.val (fun _ hw => (x_move rfl)) rfl ?_
                refine EQ.val (fun _ hw => (ix_29 rfl rfl (show x < ml.length by omega))) rfl ?_
                refine EQ.val (fun _ hw => (ld_3 rfl (below_load hw rm))) rfl ?_
                refine EQ.val (fun _ hw => (x_sub rfl rfl (c := yr - m) (IntWalk.i64_in _ ⟨by omega, by omega⟩))) rfl ?_
                refine EQ.val (fun _ hw => (x_move rfl)) rfl ?_
                refine EQ.val (fun _ hw => (fa_56_0 rfl)) rfl ?_
                refine EQ.val (fun _ hw => (ld_3 rfl (below_load hw (q24.at (j := 0) rfl)))) rfl ?_
                refine EQ.val (fun _ hw => (ix_29 rfl rfl (show f_ < nt.ports.length by omega))) rfl ?_
                refine EQ.val (fun _ hw => (ld_3 rfl (below_load hw rf_))) rfl ?_
                refine EQ.val (fun _ hw => (mm_min3 rfl rfl rfl ek1.symm)) rfl ?_
                refine EQ.val (fun _ hw => (x_assign rfl)) rfl ?_
                refine EQ.fin (fun w26 hw_ => ?_)
                replace q2x := q2x.below hw_ q2x.lt
                replace q24 := q24.below hw_ q24.lt
                replace hmo := own_below hmo hw_ (Nat.le_refl _)
                replace hov := own_below hov hw_ (Nat.le_refl _)
                replace hbw := Below.on hbw hw_ hbw.size
                replace hbM := Below.on hbM hw_ hbM.size
                clear hw_
                refine EX.seq ?_
                refine EC.seq ?_
                refine EC.region ?_
                refine EL.val (x_move rfl) rfl ?_
                by_cases hk1 : 0 < k1
                ·
                  refine EL.val (x_gtr (r := true) rfl rfl (decide_eq_true (by omega))) rfl ?_
                  refine EL.nil ?_
                  refine EX.seq ?_
                  refine EC.yes rfl ?_
                  have nr1_mo : g1 ≠ gmo := row_ne2 hmo q2x rfl
                  have nr1_ov : g1 ≠ gov := row_ne2 hov q2x rfl
                  have nr24_mo : g24 ≠ gmo := row_ne2 hmo q24 rfl
                  have nr24_ov : g24 ≠ gov := row_ne2 hov q24 rfl
                  have lb_mo : w7.heap.size ≤ gmo := (hmo.lt _ rfl).1
                  have lb_ov : w7.heap.size ≤ gov := (hov.lt _ rfl).1
                  refine EC.regionS [[], [], [], [], [3], [], [], [6], [], [], [8, 9], [8, 9, 10], [], [8, 9, 10, 11, 12], [], [], [15], [14, 15, 16], [14, 15, 16, 17], [], [14, 15, 16, 17, 18, 19], [], [], [22], [21, 22, 23], [21, 22, 23, 24], [], [21, 22, 23, 24, 25, 26], [0, 1, 8, 9, 10, 11, 12, 13, 14, 15, 16, 17, 18, 21, 22, 23, 24, 25], [0, 1, 8, 9, 10, 11, 12, 13, 14, 15, 16, 17, 18, 21, 22, 23, 24, 25, 28], [0, 1, 2, 3, 4, 8, 9, 10, 11, 12, 13, 14, 15, 16, 17, 18, 19, 20, 21, 22, 23, 24, 25, 28, 29], [0, 1, 2, 3, 4, 8, 9, 10, 11, 12, 13, 14, 15, 16, 17, 18, 19, 20, 21, 22, 23, 24, 25, 28, 29, 30], [0, 1, 2, 3, 4, 5, 6, 7, 8, 9, 10, 11, 12, 13, 14, 15, 16, 17, 18, 19, 20, 21, 22, 23, 24, 25, 26, 27, 28, 29, 30, 31], [0, 1, 2, 3, 4, 5, 6, 7, 8, 9, 10, 11, 12, 13, 14, 15, 16, 17, 18, 19, 20, 21, 22, 23, 24, 25, 26, 27, 28, 29, 30, 31, 32]] 34 [] [29, 31, 33] (fun fl w_ => Touch w26 w_ [gmo, gov] ∧ (fl 29 = false → w_.ownsRow w7.heap.size 3 1 (.slice (some ⟨gmo, 0, none⟩) ml.length cl22) ml.length (ints mo)) ∧ (fl 31 = false → w_.ownsRow w7.heap.size 3 1 (.slice (some ⟨gov, 0, none⟩) nt.ports.length cov) nt.ports.length (ints ov))) (phiS (fun i_ r => match i_ with | 0 => r 0 = .slice (some ⟨gmo, 0, none⟩) ml.length cl22 | 1 => r 1 = .int .i64 (x : Nat) | 2 => r 2 = .slice (some ⟨gov, 0, none⟩) nt.ports.length cov | 3 => r 3 = .pointer (some ⟨g24, 0, none⟩) | 4 => r 4 = .int .i64 (f_ : Nat) | 5 => r 5 = .slice (some ⟨gov, 0, none⟩) nt.ports.length cov | 6 => r 6 = .pointer (some ⟨g24, 1, none⟩) | 7 => r 7 = .int .i64 (t_ : Nat) | 8 => r 8 = .slice (some ⟨gmo, 0, none⟩) ml.length cl22 | 9 => r 9 = .int .i64 (x : Nat) | 10 => r 10 = .pointer (some ⟨gmo, 0 + x, none⟩) | 11 => r 11 = .int .i64 m | 12 => r 12 = .int .i64 k1 | 13 => r 13 = .int .i64 (m + k1) | 14 => r 14 = .slice (some ⟨gov, 0, none⟩) nt.ports.length cov | 15 => r 15 = .pointer (some ⟨g24, 0, none⟩) | 16 => r 16 = .int .i64 (f_ : Nat) | 17 => r 17 = .pointer (some ⟨gov, 0 + f_, none⟩) | 18 => r 18 = .int .i64 vf | 19 => r 19 = .int .i64 k1 | 20 => r 20 = .int .i64 (vf - k1) | 21 => r 21 = .slice (some ⟨gov, 0, none⟩) nt.ports.length cov | 22 => r 22 = .pointer (some ⟨g24, 1, none⟩) | 23 => r 23 = .int .i64 (t_ : Nat) | 24 => r 24 = .pointer (some ⟨gov, 0 + t_, none⟩) | 25 => r 25 = .int .i64 vt | 26 => r 26 = .int .i64 k1 | 27 => r 27 = .int .i64 (vt + k1) | 28 => r 28 = .pointer (some ⟨gmo, 0 + x, none⟩) | 30 => r 30 = .pointer (some ⟨gov, 0 + f_, none⟩) | 32 => r 32 = .pointer (some ⟨gov, 0 + t_, none⟩) | _ => True) [(29, fun fl _ w_ => fl 29 = true ∧ w_.ownsRow w7.heap.size 3 1 (.slice (some ⟨gmo, 0, none⟩) ml.length cl22) ml.length (ints (mo.set x (m + k1)))), (31, fun fl _ w_ => fl 31 = true ∧ (fl 33 = false → w_.ownsRow w7.heap.size 3 1 (.slice (some ⟨gov, 0, none⟩) nt.ports.length cov) nt.ports.length (ints (ov.set f_ (vf - k1))))), (33, fun fl _ w_ => fl 33 = true ∧ w_.ownsRow w7.heap.size 3 1 (.slice (some ⟨gov, 0, none⟩) nt.ports.length cov) nt.ports.length (ints ((ov.set f_ (vf - k1)).set t_ (vt + k1))))]) (by kernel_rfl) rfl rfl (by intro i hi; simp at hi; rcases hi with rfl | rfl | rfl <;> exact ⟨by simp, by omega⟩) ⟨fun _ _ => ⟨Touch.start _ _, fun _ => own_drewN hmo 1, fun _ => own_drewN hov 1⟩, fun _ _ _ ⟨hT, hA0_, hA1_⟩ hb => ⟨hT.below hb, fun h => own_below (hA0_ h) hb (Nat.le_refl _), fun h => own_below (hA1_ h) hb (Nat.le_refl _)⟩, fun _ _ h => h.1.size⟩ (phiS_cons (fun _ _ _ _ hb ⟨h1, h2⟩ => ⟨h1, own_below h2 hb (Nat.le_refl _)⟩) (phiS_cons (fun _ _ _ _ hb ⟨h1, h2⟩ => ⟨h1, fun h => own_below (h2 h) hb (Nat.le_refl _)⟩) (phiS_cons (fun _ _ _ _ hb ⟨h1, h2⟩ => ⟨h1, own_below h2 hb (Nat.le_refl _)⟩) (phiS_nil)))) (fun i_ hi_ hs_ => ?_) (fun i_ hi_ => ?_) ?_
                  · match i_, hi_ with
                    | 0, _ =>
                      intro val fl w1 a hb ha hd hfl
                      obtain ⟨hT, hA0_, hA1_⟩ := hb
                      have ha := ha.sub (Sub.ins (d := 24) (Sub.nil _) rfl)
                      exact ss_val ha rfl rfl (x_move rfl) rfl rfl
                    | 1, _ =>
                      intro val fl w1 a hb ha hd hfl
                      obtain ⟨hT, hA0_, hA1_⟩ := hb
                      have ha := ha.sub (Sub.ins (d := 25) (Sub.nil _) rfl)
                      exact ss_val ha rfl rfl (x_move rfl) rfl rfl
                    | 2, _ =>
                      intro val fl w1 a hb ha hd hfl
                      obtain ⟨hT, hA0_, hA1_⟩ := hb
                      have ha := ha.sub (Sub.ins (d := 11) (Sub.nil _) rfl)
                      exact ss_val ha rfl rfl (x_move rfl) rfl rfl
                    | 3, _ =>
                      intro val fl w1 a hb ha hd hfl
                      obtain ⟨hT, hA0_, hA1_⟩ := hb
                      have ha := ha.sub (Sub.ins (d := 27) (Sub.nil _) rfl)
                      exact ss_val ha rfl rfl (fa_56_0 rfl) rfl rfl
                    | 4, _ =>
                      intro val fl w1 a hb ha hd hfl
                      obtain ⟨hT, hA0_, hA1_⟩ := hb
                      have e3 : val 3 = .pointer (some ⟨g24, 0, none⟩) := hd 3 (memB_mem.1 rfl)
                      have ha := ha.sub (Sub.ins (d := 233) (Sub.nil _) (dep_get rfl e3))
                      exact ss_val ha rfl rfl (ld_3 rfl ((q24.touch hT (by simp only [List.mem_cons, List.not_mem_nil, or_false, not_or]; exact ⟨nr24_mo, nr24_ov⟩)).at (j := 0) rfl)) rfl rfl
                    | 5, _ =>
                      intro val fl w1 a hb ha hd hfl
                      obtain ⟨hT, hA0_, hA1_⟩ := hb
                      have ha := ha.sub (Sub.ins (d := 11) (Sub.nil _) rfl)
                      exact ss_val ha rfl rfl (x_move rfl) rfl rfl
                    | 6, _ =>
                      intro val fl w1 a hb ha hd hfl
                      obtain ⟨hT, hA0_, hA1_⟩ := hb
                      have ha := ha.sub (Sub.ins (d := 27) (Sub.nil _) rfl)
                      exact ss_val ha rfl rfl (fa_56_1 rfl) rfl rfl
                    | 7, _ =>
                      intro val fl w1 a hb ha hd hfl
                      obtain ⟨hT, hA0_, hA1_⟩ := hb
                      have e6 : val 6 = .pointer (some ⟨g24, 1, none⟩) := hd 6 (memB_mem.1 rfl)
                      have ha := ha.sub (Sub.ins (d := 236) (Sub.nil _) (dep_get rfl e6))
                      exact ss_val ha rfl rfl (ld_3 rfl ((q24.touch hT (by simp only [List.mem_cons, List.not_mem_nil, or_false, not_or]; exact ⟨nr24_mo, nr24_ov⟩)).at (j := 1) rfl)) rfl rfl
                    | 8, _ =>
                      intro val fl w1 a hb ha hd hfl
                      obtain ⟨hT, hA0_, hA1_⟩ := hb
                      have ha := ha.sub (Sub.ins (d := 24) (Sub.nil _) rfl)
                      exact ss_val ha rfl rfl (x_move rfl) rfl rfl
                    | 9, _ =>
                      intro val fl w1 a hb ha hd hfl
                      obtain ⟨hT, hA0_, hA1_⟩ := hb
                      have ha := ha.sub (Sub.ins (d := 25) (Sub.nil _) rfl)
                      exact ss_val ha rfl rfl (x_move rfl) rfl rfl
                    | 10, _ =>
                      intro val fl w1 a hb ha hd hfl
                      obtain ⟨hT, hA0_, hA1_⟩ := hb
                      have e8 : val 8 = .slice (some ⟨gmo, 0, none⟩) ml.length cl22 := hd 8 (memB_mem.1 rfl)
                      have e9 : val 9 = .int .i64 (x : Nat) := hd 9 (memB_mem.1 rfl)
                      have ha := ha.sub (Sub.ins (d := 239) (Sub.ins (d := 238) (Sub.nil _) (dep_get rfl e8)) (dep_get rfl e9))
                      exact ss_val ha rfl rfl (ix_29 rfl rfl (show x < ml.length by omega)) rfl rfl
                    | 11, _ =>
                      intro val fl w1 a hb ha hd hfl
                      obtain ⟨hT, hA0_, hA1_⟩ := hb
                      have e10 : val 10 = .pointer (some ⟨gmo, 0 + x, none⟩) := hd 10 (memB_mem.1 rfl)
                      have ha := ha.sub (Sub.ins (d := 240) (Sub.nil _) (dep_get rfl e10))
                      have hr0 := hA0_ (hfl 29 (by simp) (memB_mem.1 rfl))
                      exact ss_val ha rfl rfl (ld_3 rfl (by have h_ := own_int_cell hr0 (k := x) (by omega); rw [← em] at h_; exact h_)) rfl rfl
                    | 12, _ =>
                      intro val fl w1 a hb ha hd hfl
                      obtain ⟨hT, hA0_, hA1_⟩ := hb
                      have ha := ha.sub (Sub.ins (d := 26) (Sub.nil _) rfl)
                      exact ss_val ha rfl rfl (x_move rfl) rfl rfl
                    | 13, _ =>
                      intro val fl w1 a hb ha hd hfl
                      obtain ⟨hT, hA0_, hA1_⟩ := hb
                      have e11 : val 11 = .int .i64 m := hd 11 (memB_mem.1 rfl)
                      have e12 : val 12 = .int .i64 k1 := hd 12 (memB_mem.1 rfl)
                      have ha := ha.sub (Sub.ins (d := 242) (Sub.ins (d := 241) (Sub.nil _) (dep_get rfl e11)) (dep_get rfl e12))
                      exact ss_val ha rfl rfl (x_add rfl rfl (IntWalk.i64_in _ ⟨by omega, by omega⟩)) rfl rfl
                    | 14, _ =>
                      intro val fl w1 a hb ha hd hfl
                      obtain ⟨hT, hA0_, hA1_⟩ := hb
                      have ha := ha.sub (Sub.ins (d := 11) (Sub.nil _) rfl)
                      exact ss_val ha rfl rfl (x_move rfl) rfl rfl
                    | 15, _ =>
                      intro val fl w1 a hb ha hd hfl
                      obtain ⟨hT, hA0_, hA1_⟩ := hb
                      have ha := ha.sub (Sub.ins (d := 27) (Sub.nil _) rfl)
                      exact ss_val ha rfl rfl (fa_56_0 rfl) rfl rfl
                    | 16, _ =>
                      intro val fl w1 a hb ha hd hfl
                      obtain ⟨hT, hA0_, hA1_⟩ := hb
                      have e15 : val 15 = .pointer (some ⟨g24, 0, none⟩) := hd 15 (memB_mem.1 rfl)
                      have ha := ha.sub (Sub.ins (d := 245) (Sub.nil _) (dep_get rfl e15))
                      exact ss_val ha rfl rfl (ld_3 rfl ((q24.touch hT (by simp only [List.mem_cons, List.not_mem_nil, or_false, not_or]; exact ⟨nr24_mo, nr24_ov⟩)).at (j := 0) rfl)) rfl rfl
                    | 17, _ =>
                      intro val fl w1 a hb ha hd hfl
                      obtain ⟨hT, hA0_, hA1_⟩ := hb
                      have e14 : val 14 = .slice (some ⟨gov, 0, none⟩) nt.ports.length cov := hd 14 (memB_mem.1 rfl)
                      have e16 : val 16 = .int .i64 (f_ : Nat) := hd 16 (memB_mem.1 rfl)
                      have ha := ha.sub (Sub.ins (d := 246) (Sub.ins (d := 244) (Sub.nil _) (dep_get rfl e14)) (dep_get rfl e16))
                      exact ss_val ha rfl rfl (ix_29 rfl rfl (show f_ < nt.ports.length by omega)) rfl rfl
                    | 18, _ =>
                      intro val fl w1 a hb ha hd hfl
                      obtain ⟨hT, hA0_, hA1_⟩ := hb
                      have e17 : val 17 = .pointer (some ⟨gov, 0 + f_, none⟩) := hd 17 (memB_mem.1 rfl)
                      have ha := ha.sub (Sub.ins (d := 247) (Sub.nil _) (dep_get rfl e17))
                      have hr0 := hA1_ (hfl 31 (by simp) (memB_mem.1 rfl))
                      exact ss_val ha rfl rfl (ld_3 rfl (by have h_ := own_int_cell hr0 (k := f_) (by omega); rw [← evf] at h_; exact h_)) rfl rfl
                    | 19, _ =>
                      intro val fl w1 a hb ha hd hfl
                      obtain ⟨hT, hA0_, hA1_⟩ := hb
                      have ha := ha.sub (Sub.ins (d := 26) (Sub.nil _) rfl)
                      exact ss_val ha rfl rfl (x_move rfl) rfl rfl
                    | 20, _ =>
                      intro val fl w1 a hb ha hd hfl
                      obtain ⟨hT, hA0_, hA1_⟩ := hb
                      have e18 : val 18 = .int .i64 vf := hd 18 (memB_mem.1 rfl)
                      have e19 : val 19 = .int .i64 k1 := hd 19 (memB_mem.1 rfl)
                      have ha := ha.sub (Sub.ins (d := 249) (Sub.ins (d := 248) (Sub.nil _) (dep_get rfl e18)) (dep_get rfl e19))
                      exact ss_val ha rfl rfl (x_sub rfl rfl (IntWalk.i64_in _ ⟨by omega, by omega⟩)) rfl rfl
                    | 21, _ =>
                      intro val fl w1 a hb ha hd hfl
                      obtain ⟨hT, hA0_, hA1_⟩ := hb
                      have ha := ha.sub (Sub.ins (d := 11) (Sub.nil _) rfl)
                      exact ss_val ha rfl rfl (x_move rfl) rfl rfl
                    | 22, _ =>
                      intro val fl w1 a hb ha hd hfl
                      obtain ⟨hT, hA0_, hA1_⟩ := hb
                      have ha := ha.sub (Sub.ins (d := 27) (Sub.nil _) rfl)
                      exact ss_val ha rfl rfl (fa_56_1 rfl) rfl rfl
                    | 23, _ =>
                      intro val fl w1 a hb ha hd hfl
                      obtain ⟨hT, hA0_, hA1_⟩ := hb
                      have e22 : val 22 = .pointer (some ⟨g24, 1, none⟩) := hd 22 (memB_mem.1 rfl)
                      have ha := ha.sub (Sub.ins (d := 252) (Sub.nil _) (dep_get rfl e22))
                      exact ss_val ha rfl rfl (ld_3 rfl ((q24.touch hT (by simp only [List.mem_cons, List.not_mem_nil, or_false, not_or]; exact ⟨nr24_mo, nr24_ov⟩)).at (j := 1) rfl)) rfl rfl
                    | 24, _ =>
                      intro val fl w1 a hb ha hd hfl
                      obtain ⟨hT, hA0_, hA1_⟩ := hb
                      have e21 : val 21 = .slice (some ⟨gov, 0, none⟩) nt.ports.length cov := hd 21 (memB_mem.1 rfl)
                      have e23 : val 23 = .int .i64 (t_ : Nat) := hd 23 (memB_mem.1 rfl)
                      have ha := ha.sub (Sub.ins (d := 253) (Sub.ins (d := 251) (Sub.nil _) (dep_get rfl e21)) (dep_get rfl e23))
                      exact ss_val ha rfl rfl (ix_29 rfl rfl (show t_ < nt.ports.length by omega)) rfl rfl
                    | 25, _ =>
                      intro val fl w1 a hb ha hd hfl
                      obtain ⟨hT, hA0_, hA1_⟩ := hb
                      have e24 : val 24 = .pointer (some ⟨gov, 0 + t_, none⟩) := hd 24 (memB_mem.1 rfl)
                      have ha := ha.sub (Sub.ins (d := 254) (Sub.nil _) (dep_get rfl e24))
                      have hr0 := hA1_ (hfl 31 (by simp) (memB_mem.1 rfl))
                      exact ss_val ha rfl rfl (ld_3 rfl (by have h_ := own_int_cell hr0 (k := t_) (by omega); rw [← evt] at h_; exact h_)) rfl rfl
                    | 26, _ =>
                      intro val fl w1 a hb ha hd hfl
                      obtain ⟨hT, hA0_, hA1_⟩ := hb
                      have ha := ha.sub (Sub.ins (d := 26) (Sub.nil _) rfl)
                      exact ss_val ha rfl rfl (x_move rfl) rfl rfl
                    | 27, _ =>
                      intro val fl w1 a hb ha hd hfl
                      obtain ⟨hT, hA0_, hA1_⟩ := hb
                      have e25 : val 25 = .int .i64 vt := hd 25 (memB_mem.1 rfl)
                      have e26 : val 26 = .int .i64 k1 := hd 26 (memB_mem.1 rfl)
                      have ha := ha.sub (Sub.ins (d := 256) (Sub.ins (d := 255) (Sub.nil _) (dep_get rfl e25)) (dep_get rfl e26))
                      exact ss_val ha rfl rfl (x_add rfl rfl (IntWalk.i64_in _ ⟨by omega, by omega⟩)) rfl rfl
                    | 28, _ =>
                      intro val fl w1 a hb ha hd hfl
                      obtain ⟨hT, hA0_, hA1_⟩ := hb
                      have e0 : val 0 = .slice (some ⟨gmo, 0, none⟩) ml.length cl22 := hd 0 (memB_mem.1 rfl)
                      have e1 : val 1 = .int .i64 (x : Nat) := hd 1 (memB_mem.1 rfl)
                      have ha := ha.sub (Sub.ins (d := 231) (Sub.ins (d := 230) (Sub.nil _) (dep_get rfl e0)) (dep_get rfl e1))
                      exact ss_val ha rfl rfl (ix_29 rfl rfl (show x < ml.length by omega)) rfl rfl
                    | 29, _ =>
                      exact absurd (by simp) hs_
                    | 30, _ =>
                      intro val fl w1 a hb ha hd hfl
                      obtain ⟨hT, hA0_, hA1_⟩ := hb
                      have e2 : val 2 = .slice (some ⟨gov, 0, none⟩) nt.ports.length cov := hd 2 (memB_mem.1 rfl)
                      have e4 : val 4 = .int .i64 (f_ : Nat) := hd 4 (memB_mem.1 rfl)
                      have ha := ha.sub (Sub.ins (d := 234) (Sub.ins (d := 232) (Sub.nil _) (dep_get rfl e2)) (dep_get rfl e4))
                      exact ss_val ha rfl rfl (ix_29 rfl rfl (show f_ < nt.ports.length by omega)) rfl rfl
                    | 31, _ =>
                      exact absurd (by simp) hs_
                    | 32, _ =>
                      intro val fl w1 a hb ha hd hfl
                      obtain ⟨hT, hA0_, hA1_⟩ := hb
                      have e5 : val 5 = .slice (some ⟨gov, 0, none⟩) nt.ports.length cov := hd 5 (memB_mem.1 rfl)
                      have e7 : val 7 = .int .i64 (t_ : Nat) := hd 7 (memB_mem.1 rfl)
                      have ha := ha.sub (Sub.ins (d := 237) (Sub.ins (d := 235) (Sub.nil _) (dep_get rfl e5)) (dep_get rfl e7))
                      exact ss_val ha rfl rfl (ix_29 rfl rfl (show t_ < nt.ports.length by omega)) rfl rfl
                    | 33, _ =>
                      exact absurd (by simp) hs_
                    | k + 34, h => exact absurd h (by omega)
                  · simp only [List.mem_cons, List.not_mem_nil, or_false] at hi_
                    rcases hi_ with rfl | rfl | rfl
                    ·
                      intro val fl w1 a hb hfi ha hd hfl
                      obtain ⟨hT, hA0_, hA1_⟩ := hb
                      have e28 : val 28 = .pointer (some ⟨gmo, 0 + x, none⟩) := hd 28 (memB_mem.1 rfl)
                      have e13 : val 13 = .int .i64 (m + k1) := hd 13 (memB_mem.1 rfl)
                      have ha := ha.sub (Sub.ins (d := 243) (Sub.ins (d := 258) (Sub.nil _) (dep_get rfl e28)) (dep_get rfl e13))
                      refine ts_storeRow (l' := [.int .i64 (m + k1)]) ha rfl rfl rfl (hA0_ hfi) sz_3 rfl rfl (by rw [ints_len, Nat.zero_add]; omega) rfl ?_
                      intro w' ho2 hgr
                      rw [Nat.zero_add, spl_ints (by omega)] at ho2
                      refine ⟨undef, rfl, hgr.size, ⟨hT.grown hgr (by simp), (fun h => by rw [fset_eq] at h; cases h), (fun h => own_ne (hA1_ (by rwa [fset_ne rfl] at h)) hgr hgn)⟩, ⟨fset_eq, ho2⟩, fun j _ hj hn hA => ?_⟩
                      exact phiS_cons_st (C := fun j => j ≠ 29 ∧ 29 ∉ clsAt [[], [], [], [], [3], [], [], [6], [], [], [8, 9], [8, 9, 10], [], [8, 9, 10, 11, 12], [], [], [15], [14, 15, 16], [14, 15, 16, 17], [], [14, 15, 16, 17, 18, 19], [], [], [22], [21, 22, 23], [21, 22, 23, 24], [], [21, 22, 23, 24, 25, 26], [0, 1, 8, 9, 10, 11, 12, 13, 14, 15, 16, 17, 18, 21, 22, 23, 24, 25], [0, 1, 8, 9, 10, 11, 12, 13, 14, 15, 16, 17, 18, 21, 22, 23, 24, 25, 28], [0, 1, 2, 3, 4, 8, 9, 10, 11, 12, 13, 14, 15, 16, 17, 18, 19, 20, 21, 22, 23, 24, 25, 28, 29], [0, 1, 2, 3, 4, 8, 9, 10, 11, 12, 13, 14, 15, 16, 17, 18, 19, 20, 21, 22, 23, 24, 25, 28, 29, 30], [0, 1, 2, 3, 4, 5, 6, 7, 8, 9, 10, 11, 12, 13, 14, 15, 16, 17, 18, 19, 20, 21, 22, 23, 24, 25, 26, 27, 28, 29, 30, 31], [0, 1, 2, 3, 4, 5, 6, 7, 8, 9, 10, 11, 12, 13, 14, 15, 16, 17, 18, 19, 20, 21, 22, 23, 24, 25, 26, 27, 28, 29, 30, 31, 32]] j) (fun hc => absurd rfl hc.1) (phiS_cons_st (C := fun j => j ≠ 29 ∧ 29 ∉ clsAt [[], [], [], [], [3], [], [], [6], [], [], [8, 9], [8, 9, 10], [], [8, 9, 10, 11, 12], [], [], [15], [14, 15, 16], [14, 15, 16, 17], [], [14, 15, 16, 17, 18, 19], [], [], [22], [21, 22, 23], [21, 22, 23, 24], [], [21, 22, 23, 24, 25, 26], [0, 1, 8, 9, 10, 11, 12, 13, 14, 15, 16, 17, 18, 21, 22, 23, 24, 25], [0, 1, 8, 9, 10, 11, 12, 13, 14, 15, 16, 17, 18, 21, 22, 23, 24, 25, 28], [0, 1, 2, 3, 4, 8, 9, 10, 11, 12, 13, 14, 15, 16, 17, 18, 19, 20, 21, 22, 23, 24, 25, 28, 29], [0, 1, 2, 3, 4, 8, 9, 10, 11, 12, 13, 14, 15, 16, 17, 18, 19, 20, 21, 22, 23, 24, 25, 28, 29, 30], [0, 1, 2, 3, 4, 5, 6, 7, 8, 9, 10, 11, 12, 13, 14, 15, 16, 17, 18, 19, 20, 21, 22, 23, 24, 25, 26, 27, 28, 29, 30, 31], [0, 1, 2, 3, 4, 5, 6, 7, 8, 9, 10, 11, 12, 13, 14, 15, 16, 17, 18, 19, 20, 21, 22, 23, 24, 25, 26, 27, 28, 29, 30, 31, 32]] j) (fun hc => absurd (memB_mem.1 rfl) hc.2) (phiS_cons_st (C := fun j => j ≠ 29 ∧ 29 ∉ clsAt [[], [], [], [], [3], [], [], [6], [], [], [8, 9], [8, 9, 10], [], [8, 9, 10, 11, 12], [], [], [15], [14, 15, 16], [14, 15, 16, 17], [], [14, 15, 16, 17, 18, 19], [], [], [22], [21, 22, 23], [21, 22, 23, 24], [], [21, 22, 23, 24, 25, 26], [0, 1, 8, 9, 10, 11, 12, 13, 14, 15, 16, 17, 18, 21, 22, 23, 24, 25], [0, 1, 8, 9, 10, 11, 12, 13, 14, 15, 16, 17, 18, 21, 22, 23, 24, 25, 28], [0, 1, 2, 3, 4, 8, 9, 10, 11, 12, 13, 14, 15, 16, 17, 18, 19, 20, 21, 22, 23, 24, 25, 28, 29], [0, 1, 2, 3, 4, 8, 9, 10, 11, 12, 13, 14, 15, 16, 17, 18, 19, 20, 21, 22, 23, 24, 25, 28, 29, 30], [0, 1, 2, 3, 4, 5, 6, 7, 8, 9, 10, 11, 12, 13, 14, 15, 16, 17, 18, 19, 20, 21, 22, 23, 24, 25, 26, 27, 28, 29, 30, 31], [0, 1, 2, 3, 4, 5, 6, 7, 8, 9, 10, 11, 12, 13, 14, 15, 16, 17, 18, 19, 20, 21, 22, 23, 24, 25, 26, 27, 28, 29, 30, 31, 32]] j) (fun hc => absurd (memB_mem.1 rfl) hc.2) (fun _ _ h => h))) j ⟨hj, hn⟩
                    ·
                      intro val fl w1 a hb hfi ha hd hfl
                      obtain ⟨hT, hA0_, hA1_⟩ := hb
                      have e30 : val 30 = .pointer (some ⟨gov, 0 + f_, none⟩) := hd 30 (memB_mem.1 rfl)
                      have e20 : val 20 = .int .i64 (vf - k1) := hd 20 (memB_mem.1 rfl)
                      have ha := ha.sub (Sub.ins (d := 250) (Sub.ins (d := 259) (Sub.nil _) (dep_get rfl e30)) (dep_get rfl e20))
                      refine ts_storeRow (l' := [.int .i64 (vf - k1)]) ha rfl rfl rfl (hA1_ hfi) sz_3 rfl rfl (by rw [ints_len, Nat.zero_add]; omega) rfl ?_
                      intro w' ho2 hgr
                      rw [Nat.zero_add, spl_ints (by omega)] at ho2
                      refine ⟨undef, rfl, hgr.size, ⟨hT.grown hgr (by simp), (fun h => own_ne (hA0_ (by rwa [fset_ne rfl] at h)) hgr hgn.symm), (fun h => by rw [fset_eq] at h; cases h)⟩, ⟨fset_eq, fun _ => ho2⟩, fun j _ hj hn hA => ?_⟩
                      exact phiS_cons_st (C := fun j => j ≠ 31 ∧ 31 ∉ clsAt [[], [], [], [], [3], [], [], [6], [], [], [8, 9], [8, 9, 10], [], [8, 9, 10, 11, 12], [], [], [15], [14, 15, 16], [14, 15, 16, 17], [], [14, 15, 16, 17, 18, 19], [], [], [22], [21, 22, 23], [21, 22, 23, 24], [], [21, 22, 23, 24, 25, 26], [0, 1, 8, 9, 10, 11, 12, 13, 14, 15, 16, 17, 18, 21, 22, 23, 24, 25], [0, 1, 8, 9, 10, 11, 12, 13, 14, 15, 16, 17, 18, 21, 22, 23, 24, 25, 28], [0, 1, 2, 3, 4, 8, 9, 10, 11, 12, 13, 14, 15, 16, 17, 18, 19, 20, 21, 22, 23, 24, 25, 28, 29], [0, 1, 2, 3, 4, 8, 9, 10, 11, 12, 13, 14, 15, 16, 17, 18, 19, 20, 21, 22, 23, 24, 25, 28, 29, 30], [0, 1, 2, 3, 4, 5, 6, 7, 8, 9, 10, 11, 12, 13, 14, 15, 16, 17, 18, 19, 20, 21, 22, 23, 24, 25, 26, 27, 28, 29, 30, 31], [0, 1, 2, 3, 4, 5, 6, 7, 8, 9, 10, 11, 12, 13, 14, 15, 16, 17, 18, 19, 20, 21, 22, 23, 24, 25, 26, 27, 28, 29, 30, 31, 32]] j) (fun _ ⟨h1, h2⟩ => ⟨by rw [fset_ne rfl]; exact h1, own_ne h2 hgr hgn.symm⟩) (phiS_cons_st (C := fun j => j ≠ 31 ∧ 31 ∉ clsAt [[], [], [], [], [3], [], [], [6], [], [], [8, 9], [8, 9, 10], [], [8, 9, 10, 11, 12], [], [], [15], [14, 15, 16], [14, 15, 16, 17], [], [14, 15, 16, 17, 18, 19], [], [], [22], [21, 22, 23], [21, 22, 23, 24], [], [21, 22, 23, 24, 25, 26], [0, 1, 8, 9, 10, 11, 12, 13, 14, 15, 16, 17, 18, 21, 22, 23, 24, 25], [0, 1, 8, 9, 10, 11, 12, 13, 14, 15, 16, 17, 18, 21, 22, 23, 24, 25, 28], [0, 1, 2, 3, 4, 8, 9, 10, 11, 12, 13, 14, 15, 16, 17, 18, 19, 20, 21, 22, 23, 24, 25, 28, 29], [0, 1, 2, 3, 4, 8, 9, 10, 11, 12, 13, 14, 15, 16, 17, 18, 19, 20, 21, 22, 23, 24, 25, 28, 29, 30], [0, 1, 2, 3, 4, 5, 6, 7, 8, 9, 10, 11, 12, 13, 14, 15, 16, 17, 18, 19, 20, 21, 22, 23, 24, 25, 26, 27, 28, 29, 30, 31], [0, 1, 2, 3, 4, 5, 6, 7, 8, 9, 10, 11, 12, 13, 14, 15, 16, 17, 18, 19, 20, 21, 22, 23, 24, 25, 26, 27, 28, 29, 30, 31, 32]] j) (fun hc => absurd rfl hc.1) (phiS_cons_st (C := fun j => j ≠ 31 ∧ 31 ∉ clsAt [[], [], [], [], [3], [], [], [6], [], [], [8, 9], [8, 9, 10], [], [8, 9, 10, 11, 12], [], [], [15], [14, 15, 16], [14, 15, 16, 17], [], [14, 15, 16, 17, 18, 19], [], [], [22], [21, 22, 23], [21, 22, 23, 24], [], [21, 22, 23, 24, 25, 26], [0, 1, 8, 9, 10, 11, 12, 13, 14, 15, 16, 17, 18, 21, 22, 23, 24, 25], [0, 1, 8, 9, 10, 11, 12, 13, 14, 15, 16, 17, 18, 21, 22, 23, 24, 25, 28], [0, 1, 2, 3, 4, 8, 9, 10, 11, 12, 13, 14, 15, 16, 17, 18, 19, 20, 21, 22, 23, 24, 25, 28, 29], [0, 1, 2, 3, 4, 8, 9, 10, 11, 12, 13, 14, 15, 16, 17, 18, 19, 20, 21, 22, 23, 24, 25, 28, 29, 30], [0, 1, 2, 3, 4, 5, 6, 7, 8, 9, 10, 11, 12, 13, 14, 15, 16, 17, 18, 19, 20, 21, 22, 23, 24, 25, 26, 27, 28, 29, 30, 31], [0, 1, 2, 3, 4, 5, 6, 7, 8, 9, 10, 11, 12, 13, 14, 15, 16, 17, 18, 19, 20, 21, 22, 23, 24, 25, 26, 27, 28, 29, 30, 31, 32]] j) (fun hc => absurd (memB_mem.1 rfl) hc.2) (fun _ _ h => h))) j ⟨hj, hn⟩
                    ·
                      intro val fl w1 a hb hfi ha hd hfl
                      obtain ⟨hT, hA0_, hA1_⟩ := hb
                      have e32 : val 32 = .pointer (some ⟨gov, 0 + t_, none⟩) := hd 32 (memB_mem.1 rfl)
                      have e27 : val 27 = .int .i64 (vt + k1) := hd 27 (memB_mem.1 rfl)
                      have ha := ha.sub (Sub.ins (d := 257) (Sub.ins (d := 260) (Sub.nil _) (dep_get rfl e32)) (dep_get rfl e27))
                      obtain ⟨ht31_, hp31_⟩ := hd 31 (memB_mem.1 rfl)
                      refine ts_storeRow (l' := [.int .i64 (vt + k1)]) ha rfl rfl rfl (hp31_ hfi) sz_3 rfl rfl (by rw [ints_len, Nat.zero_add, List.length_set]; omega) rfl ?_
                      intro w' ho2 hgr
                      rw [Nat.zero_add, spl_ints (by rw [List.length_set]; omega)] at ho2
                      refine ⟨undef, rfl, hgr.size, ⟨hT.grown hgr (by simp), (fun h => own_ne (hA0_ (by rwa [fset_ne rfl] at h)) hgr hgn.symm), (fun h => by rw [fset_ne rfl, ht31_] at h; cases h)⟩, ⟨fset_eq, ho2⟩, fun j _ hj hn hA => ?_⟩
                      exact phiS_cons_st (C := fun j => j ≠ 33 ∧ 33 ∉ clsAt [[], [], [], [], [3], [], [], [6], [], [], [8, 9], [8, 9, 10], [], [8, 9, 10, 11, 12], [], [], [15], [14, 15, 16], [14, 15, 16, 17], [], [14, 15, 16, 17, 18, 19], [], [], [22], [21, 22, 23], [21, 22, 23, 24], [], [21, 22, 23, 24, 25, 26], [0, 1, 8, 9, 10, 11, 12, 13, 14, 15, 16, 17, 18, 21, 22, 23, 24, 25], [0, 1, 8, 9, 10, 11, 12, 13, 14, 15, 16, 17, 18, 21, 22, 23, 24, 25, 28], [0, 1, 2, 3, 4, 8, 9, 10, 11, 12, 13, 14, 15, 16, 17, 18, 19, 20, 21, 22, 23, 24, 25, 28, 29], [0, 1, 2, 3, 4, 8, 9, 10, 11, 12, 13, 14, 15, 16, 17, 18, 19, 20, 21, 22, 23, 24, 25, 28, 29, 30], [0, 1, 2, 3, 4, 5, 6, 7, 8, 9, 10, 11, 12, 13, 14, 15, 16, 17, 18, 19, 20, 21, 22, 23, 24, 25, 26, 27, 28, 29, 30, 31], [0, 1, 2, 3, 4, 5, 6, 7, 8, 9, 10, 11, 12, 13, 14, 15, 16, 17, 18, 19, 20, 21, 22, 23, 24, 25, 26, 27, 28, 29, 30, 31, 32]] j) (fun _ ⟨h1, h2⟩ => ⟨by rw [fset_ne rfl]; exact h1, own_ne h2 hgr hgn.symm⟩) (phiS_cons_st (C := fun j => j ≠ 33 ∧ 33 ∉ clsAt [[], [], [], [], [3], [], [], [6], [], [], [8, 9], [8, 9, 10], [], [8, 9, 10, 11, 12], [], [], [15], [14, 15, 16], [14, 15, 16, 17], [], [14, 15, 16, 17, 18, 19], [], [], [22], [21, 22, 23], [21, 22, 23, 24], [], [21, 22, 23, 24, 25, 26], [0, 1, 8, 9, 10, 11, 12, 13, 14, 15, 16, 17, 18, 21, 22, 23, 24, 25], [0, 1, 8, 9, 10, 11, 12, 13, 14, 15, 16, 17, 18, 21, 22, 23, 24, 25, 28], [0, 1, 2, 3, 4, 8, 9, 10, 11, 12, 13, 14, 15, 16, 17, 18, 19, 20, 21, 22, 23, 24, 25, 28, 29], [0, 1, 2, 3, 4, 8, 9, 10, 11, 12, 13, 14, 15, 16, 17, 18, 19, 20, 21, 22, 23, 24, 25, 28, 29, 30], [0, 1, 2, 3, 4, 5, 6, 7, 8, 9, 10, 11, 12, 13, 14, 15, 16, 17, 18, 19, 20, 21, 22, 23, 24, 25, 26, 27, 28, 29, 30, 31], [0, 1, 2, 3, 4, 5, 6, 7, 8, 9, 10, 11, 12, 13, 14, 15, 16, 17, 18, 19, 20, 21, 22, 23, 24, 25, 26, 27, 28, 29, 30, 31, 32]] j) (fun _ ⟨h1, _⟩ => ⟨by rw [fset_ne rfl]; exact h1, fun h => by rw [fset_eq] at h; cases h⟩) (phiS_cons_st (C := fun j => j ≠ 33 ∧ 33 ∉ clsAt [[], [], [], [], [3], [], [], [6], [], [], [8, 9], [8, 9, 10], [], [8, 9, 10, 11, 12], [], [], [15], [14, 15, 16], [14, 15, 16, 17], [], [14, 15, 16, 17, 18, 19], [], [], [22], [21, 22, 23], [21, 22, 23, 24], [], [21, 22, 23, 24, 25, 26], [0, 1, 8, 9, 10, 11, 12, 13, 14, 15, 16, 17, 18, 21, 22, 23, 24, 25], [0, 1, 8, 9, 10, 11, 12, 13, 14, 15, 16, 17, 18, 21, 22, 23, 24, 25, 28], [0, 1, 2, 3, 4, 8, 9, 10, 11, 12, 13, 14, 15, 16, 17, 18, 19, 20, 21, 22, 23, 24, 25, 28, 29], [0, 1, 2, 3, 4, 8, 9, 10, 11, 12, 13, 14, 15, 16, 17, 18, 19, 20, 21, 22, 23, 24, 25, 28, 29, 30], [0, 1, 2, 3, 4, 5, 6, 7, 8, 9, 10, 11, 12, 13, 14, 15, 16, 17, 18, 19, 20, 21, 22, 23, 24, 25, 26, 27, 28, 29, 30, 31], [0, 1, 2, 3, 4, 5, 6, 7, 8, 9, 10, 11, 12, 13, 14, 15, 16, 17, 18, 19, 20, 21, 22, 23, 24, 25, 26, 27, 28, 29, 30, 31, 32]] j) (fun hc => absurd rfl hc.1) (fun _ _ h => h))) j ⟨hj, hn⟩
                  · intro val fl wR33 hfl hb halc hd
                    obtain ⟨hT, _⟩ := hb
                    have hz_mo := (hd 29 (by omega)).2
                    change wR33.ownsRow w7.heap.size 3 1 (.slice (some ⟨gmo, 0, none⟩) ml.length cl22) ml.length (ints (mo.set x (m + k1))) at hz_mo
                    have hz_ov := (hd 33 (by omega)).2
                    change wR33.ownsRow w7.heap.size 3 1 (.slice (some ⟨gov, 0, none⟩) nt.ports.length cov) nt.ports.length (ints ((ov.set f_ (vf - k1)).set t_ (vt + k1))) at hz_ov
                    have e0 : val 0 = .slice (some ⟨gmo, 0, none⟩) ml.length cl22 := hd 0 (by omega)
                    have e1 : val 1 = .int .i64 (x : Nat) := hd 1 (by omega)
                    have e2 : val 2 = .slice (some ⟨gov, 0, none⟩) nt.ports.length cov := hd 2 (by omega)
                    have e3 : val 3 = .pointer (some ⟨g24, 0, none⟩) := hd 3 (by omega)
                    have e4 : val 4 = .int .i64 (f_ : Nat) := hd 4 (by omega)
                    have e5 : val 5 = .slice (some ⟨gov, 0, none⟩) nt.ports.length cov := hd 5 (by omega)
                    have e6 : val 6 = .pointer (some ⟨g24, 1, none⟩) := hd 6 (by omega)
                    have e7 : val 7 = .int .i64 (t_ : Nat) := hd 7 (by omega)
                    have e8 : val 8 = .slice (some ⟨gmo, 0, none⟩) ml.length cl22 := hd 8 (by omega)
                    have e9 : val 9 = .int .i64 (x : Nat) := hd 9 (by omega)
                    have e10 : val 10 = .pointer (some ⟨gmo, 0 + x, none⟩) := hd 10 (by omega)
                    have e11 : val 11 = .int .i64 m := hd 11 (by omega)
                    have e12 : val 12 = .int .i64 k1 := hd 12 (by omega)
                    have e13 : val 13 = .int .i64 (m + k1) := hd 13 (by omega)
                    have e14 : val 14 = .slice (some ⟨gov, 0, none⟩) nt.ports.length cov := hd 14 (by omega)
                    have e15 : val 15 = .pointer (some ⟨g24, 0, none⟩) := hd 15 (by omega)
                    have e16 : val 16 = .int .i64 (f_ : Nat) := hd 16 (by omega)
                    have e17 : val 17 = .pointer (some ⟨gov, 0 + f_, none⟩) := hd 17 (by omega)
                    have e18 : val 18 = .int .i64 vf := hd 18 (by omega)
                    have e19 : val 19 = .int .i64 k1 := hd 19 (by omega)
                    have e20 : val 20 = .int .i64 (vf - k1) := hd 20 (by omega)
                    have e21 : val 21 = .slice (some ⟨gov, 0, none⟩) nt.ports.length cov := hd 21 (by omega)
                    have e22 : val 22 = .pointer (some ⟨g24, 1, none⟩) := hd 22 (by omega)
                    have e23 : val 23 = .int .i64 (t_ : Nat) := hd 23 (by omega)
                    have e24 : val 24 = .pointer (some ⟨gov, 0 + t_, none⟩) := hd 24 (by omega)
                    have e25 : val 25 = .int .i64 vt := hd 25 (by omega)
                    have e26 : val 26 = .int .i64 k1 := hd 26 (by omega)
                    have e27 : val 27 = .int .i64 (vt + k1) := hd 27 (by omega)
                    have e28 : val 28 = .pointer (some ⟨gmo, 0 + x, none⟩) := hd 28 (by omega)
                    have e30 : val 30 = .pointer (some ⟨gov, 0 + f_, none⟩) := hd 30 (by omega)
                    have e32 : val 32 = .pointer (some ⟨gov, 0 + t_, none⟩) := hd 32 (by omega)
                    refine EL.ends (cs := [.slice (some ⟨gmo, 0, none⟩) ml.length cl22, .int .i64 (x : Nat), .slice (some ⟨gov, 0, none⟩) nt.ports.length cov, .pointer (some ⟨g24, 0, none⟩), .int .i64 (f_ : Nat), .slice (some ⟨gov, 0, none⟩) nt.ports.length cov, .pointer (some ⟨g24, 1, none⟩), .int .i64 (t_ : Nat), .slice (some ⟨gmo, 0, none⟩) ml.length cl22, .int .i64 (x : Nat), .pointer (some ⟨gmo, 0 + x, none⟩), .int .i64 m, .int .i64 k1, .int .i64 (m + k1), .slice (some ⟨gov, 0, none⟩) nt.ports.length cov, .pointer (some ⟨g24, 0, none⟩), .int .i64 (f_ : Nat), .pointer (some ⟨gov, 0 + f_, none⟩), .int .i64 vf, .int .i64 k1, .int .i64 (vf - k1), .slice (some ⟨gov, 0, none⟩) nt.ports.length cov, .pointer (some ⟨g24, 1, none⟩), .int .i64 (t_ : Nat), .pointer (some ⟨gov, 0 + t_, none⟩), .int .i64 vt, .int .i64 k1, .int .i64 (vt + k1), .pointer (some ⟨gmo, 0 + x, none⟩), val 29, .pointer (some ⟨gov, 0 + f_, none⟩), val 31, .pointer (some ⟨gov, 0 + t_, none⟩), val 33]) ⟨e0, e1, e2, e3, e4, e5, e6, e7, e8, e9, e10, e11, e12, e13, e14, e15, e16, e17, e18, e19, e20, e21, e22, e23, e24, e25, e26, e27, e28, rfl, e30, rfl, e32, rfl, trivial⟩ rfl ?_
                    replace q2x := q2x.touch hT (by simp only [List.mem_cons, List.not_mem_nil, or_false, not_or]; exact ⟨nr1_mo, nr1_ov⟩)
                    replace q24 := q24.touch hT (by simp only [List.mem_cons, List.not_mem_nil, or_false, not_or]; exact ⟨nr24_mo, nr24_ov⟩)
                    replace hbw := Touch.anchor hT hbw (fun g hg => by simp only [List.mem_cons, List.not_mem_nil, or_false] at hg; rcases hg with rfl | rfl <;> omega)
                    replace hbM := Touch.anchor hT hbM (fun g hg => by simp only [List.mem_cons, List.not_mem_nil, or_false] at hg; rcases hg with rfl | rfl <;> omega)
                    clear hT hmo hov
                    have hmo := hz_mo
                    clear hz_mo
                    have hov := hz_ov
                    clear hz_ov
                    refine EL.nil ?_
                    refine EX.blk ?_
                    refine EX.seq ?_
                    refine EC.region ?_
                    refine EL.val (x_move rfl) rfl ?_
                    refine EL.val (x_add rfl rfl (c := ((x + 1 : Nat) : Int)) ((IntWalk.i64_in _ ⟨by first | omega | (simp only; omega), by first | omega | (simp only; omega)⟩).trans (by first | omega | (simp only; omega)))) rfl ?_
                    refine EL.val (x_assign rfl) rfl ?_
                    refine EL.nil ?_
                    refine EX.roundD (x + 1, mo.set x (m + k1), ((ov.set f_ (vf - k1)).set t_ (vt + k1))) ⟨rfl, trivial⟩ (by repeat first | with_reducible exact Sub.refl _ | refine sub_past rfl ?_ | exact Sub.refl _ | refine sub_del rfl ?_ | refine sub_insL_nil ?_) ⟨hlt, hsp k1 (by omega) (by omega) (by omega) (by omega), hmo, q2x, hov, hbM, hbw⟩ (by simp only; omega)
                ·
                  refine EL.val (x_gtr (r := false) rfl rfl (decide_eq_false (by omega))) rfl ?_
                  refine EL.nil ?_
                  refine EX.seq ?_
                  refine EC.no rfl ?_
                  refine EC.seq ?_
                  replace rm := own_int_cell hmo (k := x) (by omega)
                  rw [← em] at rm
                  replace rf_ := own_int_cell hov (k := f_) (by omega)
                  rw [← evf] at rf_
                  replace rt_ := own_int_cell hov (k := t_) (by omega)
                  rw [← evt] at rt_
                  refine EC.regionQ (by kernel_rfl) (by kernel_rfl) ?_
                  refine EQ.val (fun _ hw => (x_move rfl)) rfl ?_
                  refine EQ.val (fun _ hw => (x_move rfl)) rfl ?_
                  refine EQ.call (fun _ _ _ ha => cl_28 rfl rfl _ ha) rfl (fun W hw => (part_any ys _ x W B (hry.below ((hbw.trans (hw.mono hbw.size)).mono hB)) hly).mono fun e w' h => ⟨h.1, hw.trans (h.2.mono hw.size)⟩) ?_
                  refine EQ.val (fun _ hw => (cv_5_3 rfl (IntWalk.i64_in _ ⟨by omega, by omega⟩))) rfl ?_
                  refine EQ.val (fun _ hw => (x_rem rfl rfl (c := (partI ys x).tmod 4) (by decide) rfl)) rfl ?_
                  refine EQ.val (fun _ hw => (x_move rfl)) rfl ?_
                  refine EQ.val (fun _ hw => (x_move rfl)) rfl ?_
                  refine EQ.val (fun _ hw => (ix_29 rfl rfl (show x < ml.length by omega))) rfl ?_
                  refine EQ.val (fun _ hw => (ld_3 rfl (below_load hw rm))) rfl ?_
                  refine EQ.val (fun _ hw => (x_move rfl)) rfl ?_
                  refine EQ.val (fun _ hw => (fa_56_1 rfl)) rfl ?_
                  refine EQ.val (fun _ hw => (ld_3 rfl (below_load hw (q24.at (j := 1) rfl)))) rfl ?_
                  refine EQ.val (fun _ hw => (ix_29 rfl rfl (show t_ < nt.ports.length by omega))) rfl ?_
                  refine EQ.val (fun _ hw => (ld_3 rfl (below_load hw rt_))) rfl ?_
                  refine EQ.val (fun _ hw => (mm_min3 rfl rfl rfl ek2.symm)) rfl ?_
                  refine EQ.val (fun _ hw => (x_assign rfl)) rfl ?_
                  refine EQ.fin (fun w27 hw_ => ?_)
                  replace q2x := q2x.below hw_ q2x.lt
                  replace q24 := q24.below hw_ q24.lt
                  replace hmo := own_below hmo hw_ (Nat.le_refl _)
                  replace hov := own_below hov hw_ (Nat.le_refl _)
                  replace hbw := Below.on hbw hw_ hbw.size
                  replace hbM := Below.on hbM hw_ hbM.size
                  clear hw_
                  refine EX.seq ?_
                  refine EC.seq ?_
                  refine EC.region ?_
                  refine EL.val (x_move rfl) rfl ?_
                  by_cases hk2 : 0 < k2
                  ·
                    refine EL.val (x_gtr (r := true) rfl rfl (decide_eq_true (by omega))) rfl ?_
                    refine EL.nil ?_
                    refine EX.seq ?_
                    refine EC.yes rfl ?_
                    have nr1_mo : g1 ≠ gmo := row_ne2 hmo q2x rfl
                    have nr1_ov : g1 ≠ gov := row_ne2 hov q2x rfl
                    have nr24_mo : g24 ≠ gmo := row_ne2 hmo q24 rfl
                    have nr24_ov : g24 ≠ gov := row_ne2 hov q24 rfl
                    have lb_mo : w7.heap.size ≤ gmo := (hmo.lt _ rfl).1
                    have lb_ov : w7.heap.size ≤ gov := (hov.lt _ rfl).1
                    refine EC.regionS [[], [], [], [], [3], [], [], [6], [], [], [8, 9], [8, 9, 10], [], [8, 9, 10, 11, 12], [], [], [15], [14, 15, 16], [14, 15, 16, 17], [], [14, 15, 16, 17, 18, 19], [], [], [22], [21, 22, 23], [21, 22, 23, 24], [], [21, 22, 23, 24, 25, 26], [0, 1, 8, 9, 10, 11, 12, 13, 14, 15, 16, 17, 18, 21, 22, 23, 24, 25], [0, 1, 8, 9, 10, 11, 12, 13, 14, 15, 16, 17, 18, 21, 22, 23, 24, 25, 28], [0, 1, 2, 3, 4, 8, 9, 10, 11, 12, 13, 14, 15, 16, 17, 18, 19, 20, 21, 22, 23, 24, 25, 28, 29], [0, 1, 2, 3, 4, 8, 9, 10, 11, 12, 13, 14, 15, 16, 17, 18, 19, 20, 21, 22, 23, 24, 25, 28, 29, 30], [0, 1, 2, 3, 4, 5, 6, 7, 8, 9, 10, 11, 12, 13, 14, 15, 16, 17, 18, 19, 20, 21, 22, 23, 24, 25, 26, 27, 28, 29, 30, 31], [0, 1, 2, 3, 4, 5, 6, 7, 8, 9, 10, 11, 12, 13, 14, 15, 16, 17, 18, 19, 20, 21, 22, 23, 24, 25, 26, 27, 28, 29, 30, 31, 32]] 34 [] [29, 31, 33] (fun fl w_ => Touch w27 w_ [gmo, gov] ∧ (fl 29 = false → w_.ownsRow w7.heap.size 3 1 (.slice (some ⟨gmo, 0, none⟩) ml.length cl22) ml.length (ints mo)) ∧ (fl 31 = false → w_.ownsRow w7.heap.size 3 1 (.slice (some ⟨gov, 0, none⟩) nt.ports.length cov) nt.ports.length (ints ov))) (phiS (fun i_ r => match i_ with | 0 => r 0 = .slice (some ⟨gmo, 0, none⟩) ml.length cl22 | 1 => r 1 = .int .i64 (x : Nat) | 2 => r 2 = .slice (some ⟨gov, 0, none⟩) nt.ports.length cov | 3 => r 3 = .pointer (some ⟨g24, 0, none⟩) | 4 => r 4 = .int .i64 (f_ : Nat) | 5 => r 5 = .slice (some ⟨gov, 0, none⟩) nt.ports.length cov | 6 => r 6 = .pointer (some ⟨g24, 1, none⟩) | 7 => r 7 = .int .i64 (t_ : Nat) | 8 => r 8 = .slice (some ⟨gmo, 0, none⟩) ml.length cl22 | 9 => r 9 = .int .i64 (x : Nat) | 10 => r 10 = .pointer (some ⟨gmo, 0 + x, none⟩) | 11 => r 11 = .int .i64 m | 12 => r 12 = .int .i64 k2 | 13 => r 13 = .int .i64 (m - k2) | 14 => r 14 = .slice (some ⟨gov, 0, none⟩) nt.ports.length cov | 15 => r 15 = .pointer (some ⟨g24, 0, none⟩) | 16 => r 16 = .int .i64 (f_ : Nat) | 17 => r 17 = .pointer (some ⟨gov, 0 + f_, none⟩) | 18 => r 18 = .int .i64 vf | 19 => r 19 = .int .i64 k2 | 20 => r 20 = .int .i64 (vf + k2) | 21 => r 21 = .slice (some ⟨gov, 0, none⟩) nt.ports.length cov | 22 => r 22 = .pointer (some ⟨g24, 1, none⟩) | 23 => r 23 = .int .i64 (t_ : Nat) | 24 => r 24 = .pointer (some ⟨gov, 0 + t_, none⟩) | 25 => r 25 = .int .i64 vt | 26 => r 26 = .int .i64 k2 | 27 => r 27 = .int .i64 (vt - k2) | 28 => r 28 = .pointer (some ⟨gmo, 0 + x, none⟩) | 30 => r 30 = .pointer (some ⟨gov, 0 + f_, none⟩) | 32 => r 32 = .pointer (some ⟨gov, 0 + t_, none⟩) | _ => True) [(29, fun fl _ w_ => fl 29 = true ∧ w_.ownsRow w7.heap.size 3 1 (.slice (some ⟨gmo, 0, none⟩) ml.length cl22) ml.length (ints (mo.set x (m - k2)))), (31, fun fl _ w_ => fl 31 = true ∧ (fl 33 = false → w_.ownsRow w7.heap.size 3 1 (.slice (some ⟨gov, 0, none⟩) nt.ports.length cov) nt.ports.length (ints (ov.set f_ (vf + k2))))), (33, fun fl _ w_ => fl 33 = true ∧ w_.ownsRow w7.heap.size 3 1 (.slice (some ⟨gov, 0, none⟩) nt.ports.length cov) nt.ports.length (ints ((ov.set f_ (vf + k2)).set t_ (vt - k2))))]) (by kernel_rfl) rfl rfl (by intro i hi; simp at hi; rcases hi with rfl | rfl | rfl <;> exact ⟨by simp, by omega⟩) ⟨fun _ _ => ⟨Touch.start _ _, fun _ => own_drewN hmo 1, fun _ => own_drewN hov 1⟩, fun _ _ _ ⟨hT, hA0_, hA1_⟩ hb => ⟨hT.below hb, fun h => own_below (hA0_ h) hb (Nat.le_refl _), fun h => own_below (hA1_ h) hb (Nat.le_refl _)⟩, fun _ _ h => h.1.size⟩ (phiS_cons (fun _ _ _ _ hb ⟨h1, h2⟩ => ⟨h1, own_below h2 hb (Nat.le_refl _)⟩) (phiS_cons (fun _ _ _ _ hb ⟨h1, h2⟩ => ⟨h1, fun h => own_below (h2 h) hb (Nat.le_refl _)⟩) (phiS_cons (fun _ _ _ _ hb ⟨h1, h2⟩ => ⟨h1, own_below h2 hb (Nat.le_refl _)⟩) (phiS_nil)))) (fun i_ hi_ hs_ => ?_) (fun i_ hi_ => ?_) ?_
                    · match i_, hi_ with
                      | 0, _ =>
                        intro val fl w1 a hb ha hd hfl
                        obtain ⟨hT, hA0_, hA1_⟩ := hb
                        have ha := ha.sub (Sub.ins (d := 24) (Sub.nil _) rfl)
                        exact ss_val ha rfl rfl (x_move rfl) rfl rfl
                      | 1, _ =>
                        intro val fl w1 a hb ha hd hfl
                        obtain ⟨hT, hA0_, hA1_⟩ := hb
                        have ha := ha.sub (Sub.ins (d := 25) (Sub.nil _) rfl)
                        exact ss_val ha rfl rfl (x_move rfl) rfl rfl
                      | 2, _ =>
                        intro val fl w1 a hb ha hd hfl
                        obtain ⟨hT, hA0_, hA1_⟩ := hb
                        have ha := ha.sub (Sub.ins (d := 11) (Sub.nil _) rfl)
                        exact ss_val ha rfl rfl (x_move rfl) rfl rfl
                      | 3, _ =>
                        intro val fl w1 a hb ha hd hfl
                        obtain ⟨hT, hA0_, hA1_⟩ := hb
                        have ha := ha.sub (Sub.ins (d := 27) (Sub.nil _) rfl)
                        exact ss_val ha rfl rfl (fa_56_0 rfl) rfl rfl
                      | 4, _ =>
                        intro val fl w1 a hb ha hd hfl
                        obtain ⟨hT, hA0_, hA1_⟩ := hb
                        have e3 : val 3 = .pointer (some ⟨g24, 0, none⟩) := hd 3 (memB_mem.1 rfl)
                        have ha := ha.sub (Sub.ins (d := 281) (Sub.nil _) (dep_get rfl e3))
                        exact ss_val ha rfl rfl (ld_3 rfl ((q24.touch hT (by simp only [List.mem_cons, List.not_mem_nil, or_false, not_or]; exact ⟨nr24_mo, nr24_ov⟩)).at (j := 0) rfl)) rfl rfl
                      | 5, _ =>
                        intro val fl w1 a hb ha hd hfl
                        obtain ⟨hT, hA0_, hA1_⟩ := hb
                        have ha := ha.sub (Sub.ins (d := 11) (Sub.nil _) rfl)
                        exact ss_val ha rfl rfl (x_move rfl) rfl rfl
                      | 6, _ =>
                        intro val fl w1 a hb ha hd hfl
                        obtain ⟨hT, hA0_, hA1_⟩ := hb
                        have ha := ha.sub (Sub.ins (d := 27) (Sub.nil _) rfl)
                        exact ss_val ha rfl rfl (fa_56_1 rfl) rfl rfl
                      | 7, _ =>
                        intro val fl w1 a hb ha hd hfl
                        obtain ⟨hT, hA0_, hA1_⟩ := hb
                        have e6 : val 6 = .pointer (some ⟨g24, 1, none⟩) := hd 6 (memB_mem.1 rfl)
                        have ha := ha.sub (Sub.ins (d := 284) (Sub.nil _) (dep_get rfl e6))
                        exact ss_val ha rfl rfl (ld_3 rfl ((q24.touch hT (by simp only [List.mem_cons, List.not_mem_nil, or_false, not_or]; exact ⟨nr24_mo, nr24_ov⟩)).at (j := 1) rfl)) rfl rfl
                      | 8, _ =>
                        intro val fl w1 a hb ha hd hfl
                        obtain ⟨hT, hA0_, hA1_⟩ := hb
                        have ha := ha.sub (Sub.ins (d := 24) (Sub.nil _) rfl)
                        exact ss_val ha rfl rfl (x_move rfl) rfl rfl
                      | 9, _ =>
                        intro val fl w1 a hb ha hd hfl
                        obtain ⟨hT, hA0_, hA1_⟩ := hb
                        have ha := ha.sub (Sub.ins (d := 25) (Sub.nil _) rfl)
                        exact ss_val ha rfl rfl (x_move rfl) rfl rfl
                      | 10, _ =>
                        intro val fl w1 a hb ha hd hfl
                        obtain ⟨hT, hA0_, hA1_⟩ := hb
                        have e8 : val 8 = .slice (some ⟨gmo, 0, none⟩) ml.length cl22 := hd 8 (memB_mem.1 rfl)
                        have e9 : val 9 = .int .i64 (x : Nat) := hd 9 (memB_mem.1 rfl)
                        have ha := ha.sub (Sub.ins (d := 287) (Sub.ins (d := 286) (Sub.nil _) (dep_get rfl e8)) (dep_get rfl e9))
                        exact ss_val ha rfl rfl (ix_29 rfl rfl (show x < ml.length by omega)) rfl rfl
                      | 11, _ =>
                        intro val fl w1 a hb ha hd hfl
                        obtain ⟨hT, hA0_, hA1_⟩ := hb
                        have e10 : val 10 = .pointer (some ⟨gmo, 0 + x, none⟩) := hd 10 (memB_mem.1 rfl)
                        have ha := ha.sub (Sub.ins (d := 288) (Sub.nil _) (dep_get rfl e10))
                        have hr0 := hA0_ (hfl 29 (by simp) (memB_mem.1 rfl))
                        exact ss_val ha rfl rfl (ld_3 rfl (by have h_ := own_int_cell hr0 (k := x) (by omega); rw [← em] at h_; exact h_)) rfl rfl
                      | 12, _ =>
                        intro val fl w1 a hb ha hd hfl
                        obtain ⟨hT, hA0_, hA1_⟩ := hb
                        have ha := ha.sub (Sub.ins (d := 26) (Sub.nil _) rfl)
                        exact ss_val ha rfl rfl (x_move rfl) rfl rfl
                      | 13, _ =>
                        intro val fl w1 a hb ha hd hfl
                        obtain ⟨hT, hA0_, hA1_⟩ := hb
                        have e11 : val 11 = .int .i64 m := hd 11 (memB_mem.1 rfl)
                        have e12 : val 12 = .int .i64 k2 := hd 12 (memB_mem.1 rfl)
                        have ha := ha.sub (Sub.ins (d := 290) (Sub.ins (d := 289) (Sub.nil _) (dep_get rfl e11)) (dep_get rfl e12))
                        exact ss_val ha rfl rfl (x_sub rfl rfl (IntWalk.i64_in _ ⟨by omega, by omega⟩)) rfl rfl
                      | 14, _ =>
                        intro val fl w1 a hb ha hd hfl
                        obtain ⟨hT, hA0_, hA1_⟩ := hb
                        have ha := ha.sub (Sub.ins (d := 11) (Sub.nil _) rfl)
                        exact ss_val ha rfl rfl (x_move rfl) rfl rfl
                      | 15, _ =>
                        intro val fl w1 a hb ha hd hfl
                        obtain ⟨hT, hA0_, hA1_⟩ := hb
                        have ha := ha.sub (Sub.ins (d := 27) (Sub.nil _) rfl)
                        exact ss_val ha rfl rfl (fa_56_0 rfl) rfl rfl
                      | 16, _ =>
                        intro val fl w1 a hb ha hd hfl
                        obtain ⟨hT, hA0_, hA1_⟩ := hb
                        have e15 : val 15 = .pointer (some ⟨g24, 0, none⟩) := hd 15 (memB_mem.1 rfl)
                        have ha := ha.sub (Sub.ins (d := 293) (Sub.nil _) (dep_get rfl e15))
                        exact ss_val ha rfl rfl (ld_3 rfl ((q24.touch hT (by simp only [List.mem_cons, List.not_mem_nil, or_false, not_or]; exact ⟨nr24_mo, nr24_ov⟩)).at (j := 0) rfl)) rfl rfl
                      | 17, _ =>
                        intro val fl w1 a hb ha hd hfl
                        obtain ⟨hT, hA0_, hA1_⟩ := hb
                        have e14 : val 14 = .slice (some ⟨gov, 0, none⟩) nt.ports.length cov := hd 14 (memB_mem.1 rfl)
                        have e16 : val 16 = .int .i64 (f_ : Nat) := hd 16 (memB_mem.1 rfl)
                        have ha := ha.sub (Sub.ins (d := 294) (Sub.ins (d := 292) (Sub.nil _) (dep_get rfl e14)) (dep_get rfl e16))
                        exact ss_val ha rfl rfl (ix_29 rfl rfl (show f_ < nt.ports.length by omega)) rfl rfl
                      | 18, _ =>
                        intro val fl w1 a hb ha hd hfl
                        obtain ⟨hT, hA0_, hA1_⟩ := hb
                        have e17 : val 17 = .pointer (some ⟨gov, 0 + f_, none⟩) := hd 17 (memB_mem.1 rfl)
                        have ha := ha.sub (Sub.ins (d := 295) (Sub.nil _) (dep_get rfl e17))
                        have hr0 := hA1_ (hfl 31 (by simp) (memB_mem.1 rfl))
                        exact ss_val ha rfl rfl (ld_3 rfl (by have h_ := own_int_cell hr0 (k := f_) (by omega); rw [← evf] at h_; exact h_)) rfl rfl
                      | 19, _ =>
                        intro val fl w1 a hb ha hd hfl
                        obtain ⟨hT, hA0_, hA1_⟩ := hb
                        have ha := ha.sub (Sub.ins (d := 26) (Sub.nil _) rfl)
                        exact ss_val ha rfl rfl (x_move rfl) rfl rfl
                      | 20, _ =>
                        intro val fl w1 a hb ha hd hfl
                        obtain ⟨hT, hA0_, hA1_⟩ := hb
                        have e18 : val 18 = .int .i64 vf := hd 18 (memB_mem.1 rfl)
                        have e19 : val 19 = .int .i64 k2 := hd 19 (memB_mem.1 rfl)
                        have ha := ha.sub (Sub.ins (d := 297) (Sub.ins (d := 296) (Sub.nil _) (dep_get rfl e18)) (dep_get rfl e19))
                        exact ss_val ha rfl rfl (x_add rfl rfl (IntWalk.i64_in _ ⟨by omega, by omega⟩)) rfl rfl
                      | 21, _ =>
                        intro val fl w1 a hb ha hd hfl
                        obtain ⟨hT, hA0_, hA1_⟩ := hb
                        have ha := ha.sub (Sub.ins (d := 11) (Sub.nil _) rfl)
                        exact ss_val ha rfl rfl (x_move rfl) rfl rfl
                      | 22, _ =>
                        intro val fl w1 a hb ha hd hfl
                        obtain ⟨hT, hA0_, hA1_⟩ := hb
                        have ha := ha.sub (Sub.ins (d := 27) (Sub.nil _) rfl)
                        exact ss_val ha rfl rfl (fa_56_1 rfl) rfl rfl
                      | 23, _ =>
                        intro val fl w1 a hb ha hd hfl
                        obtain ⟨hT, hA0_, hA1_⟩ := hb
                        have e22 : val 22 = .pointer (some ⟨g24, 1, none⟩) := hd 22 (memB_mem.1 rfl)
                        have ha := ha.sub (Sub.ins (d := 300) (Sub.nil _) (dep_get rfl e22))
                        exact ss_val ha rfl rfl (ld_3 rfl ((q24.touch hT (by simp only [List.mem_cons, List.not_mem_nil, or_false, not_or]; exact ⟨nr24_mo, nr24_ov⟩)).at (j := 1) rfl)) rfl rfl
                      | 24, _ =>
                        intro val fl w1 a hb ha hd hfl
                        obtain ⟨hT, hA0_, hA1_⟩ := hb
                        have e21 : val 21 = .slice (some ⟨gov, 0, none⟩) nt.ports.length cov := hd 21 (memB_mem.1 rfl)
                        have e23 : val 23 = .int .i64 (t_ : Nat) := hd 23 (memB_mem.1 rfl)
                        have ha := ha.sub (Sub.ins (d := 301) (Sub.ins (d := 299) (Sub.nil _) (dep_get rfl e21)) (dep_get rfl e23))
                        exact ss_val ha rfl rfl (ix_29 rfl rfl (show t_ < nt.ports.length by omega)) rfl rfl
                      | 25, _ =>
                        intro val fl w1 a hb ha hd hfl
                        obtain ⟨hT, hA0_, hA1_⟩ := hb
                        have e24 : val 24 = .pointer (some ⟨gov, 0 + t_, none⟩) := hd 24 (memB_mem.1 rfl)
                        have ha := ha.sub (Sub.ins (d := 302) (Sub.nil _) (dep_get rfl e24))
                        have hr0 := hA1_ (hfl 31 (by simp) (memB_mem.1 rfl))
                        exact ss_val ha rfl rfl (ld_3 rfl (by have h_ := own_int_cell hr0 (k := t_) (by omega); rw [← evt] at h_; exact h_)) rfl rfl
                      | 26, _ =>
                        intro val fl w1 a hb ha hd hfl
                        obtain ⟨hT, hA0_, hA1_⟩ := hb
                        have ha := ha.sub (Sub.ins (d := 26) (Sub.nil _) rfl)
                        exact ss_val ha rfl rfl (x_move rfl) rfl rfl
                      | 27, _ =>
                        intro val fl w1 a hb ha hd hfl
                        obtain ⟨hT, hA0_, hA1_⟩ := hb
                        have e25 : val 25 = .int .i64 vt := hd 25 (memB_mem.1 rfl)
                        have e26 : val 26 = .int .i64 k2 := hd 26 (memB_mem.1 rfl)
                        have ha := ha.sub (Sub.ins (d := 304) (Sub.ins (d := 303) (Sub.nil _) (dep_get rfl e25)) (dep_get rfl e26))
                        exact ss_val ha rfl rfl (x_sub rfl rfl (IntWalk.i64_in _ ⟨by omega, by omega⟩)) rfl rfl
                      | 28, _ =>
                        intro val fl w1 a hb ha hd hfl
                        obtain ⟨hT, hA0_, hA1_⟩ := hb
                        have e0 : val 0 = .slice (some ⟨gmo, 0, none⟩) ml.length cl22 := hd 0 (memB_mem.1 rfl)
                        have e1 : val 1 = .int .i64 (x : Nat) := hd 1 (memB_mem.1 rfl)
                        have ha := ha.sub (Sub.ins (d := 279) (Sub.ins (d := 278) (Sub.nil _) (dep_get rfl e0)) (dep_get rfl e1))
                        exact ss_val ha rfl rfl (ix_29 rfl rfl (show x < ml.length by omega)) rfl rfl
                      | 29, _ =>
                        exact absurd (by simp) hs_
                      | 30, _ =>
                        intro val fl w1 a hb ha hd hfl
                        obtain ⟨hT, hA0_, hA1_⟩ := hb
                        have e2 : val 2 = .slice (some ⟨gov, 0, none⟩) nt.ports.length cov := hd 2 (memB_mem.1 rfl)
                        have e4 : val 4 = .int .i64 (f_ : Nat) := hd 4 (memB_mem.1 rfl)
                        have ha := ha.sub (Sub.ins (d := 282) (Sub.ins (d := 280) (Sub.nil _) (dep_get rfl e2)) (dep_get rfl e4))
                        exact ss_val ha rfl rfl (ix_29 rfl rfl (show f_ < nt.ports.length by omega)) rfl rfl
                      | 31, _ =>
                        exact absurd (by simp) hs_
                      | 32, _ =>
                        intro val fl w1 a hb ha hd hfl
                        obtain ⟨hT, hA0_, hA1_⟩ := hb
                        have e5 : val 5 = .slice (some ⟨gov, 0, none⟩) nt.ports.length cov := hd 5 (memB_mem.1 rfl)
                        have e7 : val 7 = .int .i64 (t_ : Nat) := hd 7 (memB_mem.1 rfl)
                        have ha := ha.sub (Sub.ins (d := 285) (Sub.ins (d := 283) (Sub.nil _) (dep_get rfl e5)) (dep_get rfl e7))
                        exact ss_val ha rfl rfl (ix_29 rfl rfl (show t_ < nt.ports.length by omega)) rfl rfl
                      | 33, _ =>
                        exact absurd (by simp) hs_
                      | k + 34, h => exact absurd h (by omega)
                    · simp only [List.mem_cons, List.not_mem_nil, or_false] at hi_
                      rcases hi_ with rfl | rfl | rfl
                      ·
                        intro val fl w1 a hb hfi ha hd hfl
                        obtain ⟨hT, hA0_, hA1_⟩ := hb
                        have e28 : val 28 = .pointer (some ⟨gmo, 0 + x, none⟩) := hd 28 (memB_mem.1 rfl)
                        have e13 : val 13 = .int .i64 (m - k2) := hd 13 (memB_mem.1 rfl)
                        have ha := ha.sub (Sub.ins (d := 291) (Sub.ins (d := 306) (Sub.nil _) (dep_get rfl e28)) (dep_get rfl e13))
                        refine ts_storeRow (l' := [.int .i64 (m - k2)]) ha rfl rfl rfl (hA0_ hfi) sz_3 rfl rfl (by rw [ints_len, Nat.zero_add]; omega) rfl ?_
                        intro w' ho2 hgr
                        rw [Nat.zero_add, spl_ints (by omega)] at ho2
                        refine ⟨undef, rfl, hgr.size, ⟨hT.grown hgr (by simp), (fun h => by rw [fset_eq] at h; cases h), (fun h => own_ne (hA1_ (by rwa [fset_ne rfl] at h)) hgr hgn)⟩, ⟨fset_eq, ho2⟩, fun j _ hj hn hA => ?_⟩
                        exact phiS_cons_st (C := fun j => j ≠ 29 ∧ 29 ∉ clsAt [[], [], [], [], [3], [], [], [6], [], [], [8, 9], [8, 9, 10], [], [8, 9, 10, 11, 12], [], [], [15], [14, 15, 16], [14, 15, 16, 17], [], [14, 15, 16, 17, 18, 19], [], [], [22], [21, 22, 23], [21, 22, 23, 24], [], [21, 22, 23, 24, 25, 26], [0, 1, 8, 9, 10, 11, 12, 13, 14, 15, 16, 17, 18, 21, 22, 23, 24, 25], [0, 1, 8, 9, 10, 11, 12, 13, 14, 15, 16, 17, 18, 21, 22, 23, 24, 25, 28], [0, 1, 2, 3, 4, 8, 9, 10, 11, 12, 13, 14, 15, 16, 17, 18, 19, 20, 21, 22, 23, 24, 25, 28, 29], [0, 1, 2, 3, 4, 8, 9, 10, 11, 12, 13, 14, 15, 16, 17, 18, 19, 20, 21, 22, 23, 24, 25, 28, 29, 30], [0, 1, 2, 3, 4, 5, 6, 7, 8, 9, 10, 11, 12, 13, 14, 15, 16, 17, 18, 19, 20, 21, 22, 23, 24, 25, 26, 27, 28, 29, 30, 31], [0, 1, 2, 3, 4, 5, 6, 7, 8, 9, 10, 11, 12, 13, 14, 15, 16, 17, 18, 19, 20, 21, 22, 23, 24, 25, 26, 27, 28, 29, 30, 31, 32]] j) (fun hc => absurd rfl hc.1) (phiS_cons_st (C := fun j => j ≠ 29 ∧ 29 ∉ clsAt [[], [], [], [], [3], [], [], [6], [], [], [8, 9], [8, 9, 10], [], [8, 9, 10, 11, 12], [], [], [15], [14, 15, 16], [14, 15, 16, 17], [], [14, 15, 16, 17, 18, 19], [], [], [22], [21, 22, 23], [21, 22, 23, 24], [], [21, 22, 23, 24, 25, 26], [0, 1, 8, 9, 10, 11, 12, 13, 14, 15, 16, 17, 18, 21, 22, 23, 24, 25], [0, 1, 8, 9, 10, 11, 12, 13, 14, 15, 16, 17, 18, 21, 22, 23, 24, 25, 28], [0, 1, 2, 3, 4, 8, 9, 10, 11, 12, 13, 14, 15, 16, 17, 18, 19, 20, 21, 22, 23, 24, 25, 28, 29], [0, 1, 2, 3, 4, 8, 9, 10, 11, 12, 13, 14, 15, 16, 17, 18, 19, 20, 21, 22, 23, 24, 25, 28, 29, 30], [0, 1, 2, 3, 4, 5, 6, 7, 8, 9, 10, 11, 12, 13, 14, 15, 16, 17, 18, 19, 20, 21, 22, 23, 24, 25, 26, 27, 28, 29, 30, 31], [0, 1, 2, 3, 4, 5, 6, 7, 8, 9, 10, 11, 12, 13, 14, 15, 16, 17, 18, 19, 20, 21, 22, 23, 24, 25, 26, 27, 28, 29, 30, 31, 32]] j) (fun hc => absurd (memB_mem.1 rfl) hc.2) (phiS_cons_st (C := fun j => j ≠ 29 ∧ 29 ∉ clsAt [[], [], [], [], [3], [], [], [6], [], [], [8, 9], [8, 9, 10], [], [8, 9, 10, 11, 12], [], [], [15], [14, 15, 16], [14, 15, 16, 17], [], [14, 15, 16, 17, 18, 19], [], [], [22], [21, 22, 23], [21, 22, 23, 24], [], [21, 22, 23, 24, 25, 26], [0, 1, 8, 9, 10, 11, 12, 13, 14, 15, 16, 17, 18, 21, 22, 23, 24, 25], [0, 1, 8, 9, 10, 11, 12, 13, 14, 15, 16, 17, 18, 21, 22, 23, 24, 25, 28], [0, 1, 2, 3, 4, 8, 9, 10, 11, 12, 13, 14, 15, 16, 17, 18, 19, 20, 21, 22, 23, 24, 25, 28, 29], [0, 1, 2, 3, 4, 8, 9, 10, 11, 12, 13, 14, 15, 16, 17, 18, 19, 20, 21, 22, 23, 24, 25, 28, 29, 30], [0, 1, 2, 3, 4, 5, 6, 7, 8, 9, 10, 11, 12, 13, 14, 15, 16, 17, 18, 19, 20, 21, 22, 23, 24, 25, 26, 27, 28, 29, 30, 31], [0, 1, 2, 3, 4, 5, 6, 7, 8, 9, 10, 11, 12, 13, 14, 15, 16, 17, 18, 19, 20, 21, 22, 23, 24, 25, 26, 27, 28, 29, 30, 31, 32]] j) (fun hc => absurd (memB_mem.1 rfl) hc.2) (fun _ _ h => h))) j ⟨hj, hn⟩
                      ·
                        intro val fl w1 a hb hfi ha hd hfl
                        obtain ⟨hT, hA0_, hA1_⟩ := hb
                        have e30 : val 30 = .pointer (some ⟨gov, 0 + f_, none⟩) := hd 30 (memB_mem.1 rfl)
                        have e20 : val 20 = .int .i64 (vf + k2) := hd 20 (memB_mem.1 rfl)
                        have ha := ha.sub (Sub.ins (d := 298) (Sub.ins (d := 307) (Sub.nil _) (dep_get rfl e30)) (dep_get rfl e20))
                        refine ts_storeRow (l' := [.int .i64 (vf + k2)]) ha rfl rfl rfl (hA1_ hfi) sz_3 rfl rfl (by rw [ints_len, Nat.zero_add]; omega) rfl ?_
                        intro w' ho2 hgr
                        rw [Nat.zero_add, spl_ints (by omega)] at ho2
                        refine ⟨undef, rfl, hgr.size, ⟨hT.grown hgr (by simp), (fun h => own_ne (hA0_ (by rwa [fset_ne rfl] at h)) hgr hgn.symm), (fun h => by rw [fset_eq] at h; cases h)⟩, ⟨fset_eq, fun _ => ho2⟩, fun j _ hj hn hA => ?_⟩
                        exact phiS_cons_st (C := fun j => j ≠ 31 ∧ 31 ∉ clsAt [[], [], [], [], [3], [], [], [6], [], [], [8, 9], [8, 9, 10], [], [8, 9, 10, 11, 12], [], [], [15], [14, 15, 16], [14, 15, 16, 17], [], [14, 15, 16, 17, 18, 19], [], [], [22], [21, 22, 23], [21, 22, 23, 24], [], [21, 22, 23, 24, 25, 26], [0, 1, 8, 9, 10, 11, 12, 13, 14, 15, 16, 17, 18, 21, 22, 23, 24, 25], [0, 1, 8, 9, 10, 11, 12, 13, 14, 15, 16, 17, 18, 21, 22, 23, 24, 25, 28], [0, 1, 2, 3, 4, 8, 9, 10, 11, 12, 13, 14, 15, 16, 17, 18, 19, 20, 21, 22, 23, 24, 25, 28, 29], [0, 1, 2, 3, 4, 8, 9, 10, 11, 12, 13, 14, 15, 16, 17, 18, 19, 20, 21, 22, 23, 24, 25, 28, 29, 30], [0, 1, 2, 3, 4, 5, 6, 7, 8, 9, 10, 11, 12, 13, 14, 15, 16, 17, 18, 19, 20, 21, 22, 23, 24, 25, 26, 27, 28, 29, 30, 31], [0, 1, 2, 3, 4, 5, 6, 7, 8, 9, 10, 11, 12, 13, 14, 15, 16, 17, 18, 19, 20, 21, 22, 23, 24, 25, 26, 27, 28, 29, 30, 31, 32]] j) (fun _ ⟨h1, h2⟩ => ⟨by rw [fset_ne rfl]; exact h1, own_ne h2 hgr hgn.symm⟩) (phiS_cons_st (C := fun j => j ≠ 31 ∧ 31 ∉ clsAt [[], [], [], [], [3], [], [], [6], [], [], [8, 9], [8, 9, 10], [], [8, 9, 10, 11, 12], [], [], [15], [14, 15, 16], [14, 15, 16, 17], [], [14, 15, 16, 17, 18, 19], [], [], [22], [21, 22, 23], [21, 22, 23, 24], [], [21, 22, 23, 24, 25, 26], [0, 1, 8, 9, 10, 11, 12, 13, 14, 15, 16, 17, 18, 21, 22, 23, 24, 25], [0, 1, 8, 9, 10, 11, 12, 13, 14, 15, 16, 17, 18, 21, 22, 23, 24, 25, 28], [0, 1, 2, 3, 4, 8, 9, 10, 11, 12, 13, 14, 15, 16, 17, 18, 19, 20, 21, 22, 23, 24, 25, 28, 29], [0, 1, 2, 3, 4, 8, 9, 10, 11, 12, 13, 14, 15, 16, 17, 18, 19, 20, 21, 22, 23, 24, 25, 28, 29, 30], [0, 1, 2, 3, 4, 5, 6, 7, 8, 9, 10, 11, 12, 13, 14, 15, 16, 17, 18, 19, 20, 21, 22, 23, 24, 25, 26, 27, 28, 29, 30, 31], [0, 1, 2, 3, 4, 5, 6, 7, 8, 9, 10, 11, 12, 13, 14, 15, 16, 17, 18, 19, 20, 21, 22, 23, 24, 25, 26, 27, 28, 29, 30, 31, 32]] j) (fun hc => absurd rfl hc.1) (phiS_cons_st (C := fun j => j ≠ 31 ∧ 31 ∉ clsAt [[], [], [], [], [3], [], [], [6], [], [], [8, 9], [8, 9, 10], [], [8, 9, 10, 11, 12], [], [], [15], [14, 15, 16], [14, 15, 16, 17], [], [14, 15, 16, 17, 18, 19], [], [], [22], [21, 22, 23], [21, 22, 23, 24], [], [21, 22, 23, 24, 25, 26], [0, 1, 8, 9, 10, 11, 12, 13, 14, 15, 16, 17, 18, 21, 22, 23, 24, 25], [0, 1, 8, 9, 10, 11, 12, 13, 14, 15, 16, 17, 18, 21, 22, 23, 24, 25, 28], [0, 1, 2, 3, 4, 8, 9, 10, 11, 12, 13, 14, 15, 16, 17, 18, 19, 20, 21, 22, 23, 24, 25, 28, 29], [0, 1, 2, 3, 4, 8, 9, 10, 11, 12, 13, 14, 15, 16, 17, 18, 19, 20, 21, 22, 23, 24, 25, 28, 29, 30], [0, 1, 2, 3, 4, 5, 6, 7, 8, 9, 10, 11, 12, 13, 14, 15, 16, 17, 18, 19, 20, 21, 22, 23, 24, 25, 26, 27, 28, 29, 30, 31], [0, 1, 2, 3, 4, 5, 6, 7, 8, 9, 10, 11, 12, 13, 14, 15, 16, 17, 18, 19, 20, 21, 22, 23, 24, 25, 26, 27, 28, 29, 30, 31, 32]] j) (fun hc => absurd (memB_mem.1 rfl) hc.2) (fun _ _ h => h))) j ⟨hj, hn⟩
                      ·
                        intro val fl w1 a hb hfi ha hd hfl
                        obtain ⟨hT, hA0_, hA1_⟩ := hb
                        have e32 : val 32 = .pointer (some ⟨gov, 0 + t_, none⟩) := hd 32 (memB_mem.1 rfl)
                        have e27 : val 27 = .int .i64 (vt - k2) := hd 27 (memB_mem.1 rfl)
                        have ha := ha.sub (Sub.ins (d := 305) (Sub.ins (d := 308) (Sub.nil _) (dep_get rfl e32)) (dep_get rfl e27))
                        obtain ⟨ht31_, hp31_⟩ := hd 31 (memB_mem.1 rfl)
                        refine ts_storeRow (l' := [.int .i64 (vt - k2)]) ha rfl rfl rfl (hp31_ hfi) sz_3 rfl rfl (by rw [ints_len, Nat.zero_add, List.length_set]; omega) rfl ?_
                        intro w' ho2 hgr
                        rw [Nat.zero_add, spl_ints (by rw [List.length_set]; omega)] at ho2
                        refine ⟨undef, rfl, hgr.size, ⟨hT.grown hgr (by simp), (fun h => own_ne (hA0_ (by rwa [fset_ne rfl] at h)) hgr hgn.symm), (fun h => by rw [fset_ne rfl, ht31_] at h; cases h)⟩, ⟨fset_eq, ho2⟩, fun j _ hj hn hA => ?_⟩
                        exact phiS_cons_st (C := fun j => j ≠ 33 ∧ 33 ∉ clsAt [[], [], [], [], [3], [], [], [6], [], [], [8, 9], [8, 9, 10], [], [8, 9, 10, 11, 12], [], [], [15], [14, 15, 16], [14, 15, 16, 17], [], [14, 15, 16, 17, 18, 19], [], [], [22], [21, 22, 23], [21, 22, 23, 24], [], [21, 22, 23, 24, 25, 26], [0, 1, 8, 9, 10, 11, 12, 13, 14, 15, 16, 17, 18, 21, 22, 23, 24, 25], [0, 1, 8, 9, 10, 11, 12, 13, 14, 15, 16, 17, 18, 21, 22, 23, 24, 25, 28], [0, 1, 2, 3, 4, 8, 9, 10, 11, 12, 13, 14, 15, 16, 17, 18, 19, 20, 21, 22, 23, 24, 25, 28, 29], [0, 1, 2, 3, 4, 8, 9, 10, 11, 12, 13, 14, 15, 16, 17, 18, 19, 20, 21, 22, 23, 24, 25, 28, 29, 30], [0, 1, 2, 3, 4, 5, 6, 7, 8, 9, 10, 11, 12, 13, 14, 15, 16, 17, 18, 19, 20, 21, 22, 23, 24, 25, 26, 27, 28, 29, 30, 31], [0, 1, 2, 3, 4, 5, 6, 7, 8, 9, 10, 11, 12, 13, 14, 15, 16, 17, 18, 19, 20, 21, 22, 23, 24, 25, 26, 27, 28, 29, 30, 31, 32]] j) (fun _ ⟨h1, h2⟩ => ⟨by rw [fset_ne rfl]; exact h1, own_ne h2 hgr hgn.symm⟩) (phiS_cons_st (C := fun j => j ≠ 33 ∧ 33 ∉ clsAt [[], [], [], [], [3], [], [], [6], [], [], [8, 9], [8, 9, 10], [], [8, 9, 10, 11, 12], [], [], [15], [14, 15, 16], [14, 15, 16, 17], [], [14, 15, 16, 17, 18, 19], [], [], [22], [21, 22, 23], [21, 22, 23, 24], [], [21, 22, 23, 24, 25, 26], [0, 1, 8, 9, 10, 11, 12, 13, 14, 15, 16, 17, 18, 21, 22, 23, 24, 25], [0, 1, 8, 9, 10, 11, 12, 13, 14, 15, 16, 17, 18, 21, 22, 23, 24, 25, 28], [0, 1, 2, 3, 4, 8, 9, 10, 11, 12, 13, 14, 15, 16, 17, 18, 19, 20, 21, 22, 23, 24, 25, 28, 29], [0, 1, 2, 3, 4, 8, 9, 10, 11, 12, 13, 14, 15, 16, 17, 18, 19, 20, 21, 22, 23, 24, 25, 28, 29, 30], [0, 1, 2, 3, 4, 5, 6, 7, 8, 9, 10, 11, 12, 13, 14, 15, 16, 17, 18, 19, 20, 21, 22, 23, 24, 25, 26, 27, 28, 29, 30, 31], [0, 1, 2, 3, 4, 5, 6, 7, 8, 9, 10, 11, 12, 13, 14, 15, 16, 17, 18, 19, 20, 21, 22, 23, 24, 25, 26, 27, 28, 29, 30, 31, 32]] j) (fun _ ⟨h1, _⟩ => ⟨by rw [fset_ne rfl]; exact h1, fun h => by rw [fset_eq] at h; cases h⟩) (phiS_cons_st (C := fun j => j ≠ 33 ∧ 33 ∉ clsAt [[], [], [], [], [3], [], [], [6], [], [], [8, 9], [8, 9, 10], [], [8, 9, 10, 11, 12], [], [], [15], [14, 15, 16], [14, 15, 16, 17], [], [14, 15, 16, 17, 18, 19], [], [], [22], [21, 22, 23], [21, 22, 23, 24], [], [21, 22, 23, 24, 25, 26], [0, 1, 8, 9, 10, 11, 12, 13, 14, 15, 16, 17, 18, 21, 22, 23, 24, 25], [0, 1, 8, 9, 10, 11, 12, 13, 14, 15, 16, 17, 18, 21, 22, 23, 24, 25, 28], [0, 1, 2, 3, 4, 8, 9, 10, 11, 12, 13, 14, 15, 16, 17, 18, 19, 20, 21, 22, 23, 24, 25, 28, 29], [0, 1, 2, 3, 4, 8, 9, 10, 11, 12, 13, 14, 15, 16, 17, 18, 19, 20, 21, 22, 23, 24, 25, 28, 29, 30], [0, 1, 2, 3, 4, 5, 6, 7, 8, 9, 10, 11, 12, 13, 14, 15, 16, 17, 18, 19, 20, 21, 22, 23, 24, 25, 26, 27, 28, 29, 30, 31], [0, 1, 2, 3, 4, 5, 6, 7, 8, 9, 10, 11, 12, 13, 14, 15, 16, 17, 18, 19, 20, 21, 22, 23, 24, 25, 26, 27, 28, 29, 30, 31, 32]] j) (fun hc => absurd rfl hc.1) (fun _ _ h => h))) j ⟨hj, hn⟩
                    · intro val fl wR36 hfl hb halc hd
                      obtain ⟨hT, _⟩ := hb
                      have hz_mo := (hd 29 (by omega)).2
                      change wR36.ownsRow w7.heap.size 3 1 (.slice (some ⟨gmo, 0, none⟩) ml.length cl22) ml.length (ints (mo.set x (m - k2))) at hz_mo
                      have hz_ov := (hd 33 (by omega)).2
                      change wR36.ownsRow w7.heap.size 3 1 (.slice (some ⟨gov, 0, none⟩) nt.ports.length cov) nt.ports.length (ints ((ov.set f_ (vf + k2)).set t_ (vt - k2))) at hz_ov
                      have e0 : val 0 = .slice (some ⟨gmo, 0, none⟩) ml.length cl22 := hd 0 (by omega)
                      have e1 : val 1 = .int .i64 (x : Nat) := hd 1 (by omega)
                      have e2 : val 2 = .slice (some ⟨gov, 0, none⟩) nt.ports.length cov := hd 2 (by omega)
                      have e3 : val 3 = .pointer (some ⟨g24, 0, none⟩) := hd 3 (by omega)
                      have e4 : val 4 = .int .i64 (f_ : Nat) := hd 4 (by omega)
                      have e5 : val 5 = .slice (some ⟨gov, 0, none⟩) nt.ports.length cov := hd 5 (by omega)
                      have e6 : val 6 = .pointer (some ⟨g24, 1, none⟩) := hd 6 (by omega)
                      have e7 : val 7 = .int .i64 (t_ : Nat) := hd 7 (by omega)
                      have e8 : val 8 = .slice (some ⟨gmo, 0, none⟩) ml.length cl22 := hd 8 (by omega)
                      have e9 : val 9 = .int .i64 (x : Nat) := hd 9 (by omega)
                      have e10 : val 10 = .pointer (some ⟨gmo, 0 + x, none⟩) := hd 10 (by omega)
                      have e11 : val 11 = .int .i64 m := hd 11 (by omega)
                      have e12 : val 12 = .int .i64 k2 := hd 12 (by omega)
                      have e13 : val 13 = .int .i64 (m - k2) := hd 13 (by omega)
                      have e14 : val 14 = .slice (some ⟨gov, 0, none⟩) nt.ports.length cov := hd 14 (by omega)
                      have e15 : val 15 = .pointer (some ⟨g24, 0, none⟩) := hd 15 (by omega)
                      have e16 : val 16 = .int .i64 (f_ : Nat) := hd 16 (by omega)
                      have e17 : val 17 = .pointer (some ⟨gov, 0 + f_, none⟩) := hd 17 (by omega)
                      have e18 : val 18 = .int .i64 vf := hd 18 (by omega)
                      have e19 : val 19 = .int .i64 k2 := hd 19 (by omega)
                      have e20 : val 20 = .int .i64 (vf + k2) := hd 20 (by omega)
                      have e21 : val 21 = .slice (some ⟨gov, 0, none⟩) nt.ports.length cov := hd 21 (by omega)
                      have e22 : val 22 = .pointer (some ⟨g24, 1, none⟩) := hd 22 (by omega)
                      have e23 : val 23 = .int .i64 (t_ : Nat) := hd 23 (by omega)
                      have e24 : val 24 = .pointer (some ⟨gov, 0 + t_, none⟩) := hd 24 (by omega)
                      have e25 : val 25 = .int .i64 vt := hd 25 (by omega)
                      have e26 : val 26 = .int .i64 k2 := hd 26 (by omega)
                      have e27 : val 27 = .int .i64 (vt - k2) := hd 27 (by omega)
                      have e28 : val 28 = .pointer (some ⟨gmo, 0 + x, none⟩) := hd 28 (by omega)
                      have e30 : val 30 = .pointer (some ⟨gov, 0 + f_, none⟩) := hd 30 (by omega)
                      have e32 : val 32 = .pointer (some ⟨gov, 0 + t_, none⟩) := hd 32 (by omega)
                      refine EL.ends (cs := [.slice (some ⟨gmo, 0, none⟩) ml.length cl22, .int .i64 (x : Nat), .slice (some ⟨gov, 0, none⟩) nt.ports.length cov, .pointer (some ⟨g24, 0, none⟩), .int .i64 (f_ : Nat), .slice (some ⟨gov, 0, none⟩) nt.ports.length cov, .pointer (some ⟨g24, 1, none⟩), .int .i64 (t_ : Nat), .slice (some ⟨gmo, 0, none⟩) ml.length cl22, .int .i64 (x : Nat), .pointer (some ⟨gmo, 0 + x, none⟩), .int .i64 m, .int .i64 k2, .int .i64 (m - k2), .slice (some ⟨gov, 0, none⟩) nt.ports.length cov, .pointer (some ⟨g24, 0, none⟩), .int .i64 (f_ : Nat), .pointer (some ⟨gov, 0 + f_, none⟩), .int .i64 vf, .int .i64 k2, .int .i64 (vf + k2), .slice (some ⟨gov, 0, none⟩) nt.ports.length cov, .pointer (some ⟨g24, 1, none⟩), .int .i64 (t_ : Nat), .pointer (some ⟨gov, 0 + t_, none⟩), .int .i64 vt, .int .i64 k2, .int .i64 (vt - k2), .pointer (some ⟨gmo, 0 + x, none⟩), val 29, .pointer (some ⟨gov, 0 + f_, none⟩), val 31, .pointer (some ⟨gov, 0 + t_, none⟩), val 33]) ⟨e0, e1, e2, e3, e4, e5, e6, e7, e8, e9, e10, e11, e12, e13, e14, e15, e16, e17, e18, e19, e20, e21, e22, e23, e24, e25, e26, e27, e28, rfl, e30, rfl, e32, rfl, trivial⟩ rfl ?_
                      replace q2x := q2x.touch hT (by simp only [List.mem_cons, List.not_mem_nil, or_false, not_or]; exact ⟨nr1_mo, nr1_ov⟩)
                      replace q24 := q24.touch hT (by simp only [List.mem_cons, List.not_mem_nil, or_false, not_or]; exact ⟨nr24_mo, nr24_ov⟩)
                      replace hbw := Touch.anchor hT hbw (fun g hg => by simp only [List.mem_cons, List.not_mem_nil, or_false] at hg; rcases hg with rfl | rfl <;> omega)
                      replace hbM := Touch.anchor hT hbM (fun g hg => by simp only [List.mem_cons, List.not_mem_nil, or_false] at hg; rcases hg with rfl | rfl <;> omega)
                      clear hT hmo hov
                      have hmo := hz_mo
                      clear hz_mo
                      have hov := hz_ov
                      clear hz_ov
                      refine EL.nil ?_
                      refine EX.blk ?_
                      refine EX.seq ?_
                      refine EC.region ?_
                      refine EL.val (x_move rfl) rfl ?_
                      refine EL.val (x_add rfl rfl (c := ((x + 1 : Nat) : Int)) ((IntWalk.i64_in _ ⟨by first | omega | (simp only; omega), by first | omega | (simp only; omega)⟩).trans (by first | omega | (simp only; omega)))) rfl ?_
                      refine EL.val (x_assign rfl) rfl ?_
                      refine EL.nil ?_
                      refine EX.roundD (x + 1, mo.set x (m - k2), ((ov.set f_ (vf + k2)).set t_ (vt - k2))) ⟨rfl, trivial⟩ (by repeat first | with_reducible exact Sub.refl _ | refine sub_past rfl ?_ | exact Sub.refl _ | refine sub_del rfl ?_ | refine sub_insL_nil ?_) ⟨hlt, hsb k2 (by omega) (by omega) (by omega) (by omega), hmo, q2x, hov, hbM, hbw⟩ (by simp only; omega)
                  ·
                    refine EL.val (x_gtr (r := false) rfl rfl (decide_eq_false (by omega))) rfl ?_
                    refine EL.nil ?_
                    refine EX.seq ?_
                    refine EC.no rfl ?_
                    refine EC.skip ?_
                    refine EX.blk ?_
                    refine EX.seq ?_
                    refine EC.region ?_
                    refine EL.val (x_move rfl) rfl ?_
                    refine EL.val (x_add rfl rfl (c := ((x + 1 : Nat) : Int)) ((IntWalk.i64_in _ ⟨by first | omega | (simp only; omega), by first | omega | (simp only; omega)⟩).trans (by first | omega | (simp only; omega)))) rfl ?_
                    refine EL.val (x_assign rfl) rfl ?_
                    refine EL.nil ?_
                    refine EX.roundD (x + 1, mo, ov) ⟨rfl, trivial⟩ (by repeat first | with_reducible exact Sub.refl _ | refine sub_past rfl ?_ | exact Sub.refl _ | refine sub_del rfl ?_ | refine sub_insL_nil ?_) ⟨hlt, hMo, hmo, q2x, hov, hbM, hbw⟩ (by simp only; omega)
              ·
                have hxe : x = nt.ways.length := by omega
                obtain ⟨hmE, hmV⟩ := more_cost hv hm hMo
                have hmle : ml.length = mo.length := by omega
                rw [hmle] at hmo
                refine EC.seq ?_
                refine EC.seq ?_
                refine EC.region ?_
                refine EL.val (x_move rfl) rfl ?_
                refine EL.val (x_move rfl) rfl ?_
                refine EL.val (ln_29 rfl) rfl ?_
                refine EL.val (x_lss rfl rfl (decide_eq_false (show ¬(((x : Nat) : Int) < ((ml.length : Nat) : Int)) by omega))) rfl ?_
                refine EL.nil ?_
                refine EX.seq ?_
                refine EC.no rfl ?_
                refine EC.exit ?_
                refine EX.seq_exit ?_
                refine EX.seq_exit ?_
                refine EX.blk_here ?_
                refine EX.seq ?_
                refine EC.seq ?_
                refine EC.region ?_
                refine EL.val (ld_25 rfl (q2x.at (j := 0) rfl) (q2x.at (j := 1) rfl)) rfl ?_
                refine EL.call (cl_14 rfl) rfl (copied_any nt _ _ _ B (hr.below (hbw.mono hB)) (Nat.le_trans hB hbw.size) (by omega) (by omega)) ?_
                rintro e w28 ⟨⟨vp28, vw28, rfl, ho37⟩, hc28⟩
                refine ⟨_, rfl, ?_⟩
                replace q2x := q2x.below hc28 q2x.lt
                replace hmo := own_below hmo hc28 (Nat.le_refl _)
                replace hov := own_below hov hc28 (Nat.le_refl _)
                replace hbw := Below.on hbw hc28 hbw.size
                replace hbM := Below.on hbM hc28 hbM.size
                clear hc28
                obtain ⟨Bp28, dp28, rfl, _⟩ := (Rd.of_own ho37.ports).shape
                obtain ⟨Bw28, dw28, rfl, _⟩ := (Rd.of_own ho37.ways).shape
                refine EL.val (x_move rfl) rfl ?_
                refine EL.call (cl_31 rfl rfl) rfl (cost_to rfl hmE _ _ _ _ ho37.rd (Nat.le_refl _) (by omega) (by omega) _ (by rw [hmle]; exact Rd.of_own hmo) (by omega)) ?_
                rintro e w29 ⟨rfl, hc29⟩
                refine ⟨_, rfl, ?_⟩
                replace q2x := q2x.below hc29 q2x.lt
                replace hmo := own_below hmo hc29 (Nat.le_refl _)
                replace hov := own_below hov hc29 (Nat.le_refl _)
                replace ho37 := ho37.below hc29
                replace hbw := Below.on hbw hc29 hbw.size
                replace hbM := Below.on hbM hc29 hbM.size
                clear hc29
                refine EL.val (x_move rfl) rfl ?_
                refine EL.val (x_extract rfl rfl) rfl ?_
                refine EL.val (x_extract rfl rfl) rfl ?_
                refine EL.val (x_assign rfl) rfl ?_
                refine EL.val (x_assign rfl) rfl ?_
                refine EL.nil ?_
                refine EX.seq ?_
                refine EC.seq ?_
                refine EC.region ?_
                refine EL.val (x_move rfl) rfl ?_
                refine EL.val (x_eql (r := true) rfl rfl (decide_eq_true rfl)) rfl ?_
                refine EL.val (x_move rfl) rfl ?_
                refine EL.valg rfl rfl (x_move rfl) rfl ?_
                refine EL.valg rfl rfl (x_move rfl) rfl ?_
                refine EL.valg rfl rfl (x_geq (r := true) rfl rfl (decide_eq_true (by omega))) rfl ?_
                refine EL.val (x_pick_t rfl rfl) rfl ?_
                refine EL.val (x_move rfl) rfl ?_
                refine EL.callg rfl rfl cl_13 rfl (known_any _) ?_
                rintro e w30 ⟨rfl, hc30⟩
                refine ⟨_, rfl, ?_⟩
                replace q2x := q2x.below hc30 q2x.lt
                replace hmo := own_below hmo hc30 (Nat.le_refl _)
                replace hov := own_below hov hc30 (Nat.le_refl _)
                replace ho37 := ho37.below hc30
                replace hbw := Below.on hbw hc30 hbw.size
                replace hbM := Below.on hbM hc30 hbM.size
                clear hc30
                refine EL.val (x_pick_t rfl rfl) rfl ?_
                refine EL.val (x_assign rfl) rfl ?_
                refine EL.nil ?_
                refine EX.seq ?_
                refine EC.ret ?_
                exact EX.done (res1 rfl rfl) ⟨rfl, hbw⟩
        ·
          obtain ⟨rfl, rfl, rfl, rfl⟩ : err = 7 ∧ c = 0 ∧ ml = [] ∧ pr = [] := by rcases move_err hv hm with ⟨h, _⟩ | ⟨h1, h2, h3, h4, _⟩; exact absurd h he0; exact ⟨h1, h2, h3, h4⟩
          refine EL.val (x_neq (r := true) rfl rfl (by decide)) rfl ?_
          refine EL.nil ?_
          refine EX.seq ?_
          refine EC.yes rfl ?_
          refine EC.seq ?_
          refine EC.region ?_
          refine EL.val (x_move rfl) rfl ?_
          refine EL.val (x_eql (r := true) rfl rfl (decide_eq_true rfl)) rfl ?_
          refine EL.val (x_move rfl) rfl ?_
          refine EL.valg rfl rfl (x_move rfl) rfl ?_
          refine EL.valg rfl rfl (ln_29 rfl) rfl ?_
          refine EL.valg rfl rfl (x_move rfl) rfl ?_
          refine EL.valg rfl rfl (ln_29 rfl) rfl ?_
          refine EL.valg rfl rfl (x_add rfl rfl (c := 0) rfl) rfl ?_
          refine EL.valg rfl rfl (x_eql (r := true) rfl rfl (decide_eq_true rfl)) rfl ?_
          refine EL.val (x_pick_t rfl rfl) rfl ?_
          refine EL.val (x_move rfl) rfl ?_
          refine EL.valg rfl rfl (x_move rfl) rfl ?_
          refine EL.valg rfl rfl (x_eql (r := true) rfl rfl (decide_eq_true rfl)) rfl ?_
          refine EL.val (x_pick_t rfl rfl) rfl ?_
          refine EL.val (x_move rfl) rfl ?_
          refine EL.callg rfl rfl cl_13 rfl (known_any _) ?_
          rintro e w31 ⟨rfl, hc31⟩
          refine ⟨_, rfl, ?_⟩
          replace q1 := q1.below hc31 q1.lt
          replace hbw := Below.on hbw hc31 hbw.size
          replace hbM := Below.on hbM hc31 hbM.size
          clear hc31
          refine EL.val (x_pick_t rfl rfl) rfl ?_
          refine EL.val (x_assign rfl) rfl ?_
          refine EL.nil ?_
          refine EX.seq ?_
          refine EC.ret ?_
          refine EX.seq_ret ?_
          exact EX.done (res1 rfl rfl) ⟨rfl, hbw⟩
      ·
        refine EL.callg rfl rfl (cl_27 rfl) rfl (check_to (e0 := 2) (by rw [netE, if_neg hv]) _ _ _ _ ho1.rd (Nat.le_refl _) (by omega) (by omega)) ?_
        rintro e w32 ⟨rfl, hc32⟩
        refine ⟨_, rfl, ?_⟩
        replace q1 := q1.below hc32 q1.lt
        replace hbw := Below.on hbw hc32 hbw.size
        clear hc32
        refine EL.valg rfl rfl (x_neq (r := true) rfl rfl (by decide)) rfl ?_
        refine EL.val (x_pick_f rfl rfl) rfl ?_
        refine EL.nil ?_
        refine EX.seq ?_
        refine EC.yes rfl ?_
        refine EC.seq ?_
        refine EC.region ?_
        refine EL.call cl_13 rfl (known_any _) ?_
        rintro e w33 ⟨rfl, hc33⟩
        refine ⟨_, rfl, ?_⟩
        replace q1 := q1.below hc33 q1.lt
        replace hbw := Below.on hbw hc33 hbw.size
        clear hc33
        refine EL.val (x_assign rfl) rfl ?_
        refine EL.nil ?_
        refine EX.seq ?_
        refine EC.ret ?_
        refine EX.seq_ret ?_
        exact EX.done (res1 rfl rfl) ⟨rfl, hbw⟩
end Go.Proofs.Ytabgmnmpdjnjoaa
