/- River: the reference's Bed (printed by gen_w14.py). -/
import Derived.Test.YtncnlhkmdljgpaaW12
import Derived.Test.YtncnlhkmdljgpaaV13
set_option linter.unusedVariables false
namespace Go.Proofs.Ytncnlhkmdljgpaa
open Go Go.RowKit

theorem rfloor_bel (n k : Int) (w : World) (hk : 1 ≤ k) (hk2 : k ≤ 9223372036854775807) (h1 : -9223372036854775807 ≤ n) (h2 : n ≤ 9223372036854775807) : Calls Try.prog 63 #[.int .i64 n, .int .i64 k] w fun e w' => e = .returned (.int .i64 (floorD n k)) ∧ Below w.heap.size w w' :=
  (rfloor_any n k w hk hk2 h1 h2).mono fun e w' h => ⟨h.1, h.2 ▸ Below.refl _ _⟩
theorem rceil_bel (n k : Int) (w : World) (hk : 1 ≤ k) (hk2 : k ≤ 9223372036854775807) (h1 : -9223372036854775807 ≤ n) (h2 : n ≤ 9223372036854775807) : Calls Try.prog 64 #[.int .i64 n, .int .i64 k] w fun e w' => e = .returned (.int .i64 (ceilD n k)) ∧ Below w.heap.size w w' :=
  (rceil_any n k w hk hk2 h1 h2).mono fun e w' h => ⟨h.1, h.2 ▸ Below.refl _ _⟩

theorem topOf_snoc (t : Int) (b : Bd) (l : List Shoal) (s : Shoal) : topOf t b (l ++ [s]) = (topOf t b l).top (bedOf s t) := by simp [topOf, List.foldl_append]
theorem topOf_take (t : Int) (b : Bd) (l : List Shoal) (p : Int) {k : Nat} (hk : k < l.length) : topOf t b (shoalsAt (l.take (k + 1)) p) = if (l.getD k shoal0).place = p then (topOf t b (shoalsAt (l.take k) p)).top (bedOf (l.getD k shoal0) t) else topOf t b (shoalsAt (l.take k) p) := by
  rw [shoalsAt_take l p hk]
  split
  · rw [topOf_snoc]
  · rfl

set_option maxRecDepth 100000 in
theorem rbed_any (rv : River) (v u : Value) (vs : List Value) (p tt : Int) (w : World) (B : Nat) (hr : RdRiver w B v u rv vs) (hB : B ≤ w.heap.size) (hR : RiverOk rv) (hp1 : 0 ≤ p) (hp2 : p < placesOf rv.reaches) (ht1 : -400 ≤ tt) (ht2 : tt ≤ 400) :
    Calls Try.prog 37 #[.agg #[v, u], .int .i64 p, .int .i64 tt] w fun e w' => e = .returned (.agg #[.int .i64 (bedAt rv p tt).lo, .int .i64 (bedAt rv p tt).hi]) ∧ Below w.heap.size w w' := by
  obtain ⟨A, c, rfl, _⟩ := hr.reaches.shape
  obtain ⟨A', c', rfl, _⟩ := hr.shoals.shape
  have hfew := hR.few
  have hlt : reachOf rv.reaches p < rv.reaches.length := reachOf_lt _ _ hp1 hp2
  obtain ⟨b, o, rfl, _, cc⟩ := reaches_cells hr.reaches _ hlt
  obtain ⟨y, ey⟩ : ∃ y, y = rv.reaches.getD (reachOf rv.reaches p) reach0 := ⟨_, rfl⟩
  rw [← ey] at cc
  have hbw := Below.refl w.heap.size w
  refine EC.enter 69 Try.func37 rfl rfl rfl ?_
  refine EC.seq ?_
  refine EC.region ?_
  refine EL.newP (bx_47 rfl) rfl ?_
  intro g1 w1 q1 hb1 hg1 hl1
  have bhbw_1 := Nat.le_trans hbw.size hg1
  replace hbw := Below.on hbw hb1 hbw.size
  clear hb1 hg1 hl1
  refine EL.newP al_23 rfl ?_
  intro g2 w2 q2 hb2 hg2 hl2
  have n1_2 : g1 ≠ g2 := Nat.ne_of_lt (Nat.lt_of_lt_of_le q1.lt hg2)
  have bhbw_2 := Nat.le_trans hbw.size hg2
  replace q1 := q1.below hb2 q1.lt
  replace hbw := Below.on hbw hb2 hbw.size
  clear hb2 hg2 hl2
  refine EL.nil ?_
  refine EX.seq ?_
  refine EC.seq ?_
  have lt_1 := q1.lt
  have lt_2 := q2.lt
  refine EC.regionP [[], [0], [], [], [2, 3], [0, 1, 2, 3, 4], [0, 1, 2, 3, 4, 5], [0, 1, 2, 3, 4, 5, 6], [], [0, 1, 2, 3, 4, 5, 6, 7, 8]] 9 [8] (phi (fun i_ r => match i_ with | 0 => r 0 = .pointer (some ⟨g1, 0, none⟩) | 1 => r 1 = .slice (some ⟨b, o, none⟩) rv.reaches.length c | 2 => r 2 = .agg #[.slice (some ⟨b, o, none⟩) rv.reaches.length c, .slice A' rv.shoals.length c'] | 3 => r 3 = .int .i64 p | 4 => r 4 = .int .i64 (reachOf rv.reaches p : Nat) | 5 => r 5 = .pointer (some ⟨b, o + reachOf rv.reaches p * 9, none⟩) | 6 => r 6 = .pointer (some ⟨b, o + reachOf rv.reaches p * 9 + 6, none⟩) | 7 => r 7 = .agg #[.int .i64 y.bottom.lo, .int .i64 y.bottom.hi] | _ => True) [(8, fun r w_ => ∃ g_, r 8 = .pointer (some ⟨g_, 0, none⟩) ∧ Blk w_ g_ 23 #[.int .i64 0, .int .i64 0])]) (by kernel_rfl) rfl rfl (phi_cons mono_alloc (phi_nil)) (fun i_ hi_ => ?_) ?_
  · match i_, hi_ with
    | 0, _ =>
      intro val w1 a hb ha hd
      have ha := ha.sub (Sub.ins (d := 3) (Sub.nil _) rfl)
      exact hs_val ha rfl rfl (fa_47_0 rfl) rfl rfl
    | 1, _ =>
      intro val w1 a hb ha hd
      have e0 : val 0 = .pointer (some ⟨g1, 0, none⟩) := hd 0 (memB_mem.1 rfl)
      have ha := ha.sub (Sub.ins (d := 11) (Sub.nil _) (dep_get rfl e0))
      exact hs_val ha rfl rfl (ld_44 rfl ((q1.below hb q1.lt).at (j := 0) rfl)) rfl rfl
    | 2, _ =>
      intro val w1 a hb ha hd
      have ha := ha.sub (Sub.ins (d := 3) (Sub.nil _) rfl)
      exact hs_val ha rfl rfl (ld_47 rfl ((q1.below hb q1.lt).at (j := 0) rfl) ((q1.below hb q1.lt).at (j := 1) rfl)) rfl rfl
    | 3, _ =>
      intro val w1 a hb ha hd
      have ha := ha.sub (Sub.ins (d := 1) (Sub.nil _) rfl)
      exact hs_val ha rfl rfl (x_move rfl) rfl rfl
    | 4, _ =>
      intro val w1 a hb ha hd
      have e2 : val 2 = .agg #[.slice (some ⟨b, o, none⟩) rv.reaches.length c, .slice A' rv.shoals.length c'] := hd 2 (memB_mem.1 rfl)
      have e3 : val 3 = .int .i64 p := hd 3 (memB_mem.1 rfl)
      have ha := ha.sub (Sub.ins (d := 14) (Sub.ins (d := 13) (Sub.nil _) (dep_get rfl e2)) (dep_get rfl e3))
      refine hs_call ha rfl rfl (cl_76 rfl rfl) (rof_any rv _ _ vs p _ B (hr.below ((Below.on hbw hb hbw.size).mono hB)) (Nat.le_trans hB (Below.on hbw hb hbw.size).size) hR ⟨hp1, hp2⟩) rfl ?_
      rintro e w' ⟨rfl, hb'⟩
      exact ⟨_, rfl, hb', rfl⟩
    | 5, _ =>
      intro val w1 a hb ha hd
      have e1 : val 1 = .slice (some ⟨b, o, none⟩) rv.reaches.length c := hd 1 (memB_mem.1 rfl)
      have e4 : val 4 = .int .i64 (reachOf rv.reaches p : Nat) := hd 4 (memB_mem.1 rfl)
      have ha := ha.sub (Sub.ins (d := 15) (Sub.ins (d := 12) (Sub.nil _) (dep_get rfl e1)) (dep_get rfl e4))
      exact hs_val ha rfl rfl (ix_44 (k := reachOf rv.reaches p) rfl rfl hlt) rfl rfl
    | 6, _ =>
      intro val w1 a hb ha hd
      have e5 : val 5 = .pointer (some ⟨b, o + reachOf rv.reaches p * 9, none⟩) := hd 5 (memB_mem.1 rfl)
      have ha := ha.sub (Sub.ins (d := 16) (Sub.nil _) (dep_get rfl e5))
      exact hs_val ha rfl rfl (fa_50_5 rfl) rfl rfl
    | 7, _ =>
      intro val w1 a hb ha hd
      have e6 : val 6 = .pointer (some ⟨b, o + reachOf rv.reaches p * 9 + 6, none⟩) := hd 6 (memB_mem.1 rfl)
      have ha := ha.sub (Sub.ins (d := 17) (Sub.nil _) (dep_get rfl e6))
      exact hs_val ha rfl rfl (ld_23 rfl (below_load (Below.on hbw hb hbw.size) cc.c6) (below_load (Below.on hbw hb hbw.size) cc.c7)) rfl rfl
    | 8, _ =>
      intro val w1 a hb ha hd
      have ha := ha.sub (Sub.nil _)
      exact hs_newP ha rfl rfl al_23 (fun g w' hq _ _ => ⟨g, rfl, hq⟩)
    | k + 9, h => exact absurd h (by omega)
  · intro val w' hb halc hd
    have e0 : val 0 = .pointer (some ⟨g1, 0, none⟩) := hd 0 (by omega)
    have e1 : val 1 = .slice (some ⟨b, o, none⟩) rv.reaches.length c := hd 1 (by omega)
    have e2 : val 2 = .agg #[.slice (some ⟨b, o, none⟩) rv.reaches.length c, .slice A' rv.shoals.length c'] := hd 2 (by omega)
    have e3 : val 3 = .int .i64 p := hd 3 (by omega)
    have e4 : val 4 = .int .i64 (reachOf rv.reaches p : Nat) := hd 4 (by omega)
    have e5 : val 5 = .pointer (some ⟨b, o + reachOf rv.reaches p * 9, none⟩) := hd 5 (by omega)
    have e6 : val 6 = .pointer (some ⟨b, o + reachOf rv.reaches p * 9 + 6, none⟩) := hd 6 (by omega)
    have e7 : val 7 = .agg #[.int .i64 y.bottom.lo, .int .i64 y.bottom.hi] := hd 7 (by omega)
    obtain ⟨ga8, e8, qa8⟩ := hd 8 (by omega)
    refine EL.ends (cs := [.pointer (some ⟨g1, 0, none⟩), .slice (some ⟨b, o, none⟩) rv.reaches.length c, .agg #[.slice (some ⟨b, o, none⟩) rv.reaches.length c, .slice A' rv.shoals.length c'], .int .i64 p, .int .i64 (reachOf rv.reaches p : Nat), .pointer (some ⟨b, o + reachOf rv.reaches p * 9, none⟩), .pointer (some ⟨b, o + reachOf rv.reaches p * 9 + 6, none⟩), .agg #[.int .i64 y.bottom.lo, .int .i64 y.bottom.hi], .pointer (some ⟨ga8, 0, none⟩)]) ⟨e0, e1, e2, e3, e4, e5, e6, e7, e8, trivial⟩ rfl ?_
    replace q1 := q1.below hb q1.lt
    replace q2 := q2.below hb q2.lt
    have bge3 := alc_ge halc (i := 8) rfl rfl e8
    have n1_3 : g1 ≠ ga8 := Nat.ne_of_lt (Nat.lt_of_lt_of_le lt_1 bge3)
    have n2_3 : g2 ≠ ga8 := Nat.ne_of_lt (Nat.lt_of_lt_of_le lt_2 bge3)
    have bhbw_3 := Nat.le_trans hbw.size bge3
    replace hbw := Below.on hbw hb hbw.size
    clear hb
    refine EL.store rfl rfl qa8 sz_23 rfl rfl rfl rfl ?_
    intro w4 hq4 hg4
    replace q1 := q1.grown hg4 (fun h => n1_3 (Option.some.inj h))
    replace q2 := q2.grown hg4 (fun h => n2_3 (Option.some.inj h))
    replace hbw := below_store hbw hg4 bhbw_3
    replace qa8 := hq4
    clear hg4 hq4
    refine EL.nil ?_
    refine EX.seq ?_
    refine EC.seq ?_
    refine EC.seq ?_
    refine EC.region ?_
    refine EL.val (x_assign rfl) rfl ?_
    refine EL.nil ?_
    refine EX.seq ?_
    refine EC.block ?_
    refine EC.loopD [8, 9, 10, 19, 20, 21, 22, 23, 24, 25, 26, 27, 28, 29, 30, 31, 32, 33, 34, 35, 36, 37, 38, 39, 40, 41, 42, 43, 44, 45, 46, 47, 48, 49, 50, 51, 52, 53, 54, 55, 56, 57, 58, 59, 60, 61, 62, 63, 64, 65, 66, 67] (fun x : Nat => [(8, .int .i64 (x : Nat))]) (fun x W => x ≤ rv.shoals.length ∧ Blk W g1 47 #[.slice (some ⟨b, o, none⟩) rv.reaches.length c, .slice A' rv.shoals.length c'] ∧ Blk W g2 23 #[.int .i64 0, .int .i64 0] ∧ Blk W ga8 23 #[.int .i64 (topOf tt y.bottom (shoalsAt (rv.shoals.take (x)) p)).lo, .int .i64 (topOf tt y.bottom (shoalsAt (rv.shoals.take (x)) p)).hi] ∧ Below w.heap.size w W) (fun x => rv.shoals.length - x) 0 ⟨Nat.zero_le _, q1, q2, qa8, hbw⟩ ⟨rfl, trivial⟩ ?_
    clear q1 q2 qa8 hbw
    rintro i wr ⟨hil, q1, q2, qa8, hbw⟩
    by_cases hi : i < rv.shoals.length
    ·
      obtain ⟨b2, o2, rfl, _, sc⟩ := shoals_cells rv.shoals i hi _ _ _ _ _ hr.shoals
      have htp := topOf_take tt y.bottom rv.shoals p hi
      have hbd := bedOf_bd (hR.shoal i hi) (t := tt) ht1 ht2
      have hsh := hR.shoal i hi
      obtain ⟨x, ex⟩ : ∃ x, x = rv.shoals.getD i shoal0 := ⟨_, rfl⟩
      rw [← ex] at sc htp hbd hsh
      simp only [shoalB, Bool.and_eq_true, inB_iff, bdOk_iff] at hsh
      obtain ⟨bi, ebi⟩ : ∃ z, z = (topOf tt y.bottom (shoalsAt (rv.shoals.take (i)) p)) := ⟨_, rfl⟩
      rw [← ebi] at qa8 htp
      obtain ⟨hD, hm1, hm2, hb1, hb2⟩ := hbd
      have hsb : IntKind.i64.wrap (tt - x.sounded) = tt - x.sounded := IntWalk.i64_in _ ⟨by omega, by omega⟩
      have w1_ : IntKind.i64.wrap (x.grow.lo * (max 0 (tt - x.sounded))) = x.grow.lo * (max 0 (tt - x.sounded)) := IntWalk.i64_in _ ⟨by omega, by omega⟩
      have w2_ : IntKind.i64.wrap (x.grow.hi * (max 0 (tt - x.sounded))) = x.grow.hi * (max 0 (tt - x.sounded)) := IntWalk.i64_in _ ⟨by omega, by omega⟩
      simp only [bedOf] at hb1 hb2
      have a1_ : IntKind.i64.wrap (x.bed.lo + floorD (x.grow.lo * (max 0 (tt - x.sounded))) 24) = x.bed.lo + floorD (x.grow.lo * (max 0 (tt - x.sounded))) 24 := IntWalk.i64_in _ ⟨by omega, by omega⟩
      have a2_ : IntKind.i64.wrap (x.bed.hi + ceilD (x.grow.hi * (max 0 (tt - x.sounded))) 24) = x.bed.hi + ceilD (x.grow.hi * (max 0 (tt - x.sounded))) 24 := IntWalk.i64_in _ ⟨by omega, by omega⟩
      by_cases hpl : x.place = p
      ·
        refine EC.seq ?_
        refine EC.seq ?_
        refine EC.region ?_
        refine EL.val (x_move rfl) rfl ?_
        refine EL.val (fa_47_1 rfl) rfl ?_
        refine EL.val (ld_45 rfl (q1.at (j := 1) rfl)) rfl ?_
        refine EL.val (ln_45 rfl) rfl ?_
        refine EL.val (x_lss rfl rfl (by first | assumption | exact decide_eq_true (by omega))) rfl ?_
        refine EL.nil ?_
        refine EX.seq ?_
        refine EC.yes rfl ?_
        refine EC.skip ?_
        refine EX.seq ?_
        refine EC.seq ?_
        refine EC.block ?_
        refine EC.seq ?_
        refine EC.region ?_
        refine EL.val (fa_47_1 rfl) rfl ?_
        refine EL.val (ld_45 rfl (q1.at (j := 1) rfl)) rfl ?_
        refine EL.val (x_move rfl) rfl ?_
        refine EL.val (ix_45 (k := i) rfl rfl hi) rfl ?_
        refine EL.val (ld_97 rfl (below_load hbw sc.c0) (below_load hbw sc.c1) (below_load hbw sc.c2) (below_load hbw sc.c3) (below_load hbw sc.c4) (below_load hbw sc.c5)) rfl ?_
        refine EL.newP al_97 rfl ?_
        intro g5 w5 q5 hb5 hg5 hl5
        have n1_5 : g1 ≠ g5 := Nat.ne_of_lt (Nat.lt_of_lt_of_le q1.lt hg5)
        have n2_5 : g2 ≠ g5 := Nat.ne_of_lt (Nat.lt_of_lt_of_le q2.lt hg5)
        have n3_5 : ga8 ≠ g5 := Nat.ne_of_lt (Nat.lt_of_lt_of_le qa8.lt hg5)
        have bhbw_5 := Nat.le_trans hbw.size hg5
        replace q1 := q1.below hb5 q1.lt
        replace q2 := q2.below hb5 q2.lt
        replace qa8 := qa8.below hb5 qa8.lt
        replace hbw := Below.on hbw hb5 hbw.size
        clear hb5 hg5 hl5
        refine EL.store rfl rfl q5 sz_97 rfl rfl rfl rfl ?_
        intro w6 hq6 hg6
        replace q1 := q1.grown hg6 (fun h => n1_5 (Option.some.inj h))
        replace q2 := q2.grown hg6 (fun h => n2_5 (Option.some.inj h))
        replace qa8 := qa8.grown hg6 (fun h => n3_5 (Option.some.inj h))
        replace hbw := below_store hbw hg6 bhbw_5
        replace q5 := hq6
        clear hg6 hq6
        refine EL.nil ?_
        refine EX.seq ?_
        refine EC.seq ?_
        refine EC.seq ?_
        refine EC.region ?_
        refine EL.val (fa_97_0 rfl) rfl ?_
        refine EL.val (ld_3 rfl (q5.at (j := 0) rfl)) rfl ?_
        refine EL.val (x_move rfl) rfl ?_
        refine EL.val (x_neq rfl rfl (by first | assumption | exact decide_eq_false (by omega))) rfl ?_
        refine EL.nil ?_
        refine EX.seq ?_
        refine EC.no rfl ?_
        refine EC.skip ?_
        refine EX.seq ?_
        refine EC.seq ?_
        refine EC.region ?_
        refine EL.val (x_move rfl) rfl ?_
        refine EL.val (fa_97_2 rfl) rfl ?_
        refine EL.val (ld_3 rfl (q5.at (j := 3) rfl)) rfl ?_
        refine EL.val (x_sub rfl rfl hsb) rfl ?_
        refine EL.val (mm_max rfl rfl rfl) rfl ?_
        refine EL.val (x_assign rfl) rfl ?_
        refine EL.nil ?_
        refine EX.seq ?_
        refine EC.seq ?_
        have lt_1 := q1.lt
        have lt_2 := q2.lt
        have lt_3 := qa8.lt
        have lt_5 := q5.lt
        refine EC.regionP [[], [0], [], [2], [2, 3], [], [5], [5, 6], [], [5, 6, 7, 8], [5, 6, 7, 8, 9], [2, 3, 4, 5, 6, 7, 8, 9, 10], [0, 1, 2, 3, 4, 5, 6, 7, 8, 9, 10, 11], [0, 1, 2, 3, 4, 5, 6, 7, 8, 9, 10, 11, 12], [0, 1, 2, 3, 4, 5, 6, 7, 8, 9, 10, 11, 12, 13]] 12 [] (phi (fun i_ r => match i_ with | 0 => r 0 = .pointer (some ⟨ga8, 0, none⟩) | 1 => r 1 = .int .i64 bi.lo | 2 => r 2 = .pointer (some ⟨g5, 1, none⟩) | 3 => r 3 = .pointer (some ⟨g5, 1, none⟩) | 4 => r 4 = .int .i64 x.bed.lo | 5 => r 5 = .pointer (some ⟨g5, 4, none⟩) | 6 => r 6 = .pointer (some ⟨g5, 4, none⟩) | 7 => r 7 = .int .i64 x.grow.lo | 8 => r 8 = .int .i64 (max 0 (tt - x.sounded)) | 9 => r 9 = .int .i64 (x.grow.lo * (max 0 (tt - x.sounded))) | 10 => r 10 = .int .i64 (floorD (x.grow.lo * (max 0 (tt - x.sounded))) 24) | 11 => r 11 = .int .i64 (x.bed.lo + floorD (x.grow.lo * (max 0 (tt - x.sounded))) 24) | _ => True) []) (by kernel_rfl) rfl rfl (phi_nil) (fun i_ hi_ => ?_) ?_
        · match i_, hi_ with
          | 0, _ =>
            intro val w1 a hb ha hd
            have ha := ha.sub (Sub.ins (d := 7) (Sub.nil _) rfl)
            exact hs_val ha rfl rfl (fa_23_0 rfl) rfl rfl
          | 1, _ =>
            intro val w1 a hb ha hd
            have e0 : val 0 = .pointer (some ⟨ga8, 0, none⟩) := hd 0 (memB_mem.1 rfl)
            have ha := ha.sub (Sub.ins (d := 40) (Sub.nil _) (dep_get rfl e0))
            exact hs_val ha rfl rfl (ld_3 rfl ((qa8.below hb qa8.lt).at (j := 0) rfl)) rfl rfl
          | 2, _ =>
            intro val w1 a hb ha hd
            have ha := ha.sub (Sub.ins (d := 9) (Sub.nil _) rfl)
            exact hs_val ha rfl rfl (fa_97_1 rfl) rfl rfl
          | 3, _ =>
            intro val w1 a hb ha hd
            have e2 : val 2 = .pointer (some ⟨g5, 1, none⟩) := hd 2 (memB_mem.1 rfl)
            have ha := ha.sub (Sub.ins (d := 42) (Sub.nil _) (dep_get rfl e2))
            exact hs_val ha rfl rfl (fa_23_0 rfl) rfl rfl
          | 4, _ =>
            intro val w1 a hb ha hd
            have e3 : val 3 = .pointer (some ⟨g5, 1, none⟩) := hd 3 (memB_mem.1 rfl)
            have ha := ha.sub (Sub.ins (d := 43) (Sub.nil _) (dep_get rfl e3))
            exact hs_val ha rfl rfl (ld_3 rfl ((q5.below hb q5.lt).at (j := 1) rfl)) rfl rfl
          | 5, _ =>
            intro val w1 a hb ha hd
            have ha := ha.sub (Sub.ins (d := 9) (Sub.nil _) rfl)
            exact hs_val ha rfl rfl (fa_97_3 rfl) rfl rfl
          | 6, _ =>
            intro val w1 a hb ha hd
            have e5 : val 5 = .pointer (some ⟨g5, 4, none⟩) := hd 5 (memB_mem.1 rfl)
            have ha := ha.sub (Sub.ins (d := 45) (Sub.nil _) (dep_get rfl e5))
            exact hs_val ha rfl rfl (fa_23_0 rfl) rfl rfl
          | 7, _ =>
            intro val w1 a hb ha hd
            have e6 : val 6 = .pointer (some ⟨g5, 4, none⟩) := hd 6 (memB_mem.1 rfl)
            have ha := ha.sub (Sub.ins (d := 46) (Sub.nil _) (dep_get rfl e6))
            exact hs_val ha rfl rfl (ld_3 rfl ((q5.below hb q5.lt).at (j := 4) rfl)) rfl rfl
          | 8, _ =>
            intro val w1 a hb ha hd
            have ha := ha.sub (Sub.ins (d := 10) (Sub.nil _) rfl)
            exact hs_val ha rfl rfl (x_move rfl) rfl rfl
          | 9, _ =>
            intro val w1 a hb ha hd
            have e7 : val 7 = .int .i64 x.grow.lo := hd 7 (memB_mem.1 rfl)
            have e8 : val 8 = .int .i64 (max 0 (tt - x.sounded)) := hd 8 (memB_mem.1 rfl)
            have ha := ha.sub (Sub.ins (d := 48) (Sub.ins (d := 47) (Sub.nil _) (dep_get rfl e7)) (dep_get rfl e8))
            exact hs_val ha rfl rfl (x_mul rfl rfl w1_) rfl rfl
          | 10, _ =>
            intro val w1 a hb ha hd
            have e9 : val 9 = .int .i64 (x.grow.lo * (max 0 (tt - x.sounded))) := hd 9 (memB_mem.1 rfl)
            have ha := ha.sub (Sub.ins (d := 49) (Sub.nil _) (dep_get rfl e9))
            refine hs_call ha rfl rfl (cl_63 rfl rfl) (rfloor_bel (x.grow.lo * (max 0 (tt - x.sounded))) 24 _ (by omega) (by omega) (by omega) (by omega)) rfl ?_
            rintro e w' ⟨rfl, hb'⟩
            exact ⟨_, rfl, hb', rfl⟩
          | 11, _ =>
            intro val w1 a hb ha hd
            have e4 : val 4 = .int .i64 x.bed.lo := hd 4 (memB_mem.1 rfl)
            have e10 : val 10 = .int .i64 (floorD (x.grow.lo * (max 0 (tt - x.sounded))) 24) := hd 10 (memB_mem.1 rfl)
            have ha := ha.sub (Sub.ins (d := 50) (Sub.ins (d := 44) (Sub.nil _) (dep_get rfl e4)) (dep_get rfl e10))
            exact hs_val ha rfl rfl (x_add rfl rfl a1_) rfl rfl
          | k + 12, h => exact absurd h (by omega)
        · intro val w' hb halc hd
          have e0 : val 0 = .pointer (some ⟨ga8, 0, none⟩) := hd 0 (by omega)
          have e1 : val 1 = .int .i64 bi.lo := hd 1 (by omega)
          have e2 : val 2 = .pointer (some ⟨g5, 1, none⟩) := hd 2 (by omega)
          have e3 : val 3 = .pointer (some ⟨g5, 1, none⟩) := hd 3 (by omega)
          have e4 : val 4 = .int .i64 x.bed.lo := hd 4 (by omega)
          have e5 : val 5 = .pointer (some ⟨g5, 4, none⟩) := hd 5 (by omega)
          have e6 : val 6 = .pointer (some ⟨g5, 4, none⟩) := hd 6 (by omega)
          have e7 : val 7 = .int .i64 x.grow.lo := hd 7 (by omega)
          have e8 : val 8 = .int .i64 (max 0 (tt - x.sounded)) := hd 8 (by omega)
          have e9 : val 9 = .int .i64 (x.grow.lo * (max 0 (tt - x.sounded))) := hd 9 (by omega)
          have e10 : val 10 = .int .i64 (floorD (x.grow.lo * (max 0 (tt - x.sounded))) 24) := hd 10 (by omega)
          have e11 : val 11 = .int .i64 (x.bed.lo + floorD (x.grow.lo * (max 0 (tt - x.sounded))) 24) := hd 11 (by omega)
          refine EL.ends (cs := [.pointer (some ⟨ga8, 0, none⟩), .int .i64 bi.lo, .pointer (some ⟨g5, 1, none⟩), .pointer (some ⟨g5, 1, none⟩), .int .i64 x.bed.lo, .pointer (some ⟨g5, 4, none⟩), .pointer (some ⟨g5, 4, none⟩), .int .i64 x.grow.lo, .int .i64 (max 0 (tt - x.sounded)), .int .i64 (x.grow.lo * (max 0 (tt - x.sounded))), .int .i64 (floorD (x.grow.lo * (max 0 (tt - x.sounded))) 24), .int .i64 (x.bed.lo + floorD (x.grow.lo * (max 0 (tt - x.sounded))) 24)]) ⟨e0, e1, e2, e3, e4, e5, e6, e7, e8, e9, e10, e11, trivial⟩ rfl ?_
          replace q1 := q1.below hb q1.lt
          replace q2 := q2.below hb q2.lt
          replace qa8 := qa8.below hb qa8.lt
          replace q5 := q5.below hb q5.lt
          replace hbw := Below.on hbw hb hbw.size
          clear hb
          refine EL.val (mm_max rfl rfl rfl) rfl ?_
          refine EL.val (fa_23_0 rfl) rfl ?_
          refine EL.store rfl rfl qa8 sz_3 rfl rfl rfl rfl ?_
          intro w7 hq7 hg7
          replace q1 := q1.grown hg7 (fun h => n1_3 (Option.some.inj h))
          replace q2 := q2.grown hg7 (fun h => n2_3 (Option.some.inj h))
          replace q5 := q5.grown hg7 (fun h => n3_5.symm (Option.some.inj h))
          replace hbw := below_store hbw hg7 bhbw_3
          replace qa8 := hq7
          clear hg7 hq7
          refine EL.nil ?_
          refine EX.seq ?_
          have lt_1 := q1.lt
          have lt_2 := q2.lt
          have lt_3 := qa8.lt
          have lt_5 := q5.lt
          refine EC.regionP [[], [0], [], [2], [2, 3], [], [5], [5, 6], [], [5, 6, 7, 8], [5, 6, 7, 8, 9], [2, 3, 4, 5, 6, 7, 8, 9, 10], [0, 1, 2, 3, 4, 5, 6, 7, 8, 9, 10, 11], [0, 1, 2, 3, 4, 5, 6, 7, 8, 9, 10, 11, 12], [0, 1, 2, 3, 4, 5, 6, 7, 8, 9, 10, 11, 12, 13]] 12 [] (phi (fun i_ r => match i_ with | 0 => r 0 = .pointer (some ⟨ga8, 1, none⟩) | 1 => r 1 = .int .i64 bi.hi | 2 => r 2 = .pointer (some ⟨g5, 1, none⟩) | 3 => r 3 = .pointer (some ⟨g5, 2, none⟩) | 4 => r 4 = .int .i64 x.bed.hi | 5 => r 5 = .pointer (some ⟨g5, 4, none⟩) | 6 => r 6 = .pointer (some ⟨g5, 5, none⟩) | 7 => r 7 = .int .i64 x.grow.hi | 8 => r 8 = .int .i64 (max 0 (tt - x.sounded)) | 9 => r 9 = .int .i64 (x.grow.hi * (max 0 (tt - x.sounded))) | 10 => r 10 = .int .i64 (ceilD (x.grow.hi * (max 0 (tt - x.sounded))) 24) | 11 => r 11 = .int .i64 (x.bed.hi + ceilD (x.grow.hi * (max 0 (tt - x.sounded))) 24) | _ => True) []) (by kernel_rfl) rfl rfl (phi_nil) (fun i_ hi_ => ?_) ?_
          · match i_, hi_ with
            | 0, _ =>
              intro val w1 a hb ha hd
              have ha := ha.sub (Sub.ins (d := 7) (Sub.nil _) rfl)
              exact hs_val ha rfl rfl (fa_23_1 rfl) rfl rfl
            | 1, _ =>
              intro val w1 a hb ha hd
              have e0 : val 0 = .pointer (some ⟨ga8, 1, none⟩) := hd 0 (memB_mem.1 rfl)
              have ha := ha.sub (Sub.ins (d := 54) (Sub.nil _) (dep_get rfl e0))
              exact hs_val ha rfl rfl (ld_3 rfl ((qa8.below hb qa8.lt).at (j := 1) rfl)) rfl rfl
            | 2, _ =>
              intro val w1 a hb ha hd
              have ha := ha.sub (Sub.ins (d := 9) (Sub.nil _) rfl)
              exact hs_val ha rfl rfl (fa_97_1 rfl) rfl rfl
            | 3, _ =>
              intro val w1 a hb ha hd
              have e2 : val 2 = .pointer (some ⟨g5, 1, none⟩) := hd 2 (memB_mem.1 rfl)
              have ha := ha.sub (Sub.ins (d := 56) (Sub.nil _) (dep_get rfl e2))
              exact hs_val ha rfl rfl (fa_23_1 rfl) rfl rfl
            | 4, _ =>
              intro val w1 a hb ha hd
              have e3 : val 3 = .pointer (some ⟨g5, 2, none⟩) := hd 3 (memB_mem.1 rfl)
              have ha := ha.sub (Sub.ins (d := 57) (Sub.nil _) (dep_get rfl e3))
              exact hs_val ha rfl rfl (ld_3 rfl ((q5.below hb q5.lt).at (j := 2) rfl)) rfl rfl
            | 5, _ =>
              intro val w1 a hb ha hd
              have ha := ha.sub (Sub.ins (d := 9) (Sub.nil _) rfl)
              exact hs_val ha rfl rfl (fa_97_3 rfl) rfl rfl
            | 6, _ =>
              intro val w1 a hb ha hd
              have e5 : val 5 = .pointer (some ⟨g5, 4, none⟩) := hd 5 (memB_mem.1 rfl)
              have ha := ha.sub (Sub.ins (d := 59) (Sub.nil _) (dep_get rfl e5))
              exact hs_val ha rfl rfl (fa_23_1 rfl) rfl rfl
            | 7, _ =>
              intro val w1 a hb ha hd
              have e6 : val 6 = .pointer (some ⟨g5, 5, none⟩) := hd 6 (memB_mem.1 rfl)
              have ha := ha.sub (Sub.ins (d := 60) (Sub.nil _) (dep_get rfl e6))
              exact hs_val ha rfl rfl (ld_3 rfl ((q5.below hb q5.lt).at (j := 5) rfl)) rfl rfl
            | 8, _ =>
              intro val w1 a hb ha hd
              have ha := ha.sub (Sub.ins (d := 10) (Sub.nil _) rfl)
              exact hs_val ha rfl rfl (x_move rfl) rfl rfl
            | 9, _ =>
              intro val w1 a hb ha hd
              have e7 : val 7 = .int .i64 x.grow.hi := hd 7 (memB_mem.1 rfl)
              have e8 : val 8 = .int .i64 (max 0 (tt - x.sounded)) := hd 8 (memB_mem.1 rfl)
              have ha := ha.sub (Sub.ins (d := 62) (Sub.ins (d := 61) (Sub.nil _) (dep_get rfl e7)) (dep_get rfl e8))
              exact hs_val ha rfl rfl (x_mul rfl rfl w2_) rfl rfl
            | 10, _ =>
              intro val w1 a hb ha hd
              have e9 : val 9 = .int .i64 (x.grow.hi * (max 0 (tt - x.sounded))) := hd 9 (memB_mem.1 rfl)
              have ha := ha.sub (Sub.ins (d := 63) (Sub.nil _) (dep_get rfl e9))
              refine hs_call ha rfl rfl (cl_64 rfl rfl) (rceil_bel (x.grow.hi * (max 0 (tt - x.sounded))) 24 _ (by omega) (by omega) (by omega) (by omega)) rfl ?_
              rintro e w' ⟨rfl, hb'⟩
              exact ⟨_, rfl, hb', rfl⟩
            | 11, _ =>
              intro val w1 a hb ha hd
              have e4 : val 4 = .int .i64 x.bed.hi := hd 4 (memB_mem.1 rfl)
              have e10 : val 10 = .int .i64 (ceilD (x.grow.hi * (max 0 (tt - x.sounded))) 24) := hd 10 (memB_mem.1 rfl)
              have ha := ha.sub (Sub.ins (d := 64) (Sub.ins (d := 58) (Sub.nil _) (dep_get rfl e4)) (dep_get rfl e10))
              exact hs_val ha rfl rfl (x_add rfl rfl a2_) rfl rfl
            | k + 12, h => exact absurd h (by omega)
          · intro val w' hb halc hd
            have e0 : val 0 = .pointer (some ⟨ga8, 1, none⟩) := hd 0 (by omega)
            have e1 : val 1 = .int .i64 bi.hi := hd 1 (by omega)
            have e2 : val 2 = .pointer (some ⟨g5, 1, none⟩) := hd 2 (by omega)
            have e3 : val 3 = .pointer (some ⟨g5, 2, none⟩) := hd 3 (by omega)
            have e4 : val 4 = .int .i64 x.bed.hi := hd 4 (by omega)
            have e5 : val 5 = .pointer (some ⟨g5, 4, none⟩) := hd 5 (by omega)
            have e6 : val 6 = .pointer (some ⟨g5, 5, none⟩) := hd 6 (by omega)
            have e7 : val 7 = .int .i64 x.grow.hi := hd 7 (by omega)
            have e8 : val 8 = .int .i64 (max 0 (tt - x.sounded)) := hd 8 (by omega)
            have e9 : val 9 = .int .i64 (x.grow.hi * (max 0 (tt - x.sounded))) := hd 9 (by omega)
            have e10 : val 10 = .int .i64 (ceilD (x.grow.hi * (max 0 (tt - x.sounded))) 24) := hd 10 (by omega)
            have e11 : val 11 = .int .i64 (x.bed.hi + ceilD (x.grow.hi * (max 0 (tt - x.sounded))) 24) := hd 11 (by omega)
            refine EL.ends (cs := [.pointer (some ⟨ga8, 1, none⟩), .int .i64 bi.hi, .pointer (some ⟨g5, 1, none⟩), .pointer (some ⟨g5, 2, none⟩), .int .i64 x.bed.hi, .pointer (some ⟨g5, 4, none⟩), .pointer (some ⟨g5, 5, none⟩), .int .i64 x.grow.hi, .int .i64 (max 0 (tt - x.sounded)), .int .i64 (x.grow.hi * (max 0 (tt - x.sounded))), .int .i64 (ceilD (x.grow.hi * (max 0 (tt - x.sounded))) 24), .int .i64 (x.bed.hi + ceilD (x.grow.hi * (max 0 (tt - x.sounded))) 24)]) ⟨e0, e1, e2, e3, e4, e5, e6, e7, e8, e9, e10, e11, trivial⟩ rfl ?_
            replace q1 := q1.below hb q1.lt
            replace q2 := q2.below hb q2.lt
            replace qa8 := qa8.below hb qa8.lt
            replace q5 := q5.below hb q5.lt
            replace hbw := Below.on hbw hb hbw.size
            clear hb
            refine EL.val (mm_max rfl rfl rfl) rfl ?_
            refine EL.val (fa_23_1 rfl) rfl ?_
            refine EL.store rfl rfl qa8 sz_3 rfl rfl rfl rfl ?_
            intro w8 hq8 hg8
            replace q1 := q1.grown hg8 (fun h => n1_3 (Option.some.inj h))
            replace q2 := q2.grown hg8 (fun h => n2_3 (Option.some.inj h))
            replace q5 := q5.grown hg8 (fun h => n3_5.symm (Option.some.inj h))
            replace hbw := below_store hbw hg8 bhbw_3
            replace qa8 := hq8
            clear hg8 hq8
            refine EL.nil ?_
            refine EX.blk ?_
            refine EX.seq ?_
            refine EC.region ?_
            refine EL.val (x_move rfl) rfl ?_
            refine EL.val (x_add rfl rfl (by first | assumption | exact IntWalk.i64_in _ ⟨by omega, by omega⟩)) rfl ?_
            refine EL.val (x_assign rfl) rfl ?_
            refine EL.nil ?_
            rw [if_pos hpl] at htp
            refine EX.roundD (i + 1) ⟨rfl, trivial⟩ (by repeat first | exact Sub.refl _ | refine sub_past rfl ?_ | refine sub_del rfl ?_ | refine sub_insL_nil ?_) ⟨hi, q1, q2, by rw [htp]; exact qa8, hbw⟩ (by omega)
      ·
        refine EC.seq ?_
        refine EC.seq ?_
        refine EC.region ?_
        refine EL.val (x_move rfl) rfl ?_
        refine EL.val (fa_47_1 rfl) rfl ?_
        refine EL.val (ld_45 rfl (q1.at (j := 1) rfl)) rfl ?_
        refine EL.val (ln_45 rfl) rfl ?_
        refine EL.val (x_lss rfl rfl (by first | assumption | exact decide_eq_true (by omega))) rfl ?_
        refine EL.nil ?_
        refine EX.seq ?_
        refine EC.yes rfl ?_
        refine EC.skip ?_
        refine EX.seq ?_
        refine EC.seq ?_
        refine EC.block ?_
        refine EC.seq ?_
        refine EC.region ?_
        refine EL.val (fa_47_1 rfl) rfl ?_
        refine EL.val (ld_45 rfl (q1.at (j := 1) rfl)) rfl ?_
        refine EL.val (x_move rfl) rfl ?_
        refine EL.val (ix_45 (k := i) rfl rfl hi) rfl ?_
        refine EL.val (ld_97 rfl (below_load hbw sc.c0) (below_load hbw sc.c1) (below_load hbw sc.c2) (below_load hbw sc.c3) (below_load hbw sc.c4) (below_load hbw sc.c5)) rfl ?_
        refine EL.newP al_97 rfl ?_
        intro g9 w9 q9 hb9 hg9 hl9
        have n1_9 : g1 ≠ g9 := Nat.ne_of_lt (Nat.lt_of_lt_of_le q1.lt hg9)
        have n2_9 : g2 ≠ g9 := Nat.ne_of_lt (Nat.lt_of_lt_of_le q2.lt hg9)
        have n3_9 : ga8 ≠ g9 := Nat.ne_of_lt (Nat.lt_of_lt_of_le qa8.lt hg9)
        have bhbw_9 := Nat.le_trans hbw.size hg9
        replace q1 := q1.below hb9 q1.lt
        replace q2 := q2.below hb9 q2.lt
        replace qa8 := qa8.below hb9 qa8.lt
        replace hbw := Below.on hbw hb9 hbw.size
        clear hb9 hg9 hl9
        refine EL.store rfl rfl q9 sz_97 rfl rfl rfl rfl ?_
        intro w10 hq10 hg10
        replace q1 := q1.grown hg10 (fun h => n1_9 (Option.some.inj h))
        replace q2 := q2.grown hg10 (fun h => n2_9 (Option.some.inj h))
        replace qa8 := qa8.grown hg10 (fun h => n3_9 (Option.some.inj h))
        replace hbw := below_store hbw hg10 bhbw_9
        replace q9 := hq10
        clear hg10 hq10
        refine EL.nil ?_
        refine EX.seq ?_
        refine EC.seq ?_
        refine EC.seq ?_
        refine EC.region ?_
        refine EL.val (fa_97_0 rfl) rfl ?_
        refine EL.val (ld_3 rfl (q9.at (j := 0) rfl)) rfl ?_
        refine EL.val (x_move rfl) rfl ?_
        refine EL.val (x_neq rfl rfl (by first | assumption | exact decide_eq_true (by omega))) rfl ?_
        refine EL.nil ?_
        refine EX.seq ?_
        refine EC.yes rfl ?_
        refine EC.exit ?_
        refine EX.seq_exit ?_
        refine EX.blk_here ?_
        refine EX.seq ?_
        refine EC.region ?_
        refine EL.val (x_move rfl) rfl ?_
        refine EL.val (x_add rfl rfl (by first | assumption | exact IntWalk.i64_in _ ⟨by omega, by omega⟩)) rfl ?_
        refine EL.val (x_assign rfl) rfl ?_
        refine EL.nil ?_
        rw [if_neg hpl] at htp
        refine EX.roundD (i + 1) ⟨rfl, trivial⟩ (by repeat first | exact Sub.refl _ | refine sub_past rfl ?_ | refine sub_del rfl ?_ | refine sub_insL_nil ?_) ⟨hi, q1, q2, by rw [htp]; exact qa8, hbw⟩ (by omega)
    ·
      obtain rfl : i = rv.shoals.length := by omega
      rw [List.take_length] at qa8
      refine EC.seq ?_
      refine EC.seq ?_
      refine EC.region ?_
      refine EL.val (x_move rfl) rfl ?_
      refine EL.val (fa_47_1 rfl) rfl ?_
      refine EL.val (ld_45 rfl (q1.at (j := 1) rfl)) rfl ?_
      refine EL.val (ln_45 rfl) rfl ?_
      refine EL.val (x_lss rfl rfl (by first | assumption | exact decide_eq_false (by omega))) rfl ?_
      refine EL.nil ?_
      refine EX.seq ?_
      refine EC.no rfl ?_
      refine EC.exit ?_
      refine EX.seq_exit ?_
      refine EX.seq_exit ?_
      refine EX.blk_here ?_
      refine EX.seq ?_
      refine EC.seq ?_
      refine EC.region ?_
      refine EL.val (ld_23 rfl (qa8.at (j := 0) rfl) (qa8.at (j := 1) rfl)) rfl ?_
      refine EL.store rfl rfl q2 sz_23 rfl rfl rfl rfl ?_
      intro w11 hq11 hg11
      replace q1 := q1.grown hg11 (fun h => n1_2 (Option.some.inj h))
      replace qa8 := qa8.grown hg11 (fun h => n2_3.symm (Option.some.inj h))
      replace hbw := below_store hbw hg11 bhbw_2
      replace q2 := hq11
      clear hg11 hq11
      refine EL.nil ?_
      refine EX.seq ?_
      refine EC.ret ?_
      exact EX.done (resc1 rfl rfl (lv_23 (q2.at rfl) (q2.at rfl))) ⟨by subst ey; rfl, hbw⟩
end Go.Proofs.Ytncnlhkmdljgpaa
