/- River: the reference's Depth (printed by gen_w15.py). -/
import Derived.Test.YtncnlhkmdljgpaaW1
import Derived.Test.YtncnlhkmdljgpaaW9
import Derived.Test.YtncnlhkmdljgpaaW11
import Derived.Test.YtncnlhkmdljgpaaW14
set_option linter.unusedVariables false
namespace Go.Proofs.Ytncnlhkmdljgpaa
open Go Go.RowKit

set_option maxRecDepth 100000 in
theorem rdepth_any (rv : River) (sides : List (List Bd)) (v u s : Value) (vs ss : List Value) (p tt : Int) (w : World) (B : Nat) (hr : RdRiver w B v u rv vs) (hs : RdSides w B s sides ss) (hB : B ≤ w.heap.size) (h : StartOk rv sides) (hp1 : 0 ≤ p) (hp2 : p < placesOf rv.reaches) (ht1 : 0 ≤ tt) (ht2 : tt < (sides.getD 0 []).length) :
    Calls Try.prog 39 #[.agg #[v, u], s, .int .i64 p, .int .i64 tt] w fun e w' => e = .returned (.agg #[.int .i64 (depthAt rv sides p tt).lo, .int .i64 (depthAt rv sides p tt).hi]) ∧ Below w.heap.size w w' := by
  have hh := h.hours
  have hlt : reachOf rv.reaches p < rv.reaches.length := reachOf_lt _ _ hp1 hp2
  have hfl := fun W (hb : Below w.heap.size w W) => rflow_any rv sides v u s vs ss B h (reachOf rv.reaches p) tt W (hr.below (hb.mono hB)) (hs.below (hb.mono hB)) (Nat.le_trans hB hb.size) hlt ht2
  have hfb := flowIn_small h (reachOf rv.reaches p) tt hlt ht2
  have hx := h.river.reach _ hlt
  have hcv := hr.reaches.curve _ hlt
  obtain ⟨A, c, rfl, _⟩ := hr.reaches.shape
  obtain ⟨A', c', rfl, _⟩ := hr.shoals.shape
  obtain ⟨D, d, rfl, _⟩ := hs.rd.shape
  obtain ⟨b, o, rfl, _, cc⟩ := reaches_cells hr.reaches _ hlt
  obtain ⟨As, cs, es, _⟩ := hcv.shape
  rw [es] at cc hcv
  obtain ⟨fb, ef⟩ : ∃ y, y = flowIn rv.reaches sides (reachOf rv.reaches p) tt := ⟨_, rfl⟩
  rw [← ef] at hfl hfb
  obtain ⟨x, ex⟩ : ∃ y, y = rv.reaches.getD (reachOf rv.reaches p) reach0 := ⟨_, rfl⟩
  rw [← ex] at cc hcv hx
  have hlb := levelAt_bd hx fb
  have htb : (-20000 ≤ (bedAt rv p tt).lo ∧ (bedAt rv p tt).lo ≤ 30000) ∧ -20000 ≤ (bedAt rv p tt).hi ∧ (bedAt rv p tt).hi ≤ 30000 := topOf_bd (N := placesOf rv.reaches) (fun j hj => by
    have hm : (shoalsAt rv.shoals p).getD j shoal0 ∈ rv.shoals := (List.mem_filter.1 (show _ ∈ rv.shoals.filter _ from getD_mem hj)).1
    obtain ⟨k, hk, e⟩ := List.getElem_of_mem hm
    have := h.river.shoal k hk
    rwa [show rv.shoals.getD k shoal0 = (shoalsAt rv.shoals p).getD j shoal0 by simp [hk, e]] at this) (by omega) (by omega) (by have := (h.river.reach _ hlt).bottom; omega) (by have := (h.river.reach _ hlt).bottom; omega)
  have w1_ : IntKind.i64.wrap ((levelAt x fb).lo - (bedAt rv p tt).hi) = (levelAt x fb).lo - (bedAt rv p tt).hi := IntWalk.i64_in _ ⟨by omega, by omega⟩
  have w2_ : IntKind.i64.wrap ((levelAt x fb).hi - (bedAt rv p tt).lo) = (levelAt x fb).hi - (bedAt rv p tt).lo := IntWalk.i64_in _ ⟨by omega, by omega⟩
  have hbw := Below.refl w.heap.size w
  refine EC.enter 43 Try.func39 rfl rfl rfl ?_
  refine EC.seq ?_
  refine EC.region ?_
  refine EL.newP (bx_47 rfl) rfl ?_
  intro g1 w1 q1 hb1 hg1 hl1
  have bhbw_1 := Nat.le_trans hbw.size hg1
  replace hbw := Below.on hbw hb1 hbw.size
  clear hb1 hg1 hl1
  refine EL.newP al_23 rfl ?_
  intro g2 w2 q2 hb2 hg2 hl2
  have n1_2 : g1 ≠ g2 := Nat.ne_of_lt (Nat.lt_of_lt_of_le q1.lt hg2)
  have bhbw_2 := Nat.le_trans hbw.size hg2
  replace q1 := q1.below hb2 q1.lt
  replace hbw := Below.on hbw hb2 hbw.size
  clear hb2 hg2 hl2
  refine EL.nil ?_
  refine EX.seq ?_
  refine EC.seq ?_
  refine EC.region ?_
  refine EL.val (ld_47 rfl (q1.at (j := 0) rfl) (q1.at (j := 1) rfl)) rfl ?_
  refine EL.val (x_move rfl) rfl ?_
  refine EL.call (cl_76 rfl rfl) rfl (rof_any rv _ _ vs p _ B (hr.below (hbw.mono hB)) (Nat.le_trans hB hbw.size) h.river ⟨hp1, hp2⟩) ?_
  rintro e w3 ⟨rfl, hc3⟩
  refine ⟨_, rfl, ?_⟩
  replace q1 := q1.below hc3 q1.lt
  replace q2 := q2.below hc3 q2.lt
  replace hbw := Below.on hbw hc3 hbw.size
  clear hc3
  refine EL.val (x_assign rfl) rfl ?_
  refine EL.nil ?_
  refine EX.seq ?_
  refine EC.seq ?_
  have lt_1 := q1.lt
  have lt_2 := q2.lt
  refine EC.regionP [[], [0], [], [0, 1, 2], [0, 1, 2, 3], [], [], [], [], [5, 6, 7, 8], [0, 1, 2, 3, 4, 5, 6, 7, 8, 9], [], [], [], [0, 1, 2, 3, 4, 5, 6, 7, 8, 9, 10, 11, 12, 13], [], [], [0, 1, 2, 3, 4, 5, 6, 7, 8, 9, 10, 11, 12, 13, 14, 15, 16], [0, 1, 2, 3, 4, 5, 6, 7, 8, 9, 10, 11, 12, 13, 14, 15, 16, 17]] 17 [15, 16] (phi (fun i_ r => match i_ with | 0 => r 0 = .pointer (some ⟨g1, 0, none⟩) | 1 => r 1 = .slice (some ⟨b, o, none⟩) rv.reaches.length c | 2 => r 2 = .int .i64 (reachOf rv.reaches p : Nat) | 3 => r 3 = .pointer (some ⟨b, o + reachOf rv.reaches p * 9, none⟩) | 4 => r 4 = .agg (reachV x (.slice As x.curve.length cs)) | 5 => r 5 = .agg #[.slice (some ⟨b, o, none⟩) rv.reaches.length c, .slice A' rv.shoals.length c'] | 6 => r 6 = .slice D sides.length d | 7 => r 7 = .int .i64 (reachOf rv.reaches p : Nat) | 8 => r 8 = .int .i64 tt | 9 => r 9 = .agg #[.int .i64 fb.lo, .int .i64 fb.hi] | 10 => r 10 = .agg #[.int .i64 (levelAt x fb).lo, .int .i64 (levelAt x fb).hi] | 11 => r 11 = .agg #[.slice (some ⟨b, o, none⟩) rv.reaches.length c, .slice A' rv.shoals.length c'] | 12 => r 12 = .int .i64 p | 13 => r 13 = .int .i64 tt | 14 => r 14 = .agg #[.int .i64 (bedAt rv p tt).lo, .int .i64 (bedAt rv p tt).hi] | _ => True) [(15, fun r w_ => ∃ g_, r 15 = .pointer (some ⟨g_, 0, none⟩) ∧ Blk w_ g_ 23 #[.int .i64 0, .int .i64 0]), (16, fun r w_ => ∃ g_, r 16 = .pointer (some ⟨g_, 0, none⟩) ∧ Blk w_ g_ 23 #[.int .i64 0, .int .i64 0])]) (by kernel_rfl) rfl rfl (phi_cons mono_alloc (phi_cons mono_alloc (phi_nil))) (fun i_ hi_ => ?_) ?_
  · match i_, hi_ with
    | 0, _ =>
      intro val w1 a hb ha hd
      have ha := ha.sub (Sub.ins (d := 4) (Sub.nil _) rfl)
      exact hs_val ha rfl rfl (fa_47_0 rfl) rfl rfl
    | 1, _ =>
      intro val w1 a hb ha hd
      have e0 : val 0 = .pointer (some ⟨g1, 0, none⟩) := hd 0 (memB_mem.1 rfl)
      have ha := ha.sub (Sub.ins (d := 15) (Sub.nil _) (dep_get rfl e0))
      exact hs_val ha rfl rfl (ld_44 rfl ((q1.below hb q1.lt).at (j := 0) rfl)) rfl rfl
    | 2, _ =>
      intro val w1 a hb ha hd
      have ha := ha.sub (Sub.ins (d := 9) (Sub.nil _) rfl)
      exact hs_val ha rfl rfl (x_move rfl) rfl rfl
    | 3, _ =>
      intro val w1 a hb ha hd
      have e1 : val 1 = .slice (some ⟨b, o, none⟩) rv.reaches.length c := hd 1 (memB_mem.1 rfl)
      have e2 : val 2 = .int .i64 (reachOf rv.reaches p : Nat) := hd 2 (memB_mem.1 rfl)
      have ha := ha.sub (Sub.ins (d := 17) (Sub.ins (d := 16) (Sub.nil _) (dep_get rfl e1)) (dep_get rfl e2))
      exact hs_val ha rfl rfl (ix_44 (k := reachOf rv.reaches p) rfl rfl hlt) rfl rfl
    | 4, _ =>
      intro val w1 a hb ha hd
      have e3 : val 3 = .pointer (some ⟨b, o + reachOf rv.reaches p * 9, none⟩) := hd 3 (memB_mem.1 rfl)
      have ha := ha.sub (Sub.ins (d := 18) (Sub.nil _) (dep_get rfl e3))
      exact hs_val ha rfl rfl (ld_50 rfl (below_load (Below.on hbw hb hbw.size) cc.c0) (below_load (Below.on hbw hb hbw.size) cc.c1) (below_load (Below.on hbw hb hbw.size) cc.c2) (below_load (Below.on hbw hb hbw.size) cc.c3) (below_load (Below.on hbw hb hbw.size) cc.c4) (below_load (Below.on hbw hb hbw.size) cc.c5) (below_load (Below.on hbw hb hbw.size) cc.c6) (below_load (Below.on hbw hb hbw.size) cc.c7) (below_load (Below.on hbw hb hbw.size) cc.c8)) rfl rfl
    | 5, _ =>
      intro val w1 a hb ha hd
      have ha := ha.sub (Sub.ins (d := 4) (Sub.nil _) rfl)
      exact hs_val ha rfl rfl (ld_47 rfl ((q1.below hb q1.lt).at (j := 0) rfl) ((q1.below hb q1.lt).at (j := 1) rfl)) rfl rfl
    | 6, _ =>
      intro val w1 a hb ha hd
      have ha := ha.sub (Sub.ins (d := 1) (Sub.nil _) rfl)
      exact hs_val ha rfl rfl (x_move rfl) rfl rfl
    | 7, _ =>
      intro val w1 a hb ha hd
      have ha := ha.sub (Sub.ins (d := 9) (Sub.nil _) rfl)
      exact hs_val ha rfl rfl (x_move rfl) rfl rfl
    | 8, _ =>
      intro val w1 a hb ha hd
      have ha := ha.sub (Sub.ins (d := 3) (Sub.nil _) rfl)
      exact hs_val ha rfl rfl (x_move rfl) rfl rfl
    | 9, _ =>
      intro val w1 a hb ha hd
      have e5 : val 5 = .agg #[.slice (some ⟨b, o, none⟩) rv.reaches.length c, .slice A' rv.shoals.length c'] := hd 5 (memB_mem.1 rfl)
      have e6 : val 6 = .slice D sides.length d := hd 6 (memB_mem.1 rfl)
      have e7 : val 7 = .int .i64 (reachOf rv.reaches p : Nat) := hd 7 (memB_mem.1 rfl)
      have e8 : val 8 = .int .i64 tt := hd 8 (memB_mem.1 rfl)
      have ha := ha.sub (Sub.ins (d := 23) (Sub.ins (d := 22) (Sub.ins (d := 21) (Sub.ins (d := 20) (Sub.nil _) (dep_get rfl e5)) (dep_get rfl e6)) (dep_get rfl e7)) (dep_get rfl e8))
      refine hs_call ha rfl rfl (cl_47 rfl rfl rfl rfl) (hfl _ (Below.on hbw hb hbw.size)) rfl ?_
      rintro e w' ⟨rfl, hb'⟩
      exact ⟨_, rfl, hb', rfl⟩
    | 10, _ =>
      intro val w1 a hb ha hd
      have e4 : val 4 = .agg (reachV x (.slice As x.curve.length cs)) := hd 4 (memB_mem.1 rfl)
      have e9 : val 9 = .agg #[.int .i64 fb.lo, .int .i64 fb.hi] := hd 9 (memB_mem.1 rfl)
      have ha := ha.sub (Sub.ins (d := 24) (Sub.ins (d := 19) (Sub.nil _) (dep_get rfl e4)) (dep_get rfl e9))
      refine hs_call ha rfl rfl (cl_31 rfl rfl) (rlevel_any x _ fb _ B (hcv.below ((Below.on hbw hb hbw.size).mono hB)) (Nat.le_trans hB (Below.on hbw hb hbw.size).size) hx (by omega)) rfl ?_
      rintro e w' ⟨rfl, hb'⟩
      exact ⟨_, rfl, hb', rfl⟩
    | 11, _ =>
      intro val w1 a hb ha hd
      have ha := ha.sub (Sub.ins (d := 4) (Sub.nil _) rfl)
      exact hs_val ha rfl rfl (ld_47 rfl ((q1.below hb q1.lt).at (j := 0) rfl) ((q1.below hb q1.lt).at (j := 1) rfl)) rfl rfl
    | 12, _ =>
      intro val w1 a hb ha hd
      have ha := ha.sub (Sub.ins (d := 2) (Sub.nil _) rfl)
      exact hs_val ha rfl rfl (x_move rfl) rfl rfl
    | 13, _ =>
      intro val w1 a hb ha hd
      have ha := ha.sub (Sub.ins (d := 3) (Sub.nil _) rfl)
      exact hs_val ha rfl rfl (x_move rfl) rfl rfl
    | 14, _ =>
      intro val w1 a hb ha hd
      have e11 : val 11 = .agg #[.slice (some ⟨b, o, none⟩) rv.reaches.length c, .slice A' rv.shoals.length c'] := hd 11 (memB_mem.1 rfl)
      have e12 : val 12 = .int .i64 p := hd 12 (memB_mem.1 rfl)
      have e13 : val 13 = .int .i64 tt := hd 13 (memB_mem.1 rfl)
      have ha := ha.sub (Sub.ins (d := 28) (Sub.ins (d := 27) (Sub.ins (d := 26) (Sub.nil _) (dep_get rfl e11)) (dep_get rfl e12)) (dep_get rfl e13))
      refine hs_call ha rfl rfl (cl_37 rfl rfl rfl) (rbed_any rv _ _ vs p tt _ B (hr.below ((Below.on hbw hb hbw.size).mono hB)) (Nat.le_trans hB (Below.on hbw hb hbw.size).size) h.river hp1 hp2 (by omega) (by omega)) rfl ?_
      rintro e w' ⟨rfl, hb'⟩
      exact ⟨_, rfl, hb', rfl⟩
    | 15, _ =>
      intro val w1 a hb ha hd
      have ha := ha.sub (Sub.nil _)
      exact hs_newP ha rfl rfl al_23 (fun g w' hq _ _ => ⟨g, rfl, hq⟩)
    | 16, _ =>
      intro val w1 a hb ha hd
      have ha := ha.sub (Sub.nil _)
      exact hs_newP ha rfl rfl al_23 (fun g w' hq _ _ => ⟨g, rfl, hq⟩)
    | k + 17, h => exact absurd h (by omega)
  · intro val w' hb halc hd
    have e0 : val 0 = .pointer (some ⟨g1, 0, none⟩) := hd 0 (by omega)
    have e1 : val 1 = .slice (some ⟨b, o, none⟩) rv.reaches.length c := hd 1 (by omega)
    have e2 : val 2 = .int .i64 (reachOf rv.reaches p : Nat) := hd 2 (by omega)
    have e3 : val 3 = .pointer (some ⟨b, o + reachOf rv.reaches p * 9, none⟩) := hd 3 (by omega)
    have e4 : val 4 = .agg (reachV x (.slice As x.curve.length cs)) := hd 4 (by omega)
    have e5 : val 5 = .agg #[.slice (some ⟨b, o, none⟩) rv.reaches.length c, .slice A' rv.shoals.length c'] := hd 5 (by omega)
    have e6 : val 6 = .slice D sides.length d := hd 6 (by omega)
    have e7 : val 7 = .int .i64 (reachOf rv.reaches p : Nat) := hd 7 (by omega)
    have e8 : val 8 = .int .i64 tt := hd 8 (by omega)
    have e9 : val 9 = .agg #[.int .i64 fb.lo, .int .i64 fb.hi] := hd 9 (by omega)
    have e10 : val 10 = .agg #[.int .i64 (levelAt x fb).lo, .int .i64 (levelAt x fb).hi] := hd 10 (by omega)
    have e11 : val 11 = .agg #[.slice (some ⟨b, o, none⟩) rv.reaches.length c, .slice A' rv.shoals.length c'] := hd 11 (by omega)
    have e12 : val 12 = .int .i64 p := hd 12 (by omega)
    have e13 : val 13 = .int .i64 tt := hd 13 (by omega)
    have e14 : val 14 = .agg #[.int .i64 (bedAt rv p tt).lo, .int .i64 (bedAt rv p tt).hi] := hd 14 (by omega)
    obtain ⟨ga15, e15, qa15⟩ := hd 15 (by omega)
    obtain ⟨ga16, e16, qa16⟩ := hd 16 (by omega)
    refine EL.ends (cs := [.pointer (some ⟨g1, 0, none⟩), .slice (some ⟨b, o, none⟩) rv.reaches.length c, .int .i64 (reachOf rv.reaches p : Nat), .pointer (some ⟨b, o + reachOf rv.reaches p * 9, none⟩), .agg (reachV x (.slice As x.curve.length cs)), .agg #[.slice (some ⟨b, o, none⟩) rv.reaches.length c, .slice A' rv.shoals.length c'], .slice D sides.length d, .int .i64 (reachOf rv.reaches p : Nat), .int .i64 tt, .agg #[.int .i64 fb.lo, .int .i64 fb.hi], .agg #[.int .i64 (levelAt x fb).lo, .int .i64 (levelAt x fb).hi], .agg #[.slice (some ⟨b, o, none⟩) rv.reaches.length c, .slice A' rv.shoals.length c'], .int .i64 p, .int .i64 tt, .agg #[.int .i64 (bedAt rv p tt).lo, .int .i64 (bedAt rv p tt).hi], .pointer (some ⟨ga15, 0, none⟩), .pointer (some ⟨ga16, 0, none⟩)]) ⟨e0, e1, e2, e3, e4, e5, e6, e7, e8, e9, e10, e11, e12, e13, e14, e15, e16, trivial⟩ rfl ?_
    replace q1 := q1.below hb q1.lt
    replace q2 := q2.below hb q2.lt
    have bge4 := alc_ge halc (i := 15) rfl rfl e15
    have n1_4 : g1 ≠ ga15 := Nat.ne_of_lt (Nat.lt_of_lt_of_le lt_1 bge4)
    have n2_4 : g2 ≠ ga15 := Nat.ne_of_lt (Nat.lt_of_lt_of_le lt_2 bge4)
    have bhbw_4 := Nat.le_trans hbw.size bge4
    have bge5 := alc_ge halc (i := 16) rfl rfl e16
    have n1_5 : g1 ≠ ga16 := Nat.ne_of_lt (Nat.lt_of_lt_of_le lt_1 bge5)
    have n2_5 : g2 ≠ ga16 := Nat.ne_of_lt (Nat.lt_of_lt_of_le lt_2 bge5)
    have n4_5 : ga15 ≠ ga16 := alc_ne halc (i := 15) (j := 16) rfl rfl rfl rfl rfl e15 e16
    have bhbw_5 := Nat.le_trans hbw.size bge5
    replace hbw := Below.on hbw hb hbw.size
    clear hb
    refine EL.store rfl rfl qa15 sz_23 rfl rfl rfl rfl ?_
    intro w6 hq6 hg6
    replace q1 := q1.grown hg6 (fun h => n1_4 (Option.some.inj h))
    replace q2 := q2.grown hg6 (fun h => n2_4 (Option.some.inj h))
    replace qa16 := qa16.grown hg6 (fun h => n4_5.symm (Option.some.inj h))
    replace hbw := below_store hbw hg6 bhbw_4
    replace qa15 := hq6
    clear hg6 hq6
    refine EL.store rfl rfl qa16 sz_23 rfl rfl rfl rfl ?_
    intro w7 hq7 hg7
    replace q1 := q1.grown hg7 (fun h => n1_5 (Option.some.inj h))
    replace q2 := q2.grown hg7 (fun h => n2_5 (Option.some.inj h))
    replace qa15 := qa15.grown hg7 (fun h => n4_5 (Option.some.inj h))
    replace hbw := below_store hbw hg7 bhbw_5
    replace qa16 := hq7
    clear hg7 hq7
    refine EL.nil ?_
    refine EX.seq ?_
    refine EC.seq ?_
    refine EC.region ?_
    refine EL.val (fa_23_0 rfl) rfl ?_
    refine EL.val (ld_3 rfl (qa15.at (j := 0) rfl)) rfl ?_
    refine EL.val (fa_23_1 rfl) rfl ?_
    refine EL.val (ld_3 rfl (qa16.at (j := 1) rfl)) rfl ?_
    refine EL.val (x_sub rfl rfl w1_) rfl ?_
    refine EL.val (mm_max rfl rfl rfl) rfl ?_
    refine EL.val (fa_23_1 rfl) rfl ?_
    refine EL.val (ld_3 rfl (qa15.at (j := 1) rfl)) rfl ?_
    refine EL.val (fa_23_0 rfl) rfl ?_
    refine EL.val (ld_3 rfl (qa16.at (j := 0) rfl)) rfl ?_
    refine EL.val (x_sub rfl rfl w2_) rfl ?_
    refine EL.val (mm_max rfl rfl rfl) rfl ?_
    refine EL.val (bd_23_0_1 rfl rfl) rfl ?_
    refine EL.store rfl rfl q2 sz_23 rfl rfl rfl rfl ?_
    intro w8 hq8 hg8
    replace q1 := q1.grown hg8 (fun h => n1_2 (Option.some.inj h))
    replace qa15 := qa15.grown hg8 (fun h => n2_4.symm (Option.some.inj h))
    replace qa16 := qa16.grown hg8 (fun h => n2_5.symm (Option.some.inj h))
    replace hbw := below_store hbw hg8 bhbw_2
    replace q2 := hq8
    clear hg8 hq8
    refine EL.nil ?_
    refine EX.seq ?_
    refine EC.ret ?_
    exact EX.done (resc1 rfl rfl (lv_23 (q2.at rfl) (q2.at rfl))) ⟨by subst ef; subst ex; rfl, hbw⟩
end Go.Proofs.Ytncnlhkmdljgpaa
