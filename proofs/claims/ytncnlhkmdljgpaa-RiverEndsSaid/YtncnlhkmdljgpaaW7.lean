/- River: the laws' helpers forecast, copied, equal (printed by gen_w7.py). -/
import Derived.Test.YtncnlhkmdljgpaaW5
import Derived.Test.YtncnlhkmdljgpaaV13
set_option linter.unusedVariables false
namespace Go.Proofs.Ytncnlhkmdljgpaa
open Go Go.RowKit

/-- a row that has come into a new element; the append's own world -/
theorem Rows.push0 {W w' : World} {base e osize n tb size : Nat} {vf v' l : Value} {outer outer' : List Value} {fs : List Value} {F : List (Nat × List Value)} (h : Rows W base e osize vf n outer tb size fs F) {m : Nat} {cells : List Value} (hl : W.ownsRow base tb size l m cells) (ha : Apart vf l)
    (hown : w'.ownsRow base e osize v' (n + 1) outer') (hg : W.grownBy w' vf.ownBlock) (hat : v'.ownBlock = vf.ownBlock ∨ v'.ownBlock = some W.heap.size) :
    Rows w' base e osize v' (n + 1) outer' tb size (fs ++ [l]) (F ++ [(m, cells)]) := by
  have key : ∀ {u : Value} {k : Nat} {ys : List Value}, W.ownsRow base tb size u k ys → Apart vf u → Apart v' u := fun hu hvu g h1 h2 => by
    rcases hat with h3 | h3
    · exact hvu g (h3 ▸ h1) h2
    · rw [h3] at h1; injection h1 with h1; have := (hu.lt g h2).2; omega
  refine ⟨hown, by simp [h.len], fun i hi => ?_, fun i hi => ?_⟩
  · rw [getD_snoc, getD_snoc, h.len]
    by_cases h1 : i < F.length
    · rw [if_pos h1, if_pos h1]
      exact own_apart (h.each i h1) hg (h.apart i h1)
    · have h2 : i = F.length := by simp at hi; omega
      rw [if_neg h1, if_neg h1, if_pos h2, if_pos h2]
      exact own_apart hl hg ha
  · rw [getD_snoc, h.len]
    by_cases h1 : i < F.length
    · rw [if_pos h1]
      exact key (h.each i h1) (h.apart i h1)
    · have h2 : i = F.length := by simp at hi; omega
      rw [if_neg h1, if_pos h2]
      exact key hl ha
theorem rowsB_take {l : List (List Bd)} {i : Nat} (hi : i < l.length) : rowsB (l.take (i + 1)) = rowsB (l.take i) ++ [((l.getD i []).length, bdsC (l.getD i []))] := by
  rw [List.take_succ_eq_append_getElem hi]
  unfold rowsB
  rw [List.map_append]
  simp [hi]
/-- a new row is apart from what was there -/
theorem apart_fresh {w : World} {base e size n : Nat} {vf l : Value} {xs : List Value} (h : w.ownsRow base e size vf n xs) (hl : ∀ g, l.ownBlock = some g → w.heap.size ≤ g) : Apart vf l := fun g h1 h2 => by
  have := (h.lt g h1).2
  have := hl g h2
  omega

theorem forecast_own (l : List (List Bd)) (v : Value) (ss : List Value) (w : World) (B : Nat) (hs : RdSides w B v l ss) (hB : B ≤ w.heap.size) (hl : l.length ≤ 1048575) (hsb : ∀ i, i < l.length → (l.getD i []).length ≤ 1048576) :
    Calls Try.prog 34 #[v] w fun e w' => (∃ v' fs b1, e = .returned v' ∧ w.heap.size ≤ b1 ∧ Rows w' b1 28 1 v' l.length fs 23 2 fs (rowsB l)) ∧ Below w.heap.size w w' := by
  obtain ⟨A, c, rfl, _⟩ := hs.rd.shape
  have hbw := Below.refl w.heap.size w
  refine EC.enter 22 Try.func34 rfl rfl rfl ?_
  refine EC.seq ?_
  refine EC.region ?_
  refine EL.val (x_assign rfl) rfl ?_
  refine EL.nil ?_
  refine EX.seq ?_
  refine EC.seq ?_
  refine EC.region ?_
  have st1_hbw := hbw.size
  refine EL.newS bs_52_0 rfl ?_
  intro g2 w2 q2 hb2 hg2 hl2
  have bhbw_2 := Nat.le_trans hbw.size hg2
  replace hbw := Below.on hbw hb2 hbw.size
  clear hb2 hl2
  refine EL.val (x_assign rfl) rfl ?_
  refine EL.nil ?_
  refine EX.seq ?_
  refine EC.seq ?_
  refine EC.seq ?_
  refine EC.region ?_
  refine EL.val (x_assign rfl) rfl ?_
  refine EL.nil ?_
  refine EX.seq ?_
  refine EC.block ?_
  have hge0 : w.heap.size ≤ g2 := hg2
  refine EC.loopD [3, 4, 6, 7, 8, 9, 10, 11, 12, 13, 14, 15, 16, 17, 18, 19, 20] (fun x : Nat × Value × List Value => [(4, .int .i64 (x.1 : Nat)), (3, x.2.1)]) (fun x W => x.1 ≤ l.length ∧ Rows W w.heap.size 28 1 x.2.1 x.1 x.2.2 23 2 x.2.2 (rowsB (l.take x.1)) ∧ Below w.heap.size w W) (fun x => l.length - x.1) (0, _, []) ⟨Nat.zero_le _, Rows.start (own_empty 1 q2 hge0), hbw⟩ ⟨rfl, rfl, trivial⟩ ?_
  rintro ⟨i, vo, fs⟩ wr ⟨hi, hR, hbw⟩
  simp only at hi hR
  by_cases hlt : i < l.length
  ·
    have hbr := Below.refl wr.heap.size wr
    obtain ⟨b, o, rfl, _, c0⟩ := sides_cell hs i hlt
    have hside := hs.side i hlt
    obtain ⟨As, cs, es, _⟩ := hside.shape
    rw [es] at c0 hside
    have hlen := hsb i hlt
    refine EC.seq ?_
    refine EC.seq ?_
    refine EC.region ?_
    refine EL.val (x_move rfl) rfl ?_
    refine EL.val (x_move rfl) rfl ?_
    refine EL.val (ln_52 rfl) rfl ?_
    refine EL.val (x_lss rfl rfl (by first | assumption | exact decide_eq_true (by omega))) rfl ?_
    refine EL.nil ?_
    refine EX.seq ?_
    refine EC.yes rfl ?_
    refine EC.skip ?_
    refine EX.seq ?_
    refine EC.seq ?_
    refine EC.block ?_
    refine EC.region ?_
    refine EL.val (x_move rfl) rfl ?_
    have st3_hbw := hbw.size
    have st3_hbr := hbr.size
    refine EL.newS bs_28_0 rfl ?_
    intro g4 w4 q4 hb4 hg4 hl4
    have bhbw_4 := Nat.le_trans hbw.size hg4
    have bhbr_4 := Nat.le_trans hbr.size hg4
    replace hbw := Below.on hbw hb4 hbw.size
    replace hbr := Below.on hbr hb4 hbr.size
    clear hb4 hl4
    refine EL.val (x_move rfl) rfl ?_
    refine EL.val (x_move rfl) rfl ?_
    refine EL.val (ix_52 rfl rfl hlt) rfl ?_
    refine EL.val (ld_28 rfl (below_load hbw c0)) rfl ?_
    have oin := own_empty (base := wr.heap.size) 2 q4 hg4
    refine EL.push bds_elem rfl rfl oin (hside.below (hbw.mono hB)) (bdsC_one _) (by omega) rfl (Nat.le_trans hg4 (Nat.le_of_lt q4.lt)) rfl ?_
    intro vi w5 hoi hgr5 hb5 _
    rw [Nat.zero_add, List.nil_append] at hoi
    replace hbw := hbw.trans (hb5.mono st3_hbw)
    replace hbr := hbr.trans (hb5.mono st3_hbr)
    have hvi := fun g (h : vi.ownBlock = some g) => (hoi.lt g h).1
    obtain ⟨Ai, ci, ei, _⟩ := (Rd.of_own hoi).shape
    subst ei
    refine EL.newS (bs_52_1 rfl) rfl ?_
    intro g6 w6 q6 hb6 hg6 hl6
    have bhbw_6 := Nat.le_trans hbw.size hg6
    have bhbr_6 := Nat.le_trans hbr.size hg6
    replace hoi := own_below hoi hb6 (Nat.le_refl _)
    replace hbw := Below.on hbw hb6 hbw.size
    replace hbr := Below.on hbr hb6 hbr.size
    clear hb6 hg6 hl6
    have hR2 := hR.below hbr
    have hoi2 := own_less hoi st3_hbw
    have hap := apart_fresh hR.own hvi
    refine EL.push lists_elem rfl rfl hR2.own (rd_one (l := [.slice Ai (l.getD i []).length ci]) q6 rfl) (by simp [Value.oneCell']) (by omega) rfl hbw.size rfl ?_
    intro v' w7 ho2 hgr7 hb7 hat7
    have hR3 := hR2.push0 hoi2 hap ho2 hgr7 hat7
    replace hbw := hbw.trans hb7
    refine EL.val (x_assign rfl) rfl ?_
    refine EL.nil ?_
    refine EX.blk ?_
    refine EX.seq ?_
    refine EC.region ?_
    refine EL.val (x_move rfl) rfl ?_
    refine EL.val (x_add rfl rfl (by first | assumption | exact IntWalk.i64_in _ ⟨by omega, by omega⟩)) rfl ?_
    refine EL.val (x_assign rfl) rfl ?_
    refine EL.nil ?_
    refine EX.roundD (i + 1, v', fs ++ [_]) ⟨rfl, rfl, trivial⟩ (by repeat first | exact Sub.refl _ | refine sub_past rfl ?_ | refine sub_del rfl ?_ | refine sub_insL_nil ?_) ⟨hlt, by rw [rowsB_take hlt]; exact hR3, hbw⟩ (by simp only; omega)
  ·
    obtain rfl : i = l.length := by omega
    refine EC.seq ?_
    refine EC.seq ?_
    refine EC.region ?_
    refine EL.val (x_move rfl) rfl ?_
    refine EL.val (x_move rfl) rfl ?_
    refine EL.val (ln_52 rfl) rfl ?_
    refine EL.val (x_lss rfl rfl (by first | assumption | exact decide_eq_false (by omega))) rfl ?_
    refine EL.nil ?_
    refine EX.seq ?_
    refine EC.no rfl ?_
    refine EC.exit ?_
    refine EX.seq_exit ?_
    refine EX.seq_exit ?_
    refine EX.blk_here ?_
    refine EX.seq ?_
    refine EC.seq ?_
    refine EC.region ?_
    refine EL.val (x_move rfl) rfl ?_
    refine EL.val (x_assign rfl) rfl ?_
    refine EL.nil ?_
    refine EX.seq ?_
    refine EC.ret ?_
    rw [List.take_length] at hR
    exact EX.done (res1 rfl rfl) ⟨⟨_, _, _, rfl, Nat.le_refl _, hR⟩, hbw⟩
theorem forecast_any (l : List (List Bd)) (v : Value) (ss : List Value) (w : World) (B : Nat) (hs : RdSides w B v l ss) (hB : B ≤ w.heap.size) (hl : l.length ≤ 1048575) (hsb : ∀ i, i < l.length → (l.getD i []).length ≤ 1048576) :
    Calls Try.prog 34 #[v] w fun e w' => (∃ v' fs, e = .returned v' ∧ RdSides w' w'.heap.size v' l fs) ∧ Below w.heap.size w w' :=
  (forecast_own l v ss w B hs hB hl hsb).mono fun _ _ ⟨⟨v', fs, _, h1, _, h2⟩, h3⟩ => ⟨⟨v', fs, h1, h2.sides⟩, h3⟩

def rowsR (l : List Reach) : List (Nat × List Value) := l.map fun x => (x.curve.length, rowsC x.curve)
theorem rowsR_take {l : List Reach} {i : Nat} (hi : i < l.length) : rowsR (l.take (i + 1)) = rowsR (l.take i) ++ [((l.getD i reach0).curve.length, rowsC (l.getD i reach0).curve)] := by
  rw [List.take_succ_eq_append_getElem hi]
  unfold rowsR
  rw [List.map_append]
  simp [hi]
theorem rowsR_len (l : List Reach) : (rowsR l).length = l.length := by simp [rowsR]
theorem rowsR_at (l : List Reach) (i : Nat) (hi : i < l.length) : (rowsR l).getD i (0, []) = ((l.getD i reach0).curve.length, rowsC (l.getD i reach0).curve) := by
  simp [rowsR, hi]
theorem zip_take {l : List Reach} {fs : List Value} {v : Value} {i : Nat} (hi : i < l.length) (hf : fs.length = i) : ((l.take (i + 1)).zip (fs ++ [v])).flatMap reachC = ((l.take i).zip fs).flatMap reachC ++ reachC (l.getD i reach0, v) := by
  rw [List.take_succ_eq_append_getElem hi, List.zip_append (by simp; omega)]
  simp [hi]
theorem Rows.reaches {w : World} {base e tb : Nat} {vf : Value} {fs : List Value} {l : List Reach} (h : Rows w base e 9 vf l.length ((l.zip fs).flatMap reachC) tb 2 fs (rowsR l)) : RdReaches w w.heap.size vf l fs :=
  ⟨by rw [h.len, rowsR_len], Rd.of_own h.own, fun i hi => by
    have := Rd.of_own (h.each i (by rw [rowsR_len]; exact hi))
    rw [rowsR_at l i hi] at this
    exact this⟩
theorem reach_info : (Try.prog.info? 50).map (fun i => (i.zero, i.size, i.bytes)) = some (some (.agg #[.int .i64 0, .int .i64 0, .int .i64 0, .int .i64 0, .slice none 0 0, .int .i64 0, .int .i64 0, .int .i64 0, .int .i64 0]), 9, 88) := by kernel_rfl
theorem reach_elem : Elem Try.prog 44 50 9 88 := Elem.mk' Try.underlying44 reach_info rfl (by omega)
theorem row_info : (Try.prog.info? 126).map (fun i => (i.zero, i.size, i.bytes)) = some (some (.agg #[.int .i64 0, .int .i64 0]), 2, 16) := by kernel_rfl
theorem row_elem : Elem Try.prog 48 126 2 16 := Elem.mk' Try.underlying48 row_info rfl (by omega)

theorem Rows.keepB {w w' : World} {base e osize n tb size C : Nat} {vf : Value} {outer : List Value} {fs : List Value} {F : List (Nat × List Value)} (h : Rows w base e osize vf n outer tb size fs F) (hb : Below C w w') (h1 : ∀ g, vf.ownBlock = some g → g < C) (h2 : ∀ j, j < F.length → ∀ g, (fs.getD j undef).ownBlock = some g → g < C) : Rows w' base e osize vf n outer tb size fs F := by
  have key : ∀ {u : Value} {b t s k : Nat} {ys : List Value}, w.ownsRow b t s u k ys → (∀ g, u.ownBlock = some g → g < C) → w'.ownsRow b t s u k ys := fun hu hlt => by
    obtain ⟨hl, ⟨rfl, rfl⟩ | ⟨g, cap, cur, rfl, hbg, hg, r⟩⟩ := hu
    · exact ⟨hl, .inl ⟨rfl, rfl⟩⟩
    · exact ⟨hl, .inr ⟨g, cap, cur, rfl, hbg, by rw [hb.block g (hlt g rfl)]; exact hg, r⟩⟩
  exact ⟨key h.own h1, h.len, fun i hi => key (h.each i hi) (h2 i hi), h.apart⟩
theorem copied_own (r : River) (v u : Value) (vs : List Value) (w : World) (B : Nat) (hr : RdRiver w B v u r vs) (hB : B ≤ w.heap.size) (hl : r.reaches.length ≤ 1048575) (hl2 : r.shoals.length ≤ 1048576) (hcl : ∀ i, i < r.reaches.length → (r.reaches.getD i reach0).curve.length ≤ 1048576) :
    Calls Try.prog 24 #[.agg #[v, u]] w fun e w' => (∃ v' u' vs' b1 b2, e = .returned (.agg #[v', u']) ∧ w.heap.size ≤ b1 ∧ w.heap.size ≤ b2 ∧ Rows w' b1 50 9 v' r.reaches.length ((r.reaches.zip vs').flatMap reachC) 126 2 vs' (rowsR r.reaches) ∧ w'.ownsRow b2 97 6 u' r.shoals.length (shoalsC r.shoals)) ∧ Below w.heap.size w w' := by
  obtain ⟨A, c, rfl, _⟩ := hr.reaches.shape
  obtain ⟨A', c', rfl, _⟩ := hr.shoals.shape
  have hbw := Below.refl w.heap.size w
  refine EC.enter 34 Try.func24 rfl rfl rfl ?_
  refine EC.seq ?_
  refine EC.region ?_
  refine EL.newP (bx_47 rfl) rfl ?_
  intro g1 w1 q1 hb1 hg1 hl1
  have bhbw_1 := Nat.le_trans hbw.size hg1
  replace hbw := Below.on hbw hb1 hbw.size
  clear hb1 hg1 hl1
  refine EL.newP al_47 rfl ?_
  intro g2 w2 q2 hb2 hg2 hl2
  have n1_2 : g1 ≠ g2 := Nat.ne_of_lt (Nat.lt_of_lt_of_le q1.lt hg2)
  have bhbw_2 := Nat.le_trans hbw.size hg2
  replace q1 := q1.below hb2 q1.lt
  replace hbw := Below.on hbw hb2 hbw.size
  clear hb2 hg2 hl2
  refine EL.nil ?_
  refine EX.seq ?_
  refine EC.seq ?_
  refine EC.region ?_
  have st3_hbw := hbw.size
  have lt3_1 := q1.lt
  have lt3_2 := q2.lt
  refine EL.newS bs_44_0 rfl ?_
  intro g4 w4 q4 hb4 hg4 hl4
  have n1_4 : g1 ≠ g4 := Nat.ne_of_lt (Nat.lt_of_lt_of_le q1.lt hg4)
  have n2_4 : g2 ≠ g4 := Nat.ne_of_lt (Nat.lt_of_lt_of_le q2.lt hg4)
  have bhbw_4 := Nat.le_trans hbw.size hg4
  replace q1 := q1.below hb4 q1.lt
  replace q2 := q2.below hb4 q2.lt
  replace hbw := Below.on hbw hb4 hbw.size
  clear hb4 hl4
  refine EL.val (x_assign rfl) rfl ?_
  refine EL.nil ?_
  refine EX.seq ?_
  refine EC.seq ?_
  refine EC.seq ?_
  refine EC.region ?_
  refine EL.val (x_assign rfl) rfl ?_
  refine EL.nil ?_
  refine EX.seq ?_
  refine EC.block ?_
  refine EC.loopD [3, 4, 5, 7, 8, 9, 10, 11, 12, 13, 14, 15, 16, 17, 18, 19, 20, 21, 22, 23, 24, 25, 26, 27] (fun x : Nat × Value × List Value => [(4, .int .i64 (x.1 : Nat)), (3, x.2.1)]) (fun x W => x.1 ≤ r.reaches.length ∧ x.2.2.length = x.1 ∧ Rows W w2.heap.size 50 9 x.2.1 x.1 (((r.reaches.take x.1).zip x.2.2).flatMap reachC) 126 2 x.2.2 (rowsR (r.reaches.take x.1)) ∧ Blk W g1 47 #[.slice A r.reaches.length c, .slice A' r.shoals.length c'] ∧ Blk W g2 47 #[.slice none 0 0, .slice none 0 0] ∧ w2.heap.size ≤ W.heap.size ∧ Below w.heap.size w W) (fun x => r.reaches.length - x.1) (0, _, []) ⟨Nat.zero_le _, rfl, Rows.start (own_empty 9 q4 hg4), q1, q2, Nat.le_trans hg4 (Nat.le_of_lt q4.lt), hbw⟩ ⟨rfl, rfl, trivial⟩ ?_
  clear q1 q2 hbw
  rintro ⟨i, vo, fs⟩ wr ⟨hi, hfl, hR, q1, q2, hbo, hbw⟩
  simp only at hi hR hfl
  by_cases hlt : i < r.reaches.length
  ·
    have hbr := Below.refl wr.heap.size wr
    obtain ⟨b, o, rfl, _, cc⟩ := reaches_cells hr.reaches i hlt
    have hcv := hr.reaches.curve i hlt
    obtain ⟨As, cs, es, _⟩ := hcv.shape
    rw [es] at hcv cc
    have hlen := hcl i hlt
    refine EC.seq ?_
    refine EC.seq ?_
    refine EC.region ?_
    refine EL.val (x_move rfl) rfl ?_
    refine EL.val (fa_47_0 rfl) rfl ?_
    refine EL.val (ld_44 rfl (q1.at (j := 0) rfl)) rfl ?_
    refine EL.val (ln_44 rfl) rfl ?_
    refine EL.val (x_lss rfl rfl (by first | assumption | exact decide_eq_true (by omega))) rfl ?_
    refine EL.nil ?_
    refine EX.seq ?_
    refine EC.yes rfl ?_
    refine EC.skip ?_
    refine EX.seq ?_
    refine EC.seq ?_
    refine EC.block ?_
    refine EC.seq ?_
    refine EC.region ?_
    refine EL.val (fa_47_0 rfl) rfl ?_
    refine EL.val (ld_44 rfl (q1.at (j := 0) rfl)) rfl ?_
    refine EL.val (x_move rfl) rfl ?_
    refine EL.val (ix_44 rfl rfl hlt) rfl ?_
    refine EL.val (ld_50 rfl (below_load hbw cc.c0) (below_load hbw cc.c1) (below_load hbw cc.c2) (below_load hbw cc.c3) (below_load hbw cc.c4) (below_load hbw cc.c5) (below_load hbw cc.c6) (below_load hbw cc.c7) (below_load hbw cc.c8)) rfl ?_
    refine EL.newP al_50 rfl ?_
    intro g5 w5 q5 hb5 hg5 hl5
    have n1_5 : g1 ≠ g5 := Nat.ne_of_lt (Nat.lt_of_lt_of_le q1.lt hg5)
    have n2_5 : g2 ≠ g5 := Nat.ne_of_lt (Nat.lt_of_lt_of_le q2.lt hg5)
    have bhbw_5 := Nat.le_trans hbw.size hg5
    have bhbr_5 := Nat.le_trans hbr.size hg5
    replace q1 := q1.below hb5 q1.lt
    replace q2 := q2.below hb5 q2.lt
    replace hbw := Below.on hbw hb5 hbw.size
    replace hbr := Below.on hbr hb5 hbr.size
    clear hb5 hg5 hl5
    refine EL.store rfl rfl q5 sz_50 rfl rfl rfl rfl ?_
    intro w6 hq6 hg6
    replace q1 := q1.grown hg6 (fun h => n1_5 (Option.some.inj h))
    replace q2 := q2.grown hg6 (fun h => n2_5 (Option.some.inj h))
    replace hbw := below_store hbw hg6 bhbw_5
    replace hbr := below_store hbr hg6 bhbr_5
    replace q5 := hq6
    clear hg6 hq6
    refine EL.nil ?_
    refine EX.seq ?_
    refine EC.seq ?_
    refine EC.region ?_
    have st7_hbw := hbw.size
    have st7_hbr := hbr.size
    have lt7_1 := q1.lt
    have lt7_2 := q2.lt
    have lt7_5 := q5.lt
    refine EL.newS bs_48_0 rfl ?_
    intro g8 w8 q8 hb8 hg8 hl8
    have n1_8 : g1 ≠ g8 := Nat.ne_of_lt (Nat.lt_of_lt_of_le q1.lt hg8)
    have n2_8 : g2 ≠ g8 := Nat.ne_of_lt (Nat.lt_of_lt_of_le q2.lt hg8)
    have n5_8 : g5 ≠ g8 := Nat.ne_of_lt (Nat.lt_of_lt_of_le q5.lt hg8)
    have bhbw_8 := Nat.le_trans hbw.size hg8
    have bhbr_8 := Nat.le_trans hbr.size hg8
    replace q1 := q1.below hb8 q1.lt
    replace q2 := q2.below hb8 q2.lt
    replace q5 := q5.below hb8 q5.lt
    replace hbw := Below.on hbw hb8 hbw.size
    replace hbr := Below.on hbr hb8 hbr.size
    clear hb8 hl8
    refine EL.val (fa_50_3 rfl) rfl ?_
    refine EL.val (ld_48 rfl (q5.at (j := 4) rfl)) rfl ?_
    have oin := own_empty (base := w6.heap.size) 2 q8 hg8
    refine EL.push row_elem rfl rfl oin (hcv.below (hbw.mono hB)) (rowsC_one _) (by omega) rfl (Nat.le_trans hg8 (Nat.le_of_lt q8.lt)) rfl ?_
    intro vi w9 hoi hgr9 hb9 _
    rw [Nat.zero_add, List.nil_append] at hoi
    replace q1 := q1.below hb9 lt7_1
    replace q2 := q2.below hb9 lt7_2
    replace q5 := q5.below hb9 lt7_5
    replace hbw := hbw.trans (hb9.mono st7_hbw)
    replace hbr := hbr.trans (hb9.mono st7_hbr)
    have hvi := fun g (h : vi.ownBlock = some g) => (hoi.lt g h).1
    obtain ⟨Ai, ci, ei, _⟩ := (Rd.of_own hoi).shape
    subst ei
    refine EL.val (fa_50_3 rfl) rfl ?_
    refine EL.store rfl rfl q5 sz_48 rfl rfl rfl rfl ?_
    intro w10 hq10 hg10
    replace q1 := q1.grown hg10 (fun h => n1_5 (Option.some.inj h))
    replace q2 := q2.grown hg10 (fun h => n2_5 (Option.some.inj h))
    replace hoi := own_far hoi hg10 lt7_5
    replace hbw := below_store hbw hg10 bhbw_5
    replace hbr := below_store hbr hg10 bhbr_5
    replace q5 := hq10
    clear hg10 hq10
    refine EL.nil ?_
    refine EX.seq ?_
    refine EC.region ?_
    refine EL.val (x_move rfl) rfl ?_
    refine EL.val (ld_50 rfl (q5.at (j := 0) rfl) (q5.at (j := 1) rfl) (q5.at (j := 2) rfl) (q5.at (j := 3) rfl) (q5.at (j := 4) rfl) (q5.at (j := 5) rfl) (q5.at (j := 6) rfl) (q5.at (j := 7) rfl) (q5.at (j := 8) rfl)) rfl ?_
    refine EL.newS (bs_44_1 rfl) rfl ?_
    intro g11 w11 q11 hb11 hg11 hl11
    have n1_11 : g1 ≠ g11 := Nat.ne_of_lt (Nat.lt_of_lt_of_le q1.lt hg11)
    have n2_11 : g2 ≠ g11 := Nat.ne_of_lt (Nat.lt_of_lt_of_le q2.lt hg11)
    have n5_11 : g5 ≠ g11 := Nat.ne_of_lt (Nat.lt_of_lt_of_le q5.lt hg11)
    have bhbw_11 := Nat.le_trans hbw.size hg11
    have bhbr_11 := Nat.le_trans hbr.size hg11
    replace q1 := q1.below hb11 q1.lt
    replace q2 := q2.below hb11 q2.lt
    replace q5 := q5.below hb11 q5.lt
    replace hoi := own_below hoi hb11 (Nat.le_refl _)
    replace hbw := Below.on hbw hb11 hbw.size
    replace hbr := Below.on hbr hb11 hbr.size
    clear hb11 hg11 hl11
    have hR2 := hR.below hbr
    have hoi2 := own_less hoi (Nat.le_trans hbo st7_hbr)
    have hap := apart_fresh hR.own (fun g h => Nat.le_trans st7_hbr (hvi g h))
    refine EL.push reach_elem rfl rfl hR2.own (rd_one (l := reachC (r.reaches.getD i reach0, .slice Ai (r.reaches.getD i reach0).curve.length ci)) q11 rfl) (by simp [reachC, Value.oneCell']) (by omega) rfl (Nat.le_trans hbo hbr.size) rfl ?_
    intro v' w12 ho2 hgr12 hb12 hat12
    have hR3 := hR2.push0 hoi2 hap ho2 hgr12 hat12
    have hbo2 := Nat.le_trans (Nat.le_trans hbo hbr.size) hb12.size
    replace hbw := hbw.trans (hb12.mono st3_hbw)
    replace q1 := q1.below hb12 lt3_1
    replace q2 := q2.below hb12 lt3_2
    refine EL.val (x_assign rfl) rfl ?_
    refine EL.nil ?_
    refine EX.blk ?_
    refine EX.seq ?_
    refine EC.region ?_
    refine EL.val (x_move rfl) rfl ?_
    refine EL.val (x_add rfl rfl (by first | assumption | exact IntWalk.i64_in _ ⟨by omega, by omega⟩)) rfl ?_
    refine EL.val (x_assign rfl) rfl ?_
    refine EL.nil ?_
    refine EX.roundD (i + 1, v', fs ++ [_]) ⟨rfl, rfl, trivial⟩ (by repeat first | exact Sub.refl _ | refine sub_past rfl ?_ | refine sub_del rfl ?_ | refine sub_insL_nil ?_) ⟨hlt, by simp [hfl], by rw [rowsR_take hlt, zip_take hlt hfl]; exact hR3, q1, q2, hbo2, hbw⟩ (by simp only; omega)
  ·
    have hbr := Below.refl wr.heap.size wr
    obtain rfl : i = r.reaches.length := by omega
    rw [List.take_length] at hR
    obtain ⟨Ao, co, eo, _⟩ := (Rd.of_own hR.own).shape
    subst eo
    have hR0 := hR
    refine EC.seq ?_
    refine EC.seq ?_
    refine EC.region ?_
    refine EL.val (x_move rfl) rfl ?_
    refine EL.val (fa_47_0 rfl) rfl ?_
    refine EL.val (ld_44 rfl (q1.at (j := 0) rfl)) rfl ?_
    refine EL.val (ln_44 rfl) rfl ?_
    refine EL.val (x_lss rfl rfl (by first | assumption | exact decide_eq_false (by omega))) rfl ?_
    refine EL.nil ?_
    refine EX.seq ?_
    refine EC.no rfl ?_
    refine EC.exit ?_
    refine EX.seq_exit ?_
    refine EX.seq_exit ?_
    refine EX.blk_here ?_
    refine EX.seq ?_
    refine EC.seq ?_
    refine EC.region ?_
    refine EL.val (x_move rfl) rfl ?_
    have st13_hbw := hbw.size
    have st13_hbr := hbr.size
    have lt13_1 := q1.lt
    have lt13_2 := q2.lt
    refine EL.newS bs_45_0 rfl ?_
    intro g14 w14 q14 hb14 hg14 hl14
    have n1_14 : g1 ≠ g14 := Nat.ne_of_lt (Nat.lt_of_lt_of_le q1.lt hg14)
    have n2_14 : g2 ≠ g14 := Nat.ne_of_lt (Nat.lt_of_lt_of_le q2.lt hg14)
    have bhbw_14 := Nat.le_trans hbw.size hg14
    have bhbr_14 := Nat.le_trans hbr.size hg14
    replace q1 := q1.below hb14 q1.lt
    replace q2 := q2.below hb14 q2.lt
    replace hR := hR.below hb14
    replace hbw := Below.on hbw hb14 hbw.size
    replace hbr := Below.on hbr hb14 hbr.size
    clear hb14 hl14
    refine EL.val (fa_47_1 rfl) rfl ?_
    refine EL.val (ld_45 rfl (q1.at (j := 1) rfl)) rfl ?_
    have oin := own_empty (base := wr.heap.size) 6 q14 hg14
    have hR2 := hR
    refine EL.push shoal_elem rfl rfl oin (hr.shoals.below (hbw.mono hB)) (shoalsC_one _) (by omega) rfl (Nat.le_trans hg14 (Nat.le_of_lt q14.lt)) rfl ?_
    intro vi w15 hoi hgr15 hb15 _
    rw [Nat.zero_add, List.nil_append] at hoi
    replace hR := hR.keepB hb15 (fun g h => Nat.lt_of_lt_of_le ((hR0.own.lt g h).2) st13_hbr) (fun j hj g h => Nat.lt_of_lt_of_le ((hR0.each j hj).lt g h).2 st13_hbr)
    replace q1 := q1.below hb15 lt13_1
    replace q2 := q2.below hb15 lt13_2
    replace hbw := hbw.trans (hb15.mono st13_hbw)
    replace hbr := hbr.trans (hb15.mono st13_hbr)
    obtain ⟨Ai, ci, ei, _⟩ := (Rd.of_own hoi).shape
    subst ei
    refine EL.val (bd_47_0_1 rfl rfl) rfl ?_
    refine EL.store rfl rfl q2 sz_47 rfl rfl rfl rfl ?_
    intro w16 hq16 hg16
    replace q1 := q1.grown hg16 (fun h => n1_2 (Option.some.inj h))
    replace hR := hR.far hg16 lt3_2
    replace hoi := own_far hoi hg16 lt13_2
    replace hbw := below_store hbw hg16 bhbw_2
    clear hbr
    replace q2 := hq16
    clear hg16 hq16
    refine EL.nil ?_
    refine EX.seq ?_
    refine EC.ret ?_
    exact EX.done (resc1 rfl rfl (lv_47 (q2.at rfl) (q2.at rfl))) ⟨⟨_, _, _, _, _, rfl, st3_hbw, st13_hbw, hR, hoi⟩, hbw⟩
theorem copied_any (r : River) (v u : Value) (vs : List Value) (w : World) (B : Nat) (hr : RdRiver w B v u r vs) (hB : B ≤ w.heap.size) (hl : r.reaches.length ≤ 1048575) (hl2 : r.shoals.length ≤ 1048576) (hcl : ∀ i, i < r.reaches.length → (r.reaches.getD i reach0).curve.length ≤ 1048576) :
    Calls Try.prog 24 #[.agg #[v, u]] w fun e w' => (∃ v' u' vs', e = .returned (.agg #[v', u']) ∧ RdRiver w' w'.heap.size v' u' r vs') ∧ Below w.heap.size w w' :=
  (copied_own r v u vs w B hr hB hl hl2 hcl).mono fun _ _ ⟨⟨v', u', vs', _, _, h1, _, _, h2, h3⟩, h4⟩ => ⟨⟨v', u', vs', h1, h2.reaches, Rd.of_own h3⟩, h4⟩

theorem equal_eq (l : List (List Bd)) (u v : Value) (ss ss2 : List Value) (w : World) (B C : Nat) (hs : RdSides w B u l ss) (hs2 : RdSides w C v l ss2) (hB : B ≤ w.heap.size) (hC : C ≤ w.heap.size) (hl : l.length ≤ 1048576) (hsb : ∀ i, i < l.length → (l.getD i []).length ≤ 1048576) :
    Calls Try.prog 42 #[u, v] w fun e w' => e = .returned (.bool true) ∧ Below w.heap.size w w' := by
  obtain ⟨A, c, rfl, _⟩ := hs.rd.shape
  obtain ⟨A', c', rfl, _⟩ := hs2.rd.shape
  have hbw := Below.refl w.heap.size w
  refine EC.enter 27 Try.func42 rfl rfl rfl ?_
  refine EC.seq ?_
  refine EC.region ?_
  refine EL.val (x_assign rfl) rfl ?_
  refine EL.nil ?_
  refine EX.seq ?_
  refine EC.seq ?_
  refine EC.seq ?_
  refine EC.region ?_
  refine EL.val (x_move rfl) rfl ?_
  refine EL.val (ln_52 rfl) rfl ?_
  refine EL.val (x_move rfl) rfl ?_
  refine EL.val (ln_52 rfl) rfl ?_
  refine EL.val (x_neq rfl rfl (by first | assumption | exact decide_eq_false (by omega))) rfl ?_
  refine EL.nil ?_
  refine EX.seq ?_
  refine EC.no rfl ?_
  refine EC.skip ?_
  refine EX.seq ?_
  refine EC.seq ?_
  refine EC.seq ?_
  refine EC.region ?_
  refine EL.val (x_assign rfl) rfl ?_
  refine EL.nil ?_
  refine EX.seq ?_
  refine EC.block ?_
  refine EC.loopD [4, 5, 11, 12, 13, 14, 15, 16, 17, 18, 19, 20, 21, 22, 23, 24, 25, 26] (fun x : Nat => [(5, .int .i64 (x : Nat))]) (fun x W => x ≤ l.length ∧ Below w.heap.size w W) (fun x => l.length - x) 0 ⟨Nat.zero_le _, hbw⟩ ⟨rfl, trivial⟩ ?_
  clear hbw
  rintro i wr ⟨hi, hbw⟩
  by_cases hlt : i < l.length
  ·
    obtain ⟨b, o, rfl, _, c0⟩ := sides_cell hs i hlt
    obtain ⟨b2, o2, rfl, _, d0⟩ := sides_cell hs2 i hlt
    have h1 := hs.side i hlt
    have h2 := hs2.side i hlt
    have hlen := hsb i hlt
    refine EC.seq ?_
    refine EC.seq ?_
    refine EC.region ?_
    refine EL.val (x_move rfl) rfl ?_
    refine EL.val (x_move rfl) rfl ?_
    refine EL.val (ln_52 rfl) rfl ?_
    refine EL.val (x_lss rfl rfl (by first | assumption | exact decide_eq_true (by omega))) rfl ?_
    refine EL.nil ?_
    refine EX.seq ?_
    refine EC.yes rfl ?_
    refine EC.skip ?_
    refine EX.seq ?_
    refine EC.seq ?_
    refine EC.block ?_
    refine EC.seq ?_
    refine EC.regionQ (by kernel_rfl) (by kernel_rfl) ?_
    refine EQ.val (fun _ hw => (x_move rfl)) rfl ?_
    refine EQ.val (fun _ hw => (x_move rfl)) rfl ?_
    refine EQ.val (fun _ hw => (ix_52 rfl rfl hlt)) rfl ?_
    refine EQ.val (fun _ hw => (ld_28 rfl (below_load hw (below_load hbw c0)))) rfl ?_
    refine EQ.val (fun _ hw => (x_move rfl)) rfl ?_
    refine EQ.val (fun _ hw => (x_move rfl)) rfl ?_
    refine EQ.val (fun _ hw => (ix_52 rfl rfl hlt)) rfl ?_
    refine EQ.val (fun _ hw => (ld_28 rfl (below_load hw (below_load hbw d0)))) rfl ?_
    refine EQ.call (fun _ _ _ ha => cl_19 rfl rfl _ ha) rfl (fun W hw => (same_eq (l.getD i []) _ _ W B C (h1.below ((hbw.trans (hw.mono hbw.size)).mono hB)) (h2.below ((hbw.trans (hw.mono hbw.size)).mono hC)) hlen).mono fun e w' h => ⟨h.1, hw.trans (h.2.mono hw.size)⟩) ?_
    refine EQ.val (fun _ hw => (x_not rfl)) rfl ?_
    refine EQ.fin (fun w_ hw_ => ?_)
    replace hbw := Below.on hbw hw_ hbw.size
    refine EX.seq ?_
    refine EC.no rfl ?_
    refine EC.skip ?_
    refine EX.blk ?_
    refine EX.seq ?_
    refine EC.region ?_
    refine EL.val (x_move rfl) rfl ?_
    refine EL.val (x_add rfl rfl (by first | assumption | exact IntWalk.i64_in _ ⟨by omega, by omega⟩)) rfl ?_
    refine EL.val (x_assign rfl) rfl ?_
    refine EL.nil ?_
    refine EX.roundD (i + 1) ⟨rfl, trivial⟩ (by repeat first | exact Sub.refl _ | refine sub_past rfl ?_ | refine sub_del rfl ?_ | refine sub_insL_nil ?_) ⟨hlt, hbw⟩ (by omega)
  ·
    obtain rfl : i = l.length := by omega
    refine EC.seq ?_
    refine EC.seq ?_
    refine EC.region ?_
    refine EL.val (x_move rfl) rfl ?_
    refine EL.val (x_move rfl) rfl ?_
    refine EL.val (ln_52 rfl) rfl ?_
    refine EL.val (x_lss rfl rfl (by first | assumption | exact decide_eq_false (by omega))) rfl ?_
    refine EL.nil ?_
    refine EX.seq ?_
    refine EC.no rfl ?_
    refine EC.exit ?_
    refine EX.seq_exit ?_
    refine EX.seq_exit ?_
    refine EX.blk_here ?_
    refine EX.seq ?_
    refine EC.seq ?_
    refine EC.region ?_
    refine EL.val (x_assign rfl) rfl ?_
    refine EL.nil ?_
    refine EX.seq ?_
    refine EC.ret ?_
    exact EX.done (res1 rfl rfl) ⟨rfl, hbw⟩

set_option maxRecDepth 100000 in
theorem unchanged_eq (rv : River) (v u v2 u2 : Value) (vs vs2 : List Value) (w : World) (B C : Nat) (hr : RdRiver w B v u rv vs) (hr2 : RdRiver w C v2 u2 rv vs2) (hB : B ≤ w.heap.size) (hC : C ≤ w.heap.size) (hl : rv.reaches.length ≤ 1048576) (hl2 : rv.shoals.length ≤ 1048576) (hcl : ∀ i, i < rv.reaches.length → (rv.reaches.getD i reach0).curve.length ≤ 1048576) :
    Calls Try.prog 27 #[.agg #[v, u], .agg #[v2, u2]] w fun e w' => e = .returned (.bool true) ∧ Below w.heap.size w w' := by
  obtain ⟨A, c, rfl, _⟩ := hr.reaches.shape
  obtain ⟨A', c', rfl, _⟩ := hr.shoals.shape
  obtain ⟨D, d, rfl, _⟩ := hr2.reaches.shape
  obtain ⟨D', d', rfl, _⟩ := hr2.shoals.shape
  have hbw := Below.refl w.heap.size w
  refine EC.enter 128 Try.func27 rfl rfl rfl ?_
  refine EC.seq ?_
  refine EC.region ?_
  refine EL.newP (bx_47 rfl) rfl ?_
  intro g1 w1 q1 hb1 hg1 hl1
  have bhbw_1 := Nat.le_trans hbw.size hg1
  replace hbw := Below.on hbw hb1 hbw.size
  clear hb1 hg1 hl1
  refine EL.newP (bx_47 rfl) rfl ?_
  intro g2 w2 q2 hb2 hg2 hl2
  have n1_2 : g1 ≠ g2 := Nat.ne_of_lt (Nat.lt_of_lt_of_le q1.lt hg2)
  have bhbw_2 := Nat.le_trans hbw.size hg2
  replace q1 := q1.below hb2 q1.lt
  replace hbw := Below.on hbw hb2 hbw.size
  clear hb2 hg2 hl2
  refine EL.val (x_assign rfl) rfl ?_
  refine EL.nil ?_
  refine EX.seq ?_
  refine EC.seq ?_
  refine EC.seq ?_
  refine EC.region ?_
  refine EL.val (fa_47_0 rfl) rfl ?_
  refine EL.val (ld_44 rfl (q1.at (j := 0) rfl)) rfl ?_
  refine EL.val (ln_44 rfl) rfl ?_
  refine EL.val (fa_47_0 rfl) rfl ?_
  refine EL.val (ld_44 rfl (q2.at (j := 0) rfl)) rfl ?_
  refine EL.val (ln_44 rfl) rfl ?_
  refine EL.val (x_neq rfl rfl (by first | assumption | exact decide_eq_false (by omega))) rfl ?_
  refine EL.val (x_move rfl) rfl ?_
  refine EL.valg rfl rfl (fa_47_1 rfl) rfl ?_
  refine EL.valg rfl rfl (ld_45 rfl (q1.at (j := 1) rfl)) rfl ?_
  refine EL.valg rfl rfl (ln_45 rfl) rfl ?_
  refine EL.valg rfl rfl (fa_47_1 rfl) rfl ?_
  refine EL.valg rfl rfl (ld_45 rfl (q2.at (j := 1) rfl)) rfl ?_
  refine EL.valg rfl rfl (ln_45 rfl) rfl ?_
  refine EL.valg rfl rfl (x_neq rfl rfl (by first | assumption | exact decide_eq_false (by omega))) rfl ?_
  refine EL.val (x_pick_f rfl rfl) rfl ?_
  refine EL.nil ?_
  refine EX.seq ?_
  refine EC.no rfl ?_
  refine EC.skip ?_
  refine EX.seq ?_
  refine EC.seq ?_
  refine EC.seq ?_
  refine EC.region ?_
  refine EL.val (x_assign rfl) rfl ?_
  refine EL.nil ?_
  refine EX.seq ?_
  refine EC.block ?_
  refine EC.loopD [4, 5, 6, 7, 8, 26, 27, 28, 29, 30, 31, 32, 33, 34, 35, 36, 37, 38, 39, 40, 41, 42, 43, 44, 45, 46, 47, 48, 49, 50, 51, 52, 53, 54, 55, 56, 57, 58, 59, 60, 61, 62, 63, 64, 65, 66, 67, 68, 69, 70, 71, 72, 73, 74, 75, 76, 77, 78, 79, 80, 81, 82, 83, 84, 85, 86, 87, 88, 89, 90, 91, 92, 93, 94, 95, 96, 97, 98, 99, 100, 101, 102, 103, 104, 105, 106, 107, 108, 109] (fun x : Nat => [(5, .int .i64 (x : Nat))]) (fun x W => x ≤ rv.reaches.length ∧ Blk W g1 47 #[.slice A rv.reaches.length c, .slice A' rv.shoals.length c'] ∧ Blk W g2 47 #[.slice D rv.reaches.length d, .slice D' rv.shoals.length d'] ∧ Below w.heap.size w W) (fun x => rv.reaches.length - x) 0 ⟨Nat.zero_le _, q1, q2, hbw⟩ ⟨rfl, trivial⟩ ?_
  clear q1 q2 hbw
  rintro i wr ⟨hi, q1, q2, hbw⟩
  by_cases hlt : i < rv.reaches.length
  ·
    obtain ⟨b, o, rfl, _, cc⟩ := reaches_cells hr.reaches i hlt
    obtain ⟨b_, o_, rfl, _, dd⟩ := reaches_cells hr2.reaches i hlt
    have h1 := hr.reaches.curve i hlt
    have h2 := hr2.reaches.curve i hlt
    obtain ⟨As, cs, es, _⟩ := h1.shape
    obtain ⟨Ds, ds, fs, _⟩ := h2.shape
    rw [es] at h1 cc
    rw [fs] at h2 dd
    have hlen := hcl i hlt
    obtain ⟨x, ex⟩ : ∃ x, x = rv.reaches.getD i reach0 := ⟨_, rfl⟩
    rw [← ex] at h1 h2 cc dd hlen
    refine EC.seq ?_
    refine EC.seq ?_
    refine EC.region ?_
    refine EL.val (x_move rfl) rfl ?_
    refine EL.val (fa_47_0 rfl) rfl ?_
    refine EL.val (ld_44 rfl (q1.at (j := 0) rfl)) rfl ?_
    refine EL.val (ln_44 rfl) rfl ?_
    refine EL.val (x_lss rfl rfl (by first | assumption | exact decide_eq_true (by omega))) rfl ?_
    refine EL.nil ?_
    refine EX.seq ?_
    refine EC.yes rfl ?_
    refine EC.skip ?_
    refine EX.seq ?_
    refine EC.seq ?_
    refine EC.block ?_
    refine EC.seq ?_
    have lt_1 := q1.lt
    have lt_2 := q2.lt
    refine EC.regionS [[], [0], [], [0, 1, 2], [0, 1, 2, 3], [], [5], [], [5, 6, 7], [5, 6, 7, 8], [], [], [0, 1, 2, 3, 4, 10, 11], [0, 1, 2, 3, 4, 5, 6, 7, 8, 9, 10, 11, 12]] 13 [10, 11] [12] (fun _ w_ => Below wr.heap.size wr w_) (phiS (fun i_ r => match i_ with | 0 => r 0 = .pointer (some ⟨g1, 0, none⟩) | 1 => r 1 = .slice (some ⟨b, o, none⟩) rv.reaches.length c | 2 => r 2 = .int .i64 (i : Nat) | 3 => r 3 = .pointer (some ⟨b, o + i * 9, none⟩) | 4 => r 4 = .agg #[.int .i64 x.len, .int .i64 x.delay, .int .i64 x.base.lo, .int .i64 x.base.hi, .slice As x.curve.length cs, .int .i64 x.weir, .int .i64 x.bottom.lo, .int .i64 x.bottom.hi, .int .i64 x.flood] | 5 => r 5 = .pointer (some ⟨g2, 0, none⟩) | 6 => r 6 = .slice (some ⟨b_, o_, none⟩) rv.reaches.length d | 7 => r 7 = .int .i64 (i : Nat) | 8 => r 8 = .pointer (some ⟨b_, o_ + i * 9, none⟩) | 9 => r 9 = .agg #[.int .i64 x.len, .int .i64 x.delay, .int .i64 x.base.lo, .int .i64 x.base.hi, .slice Ds x.curve.length ds, .int .i64 x.weir, .int .i64 x.bottom.lo, .int .i64 x.bottom.hi, .int .i64 x.flood] | _ => True) [(10, fun fl r w_ => ∃ g_, r 10 = .pointer (some ⟨g_, 0, none⟩) ∧ wr.heap.size ≤ g_ ∧ (fl 12 = false → Blk w_ g_ 50 #[.int .i64 0, .int .i64 0, .int .i64 0, .int .i64 0, .slice none 0 0, .int .i64 0, .int .i64 0, .int .i64 0, .int .i64 0])), (11, fun _ r w_ => ∃ g_, r 11 = .pointer (some ⟨g_, 0, none⟩) ∧ wr.heap.size ≤ g_ ∧ Blk w_ g_ 50 #[.int .i64 0, .int .i64 0, .int .i64 0, .int .i64 0, .slice none 0 0, .int .i64 0, .int .i64 0, .int .i64 0, .int .i64 0]), (12, fun _ r w_ => ∃ g_, r 10 = .pointer (some ⟨g_, 0, none⟩) ∧ Blk w_ g_ 50 #[.int .i64 x.len, .int .i64 x.delay, .int .i64 x.base.lo, .int .i64 x.base.hi, .slice As x.curve.length cs, .int .i64 x.weir, .int .i64 x.bottom.lo, .int .i64 x.bottom.hi, .int .i64 x.flood])]) (by kernel_rfl) rfl rfl (by intro i hi; simp at hi; first | (subst hi; exact ⟨by simp, by omega⟩) | (rcases hi with rfl | rfl | rfl <;> exact ⟨by simp, by omega⟩) | (rcases hi with rfl | rfl <;> exact ⟨by simp, by omega⟩)) (base_below wr) (phiS_cons monoS_alloc (phiS_cons monoS_alloc0 (phiS_cons monoS_store (phiS_nil)))) (fun i_ hi_ hs_ => ?_) (fun i_ hi_ => ?_) ?_
    · match i_, hi_ with
      | 0, _ =>
        intro val fl w1 a hb ha hd hfl
        have ha := ha.sub (Sub.ins (d := 2) (Sub.nil _) rfl)
        exact ss_val ha rfl rfl (fa_47_0 rfl) rfl rfl
      | 1, _ =>
        intro val fl w1 a hb ha hd hfl
        have e0 : val 0 = .pointer (some ⟨g1, 0, none⟩) := hd 0 (memB_mem.1 rfl)
        have ha := ha.sub (Sub.ins (d := 33) (Sub.nil _) (dep_get rfl e0))
        exact ss_val ha rfl rfl (ld_44 rfl ((q1.below hb q1.lt).at (j := 0) rfl)) rfl rfl
      | 2, _ =>
        intro val fl w1 a hb ha hd hfl
        have ha := ha.sub (Sub.ins (d := 5) (Sub.nil _) rfl)
        exact ss_val ha rfl rfl (x_move rfl) rfl rfl
      | 3, _ =>
        intro val fl w1 a hb ha hd hfl
        have e1 : val 1 = .slice (some ⟨b, o, none⟩) rv.reaches.length c := hd 1 (memB_mem.1 rfl)
        have e2 : val 2 = .int .i64 (i : Nat) := hd 2 (memB_mem.1 rfl)
        have ha := ha.sub (Sub.ins (d := 35) (Sub.ins (d := 34) (Sub.nil _) (dep_get rfl e1)) (dep_get rfl e2))
        exact ss_val ha rfl rfl (ix_44 rfl rfl hlt) rfl rfl
      | 4, _ =>
        intro val fl w1 a hb ha hd hfl
        have e3 : val 3 = .pointer (some ⟨b, o + i * 9, none⟩) := hd 3 (memB_mem.1 rfl)
        have ha := ha.sub (Sub.ins (d := 36) (Sub.nil _) (dep_get rfl e3))
        exact ss_val ha rfl rfl (ld_50 rfl (below_load (Below.on hbw hb hbw.size) cc.c0) (below_load (Below.on hbw hb hbw.size) cc.c1) (below_load (Below.on hbw hb hbw.size) cc.c2) (below_load (Below.on hbw hb hbw.size) cc.c3) (below_load (Below.on hbw hb hbw.size) cc.c4) (below_load (Below.on hbw hb hbw.size) cc.c5) (below_load (Below.on hbw hb hbw.size) cc.c6) (below_load (Below.on hbw hb hbw.size) cc.c7) (below_load (Below.on hbw hb hbw.size) cc.c8)) rfl rfl
      | 5, _ =>
        intro val fl w1 a hb ha hd hfl
        have ha := ha.sub (Sub.ins (d := 3) (Sub.nil _) rfl)
        exact ss_val ha rfl rfl (fa_47_0 rfl) rfl rfl
      | 6, _ =>
        intro val fl w1 a hb ha hd hfl
        have e5 : val 5 = .pointer (some ⟨g2, 0, none⟩) := hd 5 (memB_mem.1 rfl)
        have ha := ha.sub (Sub.ins (d := 38) (Sub.nil _) (dep_get rfl e5))
        exact ss_val ha rfl rfl (ld_44 rfl ((q2.below hb q2.lt).at (j := 0) rfl)) rfl rfl
      | 7, _ =>
        intro val fl w1 a hb ha hd hfl
        have ha := ha.sub (Sub.ins (d := 5) (Sub.nil _) rfl)
        exact ss_val ha rfl rfl (x_move rfl) rfl rfl
      | 8, _ =>
        intro val fl w1 a hb ha hd hfl
        have e6 : val 6 = .slice (some ⟨b_, o_, none⟩) rv.reaches.length d := hd 6 (memB_mem.1 rfl)
        have e7 : val 7 = .int .i64 (i : Nat) := hd 7 (memB_mem.1 rfl)
        have ha := ha.sub (Sub.ins (d := 40) (Sub.ins (d := 39) (Sub.nil _) (dep_get rfl e6)) (dep_get rfl e7))
        exact ss_val ha rfl rfl (ix_44 rfl rfl hlt) rfl rfl
      | 9, _ =>
        intro val fl w1 a hb ha hd hfl
        have e8 : val 8 = .pointer (some ⟨b_, o_ + i * 9, none⟩) := hd 8 (memB_mem.1 rfl)
        have ha := ha.sub (Sub.ins (d := 41) (Sub.nil _) (dep_get rfl e8))
        exact ss_val ha rfl rfl (ld_50 rfl (below_load (Below.on hbw hb hbw.size) dd.c0) (below_load (Below.on hbw hb hbw.size) dd.c1) (below_load (Below.on hbw hb hbw.size) dd.c2) (below_load (Below.on hbw hb hbw.size) dd.c3) (below_load (Below.on hbw hb hbw.size) dd.c4) (below_load (Below.on hbw hb hbw.size) dd.c5) (below_load (Below.on hbw hb hbw.size) dd.c6) (below_load (Below.on hbw hb hbw.size) dd.c7) (below_load (Below.on hbw hb hbw.size) dd.c8)) rfl rfl
      | 10, _ =>
        intro val fl w1 a hb ha hd hfl
        have ha := ha.sub (Sub.nil _)
        exact ss_newP ha rfl rfl al_50 (fun g w' hq _ hge => ⟨g, rfl, Nat.le_trans hb.size hge, fun _ => hq⟩)
      | 11, _ =>
        intro val fl w1 a hb ha hd hfl
        have ha := ha.sub (Sub.nil _)
        exact ss_newP ha rfl rfl al_50 (fun g w' hq _ hge => ⟨g, rfl, Nat.le_trans hb.size hge, hq⟩)
      | 12, _ =>
        exact absurd (by simp) hs_
      | k + 13, h => exact absurd h (by omega)
    · simp only [List.mem_singleton] at hi_; subst hi_
      intro val fl w1 a hb hfi ha hd hfl
      obtain ⟨g10_, e10, hg10_, q10_⟩ := hd 10 (memB_mem.1 rfl)
      change val 10 = _ at e10
      have e4 : val 4 = .agg #[.int .i64 x.len, .int .i64 x.delay, .int .i64 x.base.lo, .int .i64 x.base.hi, .slice As x.curve.length cs, .int .i64 x.weir, .int .i64 x.bottom.lo, .int .i64 x.bottom.hi, .int .i64 x.flood] := hd 4 (memB_mem.1 rfl)
      have ha := ha.sub (Sub.ins (d := 37) (Sub.ins (d := 6) (Sub.nil _) (dep_get rfl e10)) (dep_get rfl e4))
      refine ts_store ha rfl rfl rfl (q10_ hfi) sz_50 rfl rfl rfl rfl ?_
      intro w' hq hgr
      refine ⟨undef, rfl, hgr.size, below_store hb hgr hg10_, ⟨g10_, e10, hq⟩, fun j _ hj hn hA => ?_⟩
      exact phiS_cons_st (C := fun j => j ≠ 12 ∧ 12 ∉ clsAt [[], [0], [], [0, 1, 2], [0, 1, 2, 3], [], [5], [], [5, 6, 7], [5, 6, 7, 8], [], [], [0, 1, 2, 3, 4, 10, 11], [0, 1, 2, 3, 4, 5, 6, 7, 8, 9, 10, 11, 12]] j ∧ ∀ p ∈ [10, 11], (p = j ∨ p ∈ clsAt [[], [0], [], [0, 1, 2], [0, 1, 2, 3], [], [5], [], [5, 6, 7], [5, 6, 7, 8], [], [], [0, 1, 2, 3, 4, 10, 11], [0, 1, 2, 3, 4, 5, 6, 7, 8, 9, 10, 11, 12]] j) → ∀ q ∈ [10, 11], (q = 12 ∨ q ∈ clsAt [[], [0], [], [0, 1, 2], [0, 1, 2, 3], [], [5], [], [5, 6, 7], [5, 6, 7, 8], [], [], [0, 1, 2, 3, 4, 10, 11], [0, 1, 2, 3, 4, 5, 6, 7, 8, 9, 10, 11, 12]] 12) → p ≠ q → val p ≠ val q) (fun _ ⟨g, h1, h2, _⟩ => ⟨g, h1, h2, fun h => by rw [fset_eq] at h; cases h⟩) (phiS_cons_st (C := fun j => j ≠ 12 ∧ 12 ∉ clsAt [[], [0], [], [0, 1, 2], [0, 1, 2, 3], [], [5], [], [5, 6, 7], [5, 6, 7, 8], [], [], [0, 1, 2, 3, 4, 10, 11], [0, 1, 2, 3, 4, 5, 6, 7, 8, 9, 10, 11, 12]] j ∧ ∀ p ∈ [10, 11], (p = j ∨ p ∈ clsAt [[], [0], [], [0, 1, 2], [0, 1, 2, 3], [], [5], [], [5, 6, 7], [5, 6, 7, 8], [], [], [0, 1, 2, 3, 4, 10, 11], [0, 1, 2, 3, 4, 5, 6, 7, 8, 9, 10, 11, 12]] j) → ∀ q ∈ [10, 11], (q = 12 ∨ q ∈ clsAt [[], [0], [], [0, 1, 2], [0, 1, 2, 3], [], [5], [], [5, 6, 7], [5, 6, 7, 8], [], [], [0, 1, 2, 3, 4, 10, 11], [0, 1, 2, 3, 4, 5, 6, 7, 8, 9, 10, 11, 12]] 12) → p ≠ q → val p ≠ val q) (fun hc ⟨g, h1, h2, h3⟩ => ⟨g, h1, h2, h3.grown hgr (fun h => hc.2.2 11 (by simp) (.inl rfl) 10 (by simp) (.inr (memB_mem.1 rfl)) (by simp) (by have h1' : val 11 = _ := h1; rw [h1', e10]; injection h with h; rw [h]))⟩) (phiS_cons_st (C := fun j => j ≠ 12 ∧ 12 ∉ clsAt [[], [0], [], [0, 1, 2], [0, 1, 2, 3], [], [5], [], [5, 6, 7], [5, 6, 7, 8], [], [], [0, 1, 2, 3, 4, 10, 11], [0, 1, 2, 3, 4, 5, 6, 7, 8, 9, 10, 11, 12]] j ∧ ∀ p ∈ [10, 11], (p = j ∨ p ∈ clsAt [[], [0], [], [0, 1, 2], [0, 1, 2, 3], [], [5], [], [5, 6, 7], [5, 6, 7, 8], [], [], [0, 1, 2, 3, 4, 10, 11], [0, 1, 2, 3, 4, 5, 6, 7, 8, 9, 10, 11, 12]] j) → ∀ q ∈ [10, 11], (q = 12 ∨ q ∈ clsAt [[], [0], [], [0, 1, 2], [0, 1, 2, 3], [], [5], [], [5, 6, 7], [5, 6, 7, 8], [], [], [0, 1, 2, 3, 4, 10, 11], [0, 1, 2, 3, 4, 5, 6, 7, 8, 9, 10, 11, 12]] 12) → p ≠ q → val p ≠ val q) (fun hc => absurd rfl hc.1) (fun _ _ h => h))) j ⟨hj, hn, hA⟩
    · intro val fl w' hfl hb halc hd
      have e0 : val 0 = .pointer (some ⟨g1, 0, none⟩) := hd 0 (by omega)
      have e1 : val 1 = .slice (some ⟨b, o, none⟩) rv.reaches.length c := hd 1 (by omega)
      have e2 : val 2 = .int .i64 (i : Nat) := hd 2 (by omega)
      have e3 : val 3 = .pointer (some ⟨b, o + i * 9, none⟩) := hd 3 (by omega)
      have e4 : val 4 = .agg #[.int .i64 x.len, .int .i64 x.delay, .int .i64 x.base.lo, .int .i64 x.base.hi, .slice As x.curve.length cs, .int .i64 x.weir, .int .i64 x.bottom.lo, .int .i64 x.bottom.hi, .int .i64 x.flood] := hd 4 (by omega)
      have e5 : val 5 = .pointer (some ⟨g2, 0, none⟩) := hd 5 (by omega)
      have e6 : val 6 = .slice (some ⟨b_, o_, none⟩) rv.reaches.length d := hd 6 (by omega)
      have e7 : val 7 = .int .i64 (i : Nat) := hd 7 (by omega)
      have e8 : val 8 = .pointer (some ⟨b_, o_ + i * 9, none⟩) := hd 8 (by omega)
      have e9 : val 9 = .agg #[.int .i64 x.len, .int .i64 x.delay, .int .i64 x.base.lo, .int .i64 x.base.hi, .slice Ds x.curve.length ds, .int .i64 x.weir, .int .i64 x.bottom.lo, .int .i64 x.bottom.hi, .int .i64 x.flood] := hd 9 (by omega)
      obtain ⟨ga10, e10, qa10⟩ := hd 12 (by omega)
      change val 10 = _ at e10
      obtain ⟨ga11, e11, _, qa11⟩ := hd 11 (by omega)
      change val 11 = _ at e11
      refine EL.ends (cs := [.pointer (some ⟨g1, 0, none⟩), .slice (some ⟨b, o, none⟩) rv.reaches.length c, .int .i64 (i : Nat), .pointer (some ⟨b, o + i * 9, none⟩), .agg #[.int .i64 x.len, .int .i64 x.delay, .int .i64 x.base.lo, .int .i64 x.base.hi, .slice As x.curve.length cs, .int .i64 x.weir, .int .i64 x.bottom.lo, .int .i64 x.bottom.hi, .int .i64 x.flood], .pointer (some ⟨g2, 0, none⟩), .slice (some ⟨b_, o_, none⟩) rv.reaches.length d, .int .i64 (i : Nat), .pointer (some ⟨b_, o_ + i * 9, none⟩), .agg #[.int .i64 x.len, .int .i64 x.delay, .int .i64 x.base.lo, .int .i64 x.base.hi, .slice Ds x.curve.length ds, .int .i64 x.weir, .int .i64 x.bottom.lo, .int .i64 x.bottom.hi, .int .i64 x.flood], .pointer (some ⟨ga10, 0, none⟩), .pointer (some ⟨ga11, 0, none⟩), val 12]) ⟨e0, e1, e2, e3, e4, e5, e6, e7, e8, e9, e10, e11, rfl, trivial⟩ rfl ?_
      replace q1 := q1.below hb q1.lt
      replace q2 := q2.below hb q2.lt
      have bge3 := alc_ge halc (i := 10) rfl rfl e10
      have n1_3 : g1 ≠ ga10 := Nat.ne_of_lt (Nat.lt_of_lt_of_le lt_1 bge3)
      have n2_3 : g2 ≠ ga10 := Nat.ne_of_lt (Nat.lt_of_lt_of_le lt_2 bge3)
      have bhbw_3 := Nat.le_trans hbw.size bge3
      have bge4 := alc_ge halc (i := 11) rfl rfl e11
      have n1_4 : g1 ≠ ga11 := Nat.ne_of_lt (Nat.lt_of_lt_of_le lt_1 bge4)
      have n2_4 : g2 ≠ ga11 := Nat.ne_of_lt (Nat.lt_of_lt_of_le lt_2 bge4)
      have n3_4 : ga10 ≠ ga11 := alc_ne halc (i := 10) (j := 11) rfl rfl rfl rfl rfl e10 e11
      have bhbw_4 := Nat.le_trans hbw.size bge4
      replace hbw := Below.on hbw hb hbw.size
      refine EL.store rfl rfl qa11 sz_50 rfl rfl rfl rfl ?_
      intro w5 hq5 hg5
      replace q1 := q1.grown hg5 (fun h => n1_4 (Option.some.inj h))
      replace q2 := q2.grown hg5 (fun h => n2_4 (Option.some.inj h))
      replace qa10 := qa10.grown hg5 (fun h => n3_4 (Option.some.inj h))
      replace hbw := below_store hbw hg5 bhbw_4
      replace qa11 := hq5
      clear hg5 hq5
      refine EL.nil ?_
      refine EX.seq ?_
      refine EC.seq ?_
      refine EC.seq ?_
      refine EC.region ?_
      refine EL.val (fa_50_0 rfl) rfl ?_
      refine EL.val (ld_3 rfl (qa10.at (j := 0) rfl)) rfl ?_
      refine EL.val (fa_50_0 rfl) rfl ?_
      refine EL.val (ld_3 rfl (qa11.at (j := 0) rfl)) rfl ?_
      refine EL.val (x_neq rfl rfl (by first | assumption | exact decide_eq_false (by omega))) rfl ?_
      refine EL.val (x_move rfl) rfl ?_
      refine EL.valg rfl rfl (fa_50_1 rfl) rfl ?_
      refine EL.valg rfl rfl (ld_3 rfl (qa10.at (j := 1) rfl)) rfl ?_
      refine EL.valg rfl rfl (fa_50_1 rfl) rfl ?_
      refine EL.valg rfl rfl (ld_3 rfl (qa11.at (j := 1) rfl)) rfl ?_
      refine EL.valg rfl rfl (x_neq rfl rfl (by first | assumption | exact decide_eq_false (by omega))) rfl ?_
      refine EL.val (x_pick_f rfl rfl) rfl ?_
      refine EL.val (x_move rfl) rfl ?_
      refine EL.valg rfl rfl (fa_50_2 rfl) rfl ?_
      refine EL.valg rfl rfl (ld_23 rfl (qa10.at (j := 2) rfl) (qa10.at (j := 3) rfl)) rfl ?_
      refine EL.valg rfl rfl (fa_50_2 rfl) rfl ?_
      refine EL.valg rfl rfl (ld_23 rfl (qa11.at (j := 2) rfl) (qa11.at (j := 3) rfl)) rfl ?_
      refine EL.valg rfl rfl (neq_23 (r := false) rfl rfl (by simp)) rfl ?_
      refine EL.val (x_pick_f rfl rfl) rfl ?_
      refine EL.val (x_move rfl) rfl ?_
      refine EL.valg rfl rfl (fa_50_4 rfl) rfl ?_
      refine EL.valg rfl rfl (ld_3 rfl (qa10.at (j := 5) rfl)) rfl ?_
      refine EL.valg rfl rfl (fa_50_4 rfl) rfl ?_
      refine EL.valg rfl rfl (ld_3 rfl (qa11.at (j := 5) rfl)) rfl ?_
      refine EL.valg rfl rfl (x_neq rfl rfl (by first | assumption | exact decide_eq_false (by omega))) rfl ?_
      refine EL.val (x_pick_f rfl rfl) rfl ?_
      refine EL.val (x_move rfl) rfl ?_
      refine EL.valg rfl rfl (fa_50_5 rfl) rfl ?_
      refine EL.valg rfl rfl (ld_23 rfl (qa10.at (j := 6) rfl) (qa10.at (j := 7) rfl)) rfl ?_
      refine EL.valg rfl rfl (fa_50_5 rfl) rfl ?_
      refine EL.valg rfl rfl (ld_23 rfl (qa11.at (j := 6) rfl) (qa11.at (j := 7) rfl)) rfl ?_
      refine EL.valg rfl rfl (neq_23 (r := false) rfl rfl (by simp)) rfl ?_
      refine EL.val (x_pick_f rfl rfl) rfl ?_
      refine EL.val (x_move rfl) rfl ?_
      refine EL.valg rfl rfl (fa_50_6 rfl) rfl ?_
      refine EL.valg rfl rfl (ld_3 rfl (qa10.at (j := 8) rfl)) rfl ?_
      refine EL.valg rfl rfl (fa_50_6 rfl) rfl ?_
      refine EL.valg rfl rfl (ld_3 rfl (qa11.at (j := 8) rfl)) rfl ?_
      refine EL.valg rfl rfl (x_neq rfl rfl (by first | assumption | exact decide_eq_false (by omega))) rfl ?_
      refine EL.val (x_pick_f rfl rfl) rfl ?_
      refine EL.val (x_move rfl) rfl ?_
      refine EL.valg rfl rfl (fa_50_3 rfl) rfl ?_
      refine EL.valg rfl rfl (ld_48 rfl (qa10.at (j := 4) rfl)) rfl ?_
      refine EL.valg rfl rfl (ln_48 rfl) rfl ?_
      refine EL.valg rfl rfl (fa_50_3 rfl) rfl ?_
      refine EL.valg rfl rfl (ld_48 rfl (qa11.at (j := 4) rfl)) rfl ?_
      refine EL.valg rfl rfl (ln_48 rfl) rfl ?_
      refine EL.valg rfl rfl (x_neq rfl rfl (by first | assumption | exact decide_eq_false (by omega))) rfl ?_
      refine EL.val (x_pick_f rfl rfl) rfl ?_
      refine EL.nil ?_
      refine EX.seq ?_
      refine EC.no rfl ?_
      refine EC.skip ?_
      refine EX.seq ?_
      refine EC.seq ?_
      refine EC.region ?_
      refine EL.val (x_assign rfl) rfl ?_
      refine EL.nil ?_
      refine EX.seq ?_
      refine EC.block ?_
      have hbj := Below.refl w5.heap.size w5
      have l1 := q1.lt
      have l2 := q2.lt
      have l3 := qa10.lt
      have l4 := qa11.lt
      refine EC.loopD [4, 8, 92, 93, 94, 95, 96, 97, 98, 99, 100, 101, 102, 103, 104, 105, 106, 107, 108, 109] (fun x : Nat => [(8, .int .i64 (x : Nat))]) (fun k W => k ≤ x.curve.length ∧ Below w5.heap.size w5 W) (fun k => x.curve.length - k) 0 ⟨Nat.zero_le _, hbj⟩ ⟨rfl, trivial⟩ ?_
      clear hbj
      rintro k wk ⟨hk, hbj⟩
      replace q1 := q1.below hbj l1
      replace q2 := q2.below hbj l2
      replace qa10 := qa10.below hbj l3
      replace qa11 := qa11.below hbj l4
      replace hbw := Below.on hbw hbj hbw.size
      by_cases hkl : k < x.curve.length
      ·
        obtain ⟨p, o1, rfl, _, c0, c1⟩ := rows_cells _ k hkl _ _ _ _ _ h1
        obtain ⟨p_, o1_, rfl, _, d0, d1⟩ := rows_cells _ k hkl _ _ _ _ _ h2
        refine EC.seq ?_
        refine EC.seq ?_
        refine EC.region ?_
        refine EL.val (x_move rfl) rfl ?_
        refine EL.val (fa_50_3 rfl) rfl ?_
        refine EL.val (ld_48 rfl (qa10.at (j := 4) rfl)) rfl ?_
        refine EL.val (ln_48 rfl) rfl ?_
        refine EL.val (x_lss rfl rfl (by first | assumption | exact decide_eq_true (by omega))) rfl ?_
        refine EL.nil ?_
        refine EX.seq ?_
        refine EC.yes rfl ?_
        refine EC.skip ?_
        refine EX.seq ?_
        refine EC.seq ?_
        refine EC.block ?_
        refine EC.seq ?_
        refine EC.regionQ (by kernel_rfl) (by kernel_rfl) ?_
        refine EQ.val (fun _ hw => (fa_50_3 rfl)) rfl ?_
        refine EQ.val (fun _ hw => (ld_48 rfl (below_load hw (qa10.at (j := 4) rfl)))) rfl ?_
        refine EQ.val (fun _ hw => (x_move rfl)) rfl ?_
        refine EQ.val (fun _ hw => (ix_48 rfl rfl hkl)) rfl ?_
        refine EQ.val (fun _ hw => (ld_126 rfl (below_load hw (below_load hbw c0)) (below_load hw (below_load hbw c1)))) rfl ?_
        refine EQ.val (fun _ hw => (fa_50_3 rfl)) rfl ?_
        refine EQ.val (fun _ hw => (ld_48 rfl (below_load hw (qa11.at (j := 4) rfl)))) rfl ?_
        refine EQ.val (fun _ hw => (x_move rfl)) rfl ?_
        refine EQ.val (fun _ hw => (ix_48 rfl rfl hkl)) rfl ?_
        refine EQ.val (fun _ hw => (ld_126 rfl (below_load hw (below_load hbw d0)) (below_load hw (below_load hbw d1)))) rfl ?_
        refine EQ.val (fun _ hw => (neq_126 (r := false) rfl rfl (by simp))) rfl ?_
        refine EQ.fin (fun w_ hw_ => ?_)
        replace hbj := Below.on hbj hw_ hbj.size
        refine EX.seq ?_
        refine EC.no rfl ?_
        refine EC.skip ?_
        refine EX.blk ?_
        refine EX.seq ?_
        refine EC.region ?_
        refine EL.val (x_move rfl) rfl ?_
        refine EL.val (x_add rfl rfl (by first | assumption | exact IntWalk.i64_in _ ⟨by omega, by omega⟩)) rfl ?_
        refine EL.val (x_assign rfl) rfl ?_
        refine EL.nil ?_
        refine EX.roundD (k + 1) ⟨rfl, trivial⟩ (by repeat first | exact Sub.refl _ | refine sub_past rfl ?_ | refine sub_del rfl ?_ | refine sub_insL_nil ?_) ⟨hkl, hbj⟩ (by omega)
      ·
        obtain rfl : k = x.curve.length := by omega
        refine EC.seq ?_
        refine EC.seq ?_
        refine EC.region ?_
        refine EL.val (x_move rfl) rfl ?_
        refine EL.val (fa_50_3 rfl) rfl ?_
        refine EL.val (ld_48 rfl (qa10.at (j := 4) rfl)) rfl ?_
        refine EL.val (ln_48 rfl) rfl ?_
        refine EL.val (x_lss rfl rfl (by first | assumption | exact decide_eq_false (by omega))) rfl ?_
        refine EL.nil ?_
        refine EX.seq ?_
        refine EC.no rfl ?_
        refine EC.exit ?_
        refine EX.seq_exit ?_
        refine EX.seq_exit ?_
        refine EX.blk_here ?_
        refine EX.blk ?_
        refine EX.seq ?_
        refine EC.region ?_
        refine EL.val (x_move rfl) rfl ?_
        refine EL.val (x_add rfl rfl (by first | assumption | exact IntWalk.i64_in _ ⟨by omega, by omega⟩)) rfl ?_
        refine EL.val (x_assign rfl) rfl ?_
        refine EL.nil ?_
        refine EX.roundD (i + 1) ⟨rfl, trivial⟩ (by repeat first | exact Sub.refl _ | refine sub_past rfl ?_ | refine sub_del rfl ?_ | refine sub_insL_nil ?_) ⟨hlt, q1, q2, hbw⟩ (by omega)
  ·
    obtain rfl : i = rv.reaches.length := by omega
    refine EC.seq ?_
    refine EC.seq ?_
    refine EC.region ?_
    refine EL.val (x_move rfl) rfl ?_
    refine EL.val (fa_47_0 rfl) rfl ?_
    refine EL.val (ld_44 rfl (q1.at (j := 0) rfl)) rfl ?_
    refine EL.val (ln_44 rfl) rfl ?_
    refine EL.val (x_lss rfl rfl (by first | assumption | exact decide_eq_false (by omega))) rfl ?_
    refine EL.nil ?_
    refine EX.seq ?_
    refine EC.no rfl ?_
    refine EC.exit ?_
    refine EX.seq_exit ?_
    refine EX.seq_exit ?_
    refine EX.blk_here ?_
    refine EX.seq ?_
    refine EC.seq ?_
    refine EC.seq ?_
    refine EC.region ?_
    refine EL.val (x_assign rfl) rfl ?_
    refine EL.nil ?_
    refine EX.seq ?_
    refine EC.block ?_
    refine EC.loopD [4, 9, 110, 111, 112, 113, 114, 115, 116, 117, 118, 119, 120, 121, 122, 123, 124, 125, 126, 127] (fun x : Nat => [(9, .int .i64 (x : Nat))]) (fun x W => x ≤ rv.shoals.length ∧ Blk W g1 47 #[.slice A rv.reaches.length c, .slice A' rv.shoals.length c'] ∧ Blk W g2 47 #[.slice D rv.reaches.length d, .slice D' rv.shoals.length d'] ∧ Below w.heap.size w W) (fun x => rv.shoals.length - x) 0 ⟨Nat.zero_le _, q1, q2, hbw⟩ ⟨rfl, trivial⟩ ?_
    clear q1 q2 hbw
    rintro j wj ⟨hj, q1, q2, hbw⟩
    by_cases hjl : j < rv.shoals.length
    ·
      obtain ⟨b, o, rfl, _, cc⟩ := shoals_cells rv.shoals j hjl _ _ _ _ _ hr.shoals
      obtain ⟨b_, o_, rfl, _, dd⟩ := shoals_cells rv.shoals j hjl _ _ _ _ _ hr2.shoals
      refine EC.seq ?_
      refine EC.seq ?_
      refine EC.region ?_
      refine EL.val (x_move rfl) rfl ?_
      refine EL.val (fa_47_1 rfl) rfl ?_
      refine EL.val (ld_45 rfl (q1.at (j := 1) rfl)) rfl ?_
      refine EL.val (ln_45 rfl) rfl ?_
      refine EL.val (x_lss rfl rfl (by first | assumption | exact decide_eq_true (by omega))) rfl ?_
      refine EL.nil ?_
      refine EX.seq ?_
      refine EC.yes rfl ?_
      refine EC.skip ?_
      refine EX.seq ?_
      refine EC.seq ?_
      refine EC.block ?_
      refine EC.seq ?_
      refine EC.regionQ (by kernel_rfl) (by kernel_rfl) ?_
      refine EQ.val (fun _ hw => (fa_47_1 rfl)) rfl ?_
      refine EQ.val (fun _ hw => (ld_45 rfl (below_load hw (q1.at (j := 1) rfl)))) rfl ?_
      refine EQ.val (fun _ hw => (x_move rfl)) rfl ?_
      refine EQ.val (fun _ hw => (ix_45 rfl rfl hjl)) rfl ?_
      refine EQ.val (fun _ hw => (ld_97 rfl (below_load hw (below_load hbw cc.c0)) (below_load hw (below_load hbw cc.c1)) (below_load hw (below_load hbw cc.c2)) (below_load hw (below_load hbw cc.c3)) (below_load hw (below_load hbw cc.c4)) (below_load hw (below_load hbw cc.c5)))) rfl ?_
      refine EQ.val (fun _ hw => (fa_47_1 rfl)) rfl ?_
      refine EQ.val (fun _ hw => (ld_45 rfl (below_load hw (q2.at (j := 1) rfl)))) rfl ?_
      refine EQ.val (fun _ hw => (x_move rfl)) rfl ?_
      refine EQ.val (fun _ hw => (ix_45 rfl rfl hjl)) rfl ?_
      refine EQ.val (fun _ hw => (ld_97 rfl (below_load hw (below_load hbw dd.c0)) (below_load hw (below_load hbw dd.c1)) (below_load hw (below_load hbw dd.c2)) (below_load hw (below_load hbw dd.c3)) (below_load hw (below_load hbw dd.c4)) (below_load hw (below_load hbw dd.c5)))) rfl ?_
      refine EQ.val (fun _ hw => (neq_97 (r := false) rfl rfl (by simp))) rfl ?_
      refine EQ.fin (fun w_ hw_ => ?_)
      replace q1 := q1.below hw_ q1.lt
      replace q2 := q2.below hw_ q2.lt
      replace hbw := Below.on hbw hw_ hbw.size
      refine EX.seq ?_
      refine EC.no rfl ?_
      refine EC.skip ?_
      refine EX.blk ?_
      refine EX.seq ?_
      refine EC.region ?_
      refine EL.val (x_move rfl) rfl ?_
      refine EL.val (x_add rfl rfl (by first | assumption | exact IntWalk.i64_in _ ⟨by omega, by omega⟩)) rfl ?_
      refine EL.val (x_assign rfl) rfl ?_
      refine EL.nil ?_
      refine EX.roundD (j + 1) ⟨rfl, trivial⟩ (by repeat first | exact Sub.refl _ | refine sub_past rfl ?_ | refine sub_del rfl ?_ | refine sub_insL_nil ?_) ⟨hjl, q1, q2, hbw⟩ (by omega)
    ·
      obtain rfl : j = rv.shoals.length := by omega
      refine EC.seq ?_
      refine EC.seq ?_
      refine EC.region ?_
      refine EL.val (x_move rfl) rfl ?_
      refine EL.val (fa_47_1 rfl) rfl ?_
      refine EL.val (ld_45 rfl (q1.at (j := 1) rfl)) rfl ?_
      refine EL.val (ln_45 rfl) rfl ?_
      refine EL.val (x_lss rfl rfl (by first | assumption | exact decide_eq_false (by omega))) rfl ?_
      refine EL.nil ?_
      refine EX.seq ?_
      refine EC.no rfl ?_
      refine EC.exit ?_
      refine EX.seq_exit ?_
      refine EX.seq_exit ?_
      refine EX.blk_here ?_
      refine EX.seq ?_
      refine EC.seq ?_
      refine EC.region ?_
      refine EL.val (x_assign rfl) rfl ?_
      refine EL.nil ?_
      refine EX.seq ?_
      refine EC.ret ?_
      exact EX.done (res1 rfl rfl) ⟨rfl, hbw⟩
end Go.Proofs.Ytncnlhkmdljgpaa
