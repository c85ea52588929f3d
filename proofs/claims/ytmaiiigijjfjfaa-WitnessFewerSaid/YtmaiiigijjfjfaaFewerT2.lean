/- ExX5, X5, WReach, ExX6, X6, WWeb, ExX7, X7, ExX8, X8, X10, WMat, ExX11, X11, ExX12, X12, WFw, WBf, WEq, X13, E7, E8, WRing, ExX15, X15: what WitnessFewerProof needs of them (merged by trimpack.py). -/
import Derived.Test.YtmaiiigijjfjfaaFewerT1
set_option linter.unusedVariables false
set_option linter.unusedSimpArgs false
namespace Go.Proofs.Ytmaiiigijjfjfaa
open Go Go.RowKit
section
variable {n : Nat} {σ : Sg} {w : World} {dst : Option Tmp} {ty : TypeId} {pos : String} {af : Array Edge} {g : Option (Nat × Bool)} {x y z : Operand} {at' : Array TypeId}
theorem bd_106_0 {x0 : Operand} {v0_0 : Value} {v0_1 : Value} {v0_2 : Value} (h0 : evS σ x0 = some (.agg #[v0_0, v0_1, v0_2])) : Gives Try.prog n σ w ⟨dst, .build 106 #[(0, x0)], ty, pos, af, g⟩ (.agg #[v0_0, v0_1, v0_2, .slice none 0 0]) := fun a ha => by
  simp only [execOp, List.map_toArray, List.map_cons, List.map_nil, ha.eval h0]
  go_simp
theorem bx_106 {v0 v1 v2 v3 : Value} (hx : evS σ x = some (.agg #[v0, v1, v2, v3])) (a : Act) (ha : Env n σ a) : (execOp a.eval ⟨dst, .box 106 x, ty, pos, af, g⟩).run Try.prog w = .ok (.value (.pointer (some ⟨w.heap.size, 0, none⟩))) (w.alloc (.cells #[v0, v1, v2, v3] 106)) := by
  simp only [execOp, ha.eval hx]
  simp [go_sem]
theorem cl_56 {x0 x1 : Operand} {v0 v1 : Value} (h0 : evS σ x0 = some v0) (h1 : evS σ x1 = some v1) (a : Act) (ha : Env n σ a) : (execOp a.eval ⟨dst, .call { callee := .value (.func 56), args := #[x0, x1], argTypes := at' }, ty, pos, af, g⟩).run Try.prog w = .ok (.enter 56 #[v0, v1]) w := by
  simp only [execOp, resolve, List.map_toArray, List.map_cons, List.map_nil, ha.eval h0, ha.eval h1]
  simp [go_sem, Act.eval]
theorem bd_54_1 {x0 : Operand} {z0 : Int} (h0 : evS σ x0 = some (.int .i64 z0)) : Gives Try.prog n σ w ⟨dst, .build 54 #[(1, x0)], ty, pos, af, g⟩ (.agg #[.int .i64 0, .int .i64 z0]) := fun a ha => by
  simp only [execOp, List.map_toArray, List.map_cons, List.map_nil, ha.eval h0]
  go_simp
theorem cl_63 {x0 x1 x2 x3 : Operand} {v0 v1 v2 v3 : Value} (h0 : evS σ x0 = some v0) (h1 : evS σ x1 = some v1) (h2 : evS σ x2 = some v2) (h3 : evS σ x3 = some v3) (a : Act) (ha : Env n σ a) : (execOp a.eval ⟨dst, .call { callee := .value (.func 63), args := #[x0, x1, x2, x3], argTypes := at' }, ty, pos, af, g⟩).run Try.prog w = .ok (.enter 63 #[v0, v1, v2, v3]) w := by
  simp only [execOp, resolve, List.map_toArray, List.map_cons, List.map_nil, ha.eval h0, ha.eval h1, ha.eval h2, ha.eval h3]
  simp [go_sem, Act.eval]
theorem al_54 (a : Act) (_ : Env n σ a) : (execOp a.eval ⟨dst, .alloc 54, ty, pos, af, g⟩).run Try.prog w = .ok (.value (.pointer (some ⟨w.heap.size, 0, none⟩))) (w.alloc (.cells #[.int .i64 0, .int .i64 0] 54)) := by
  simp only [execOp]
  simp [go_sem]
theorem sz_54 : (Try.prog.info? 54).map (·.size) = some 2 := by kernel_rfl
theorem cl_64 {x0 x1 : Operand} {v0 v1 : Value} (h0 : evS σ x0 = some v0) (h1 : evS σ x1 = some v1) (a : Act) (ha : Env n σ a) : (execOp a.eval ⟨dst, .call { callee := .value (.func 64), args := #[x0, x1], argTypes := at' }, ty, pos, af, g⟩).run Try.prog w = .ok (.enter 64 #[v0, v1]) w := by
  simp only [execOp, resolve, List.map_toArray, List.map_cons, List.map_nil, ha.eval h0, ha.eval h1]
  simp [go_sem, Act.eval]
theorem bd_54_0_1 {x0 x1 : Operand} {z0 : Int} {z1 : Int} (h0 : evS σ x0 = some (.int .i64 z0)) (h1 : evS σ x1 = some (.int .i64 z1)) : Gives Try.prog n σ w ⟨dst, .build 54 #[(0, x0), (1, x1)], ty, pos, af, g⟩ (.agg #[.int .i64 z0, .int .i64 z1]) := fun a ha => by
  simp only [execOp, List.map_toArray, List.map_cons, List.map_nil, ha.eval h0, ha.eval h1]
  go_simp
theorem al_71 (a : Act) (_ : Env n σ a) : (execOp a.eval ⟨dst, .alloc 71, ty, pos, af, g⟩).run Try.prog w = .ok (.value (.pointer (some ⟨w.heap.size, 0, none⟩))) (w.alloc (.cells #[.int .i64 0, .int .i64 0, .int .i64 0, .int .i64 0, .int .i64 0, .int .i64 0] 71)) := by
  simp only [execOp]
  simp [go_sem]
theorem sz_71 : (Try.prog.info? 71).map (·.size) = some 6 := by kernel_rfl
theorem mf_64_1_0 {x0 : Operand} {v0 : Value} (h0 : evS σ x0 = some v0) : Gives Try.prog n σ w ⟨dst, .makeFunc (.func 64) #[x0] #[], ty, pos, af, g⟩ (.func (.func 64) #[v0] #[]) := fun a ha => by
  simp only [execOp, List.map_toArray, List.map_cons, List.map_nil, ha.eval h0]
  simp [go_sem]
theorem mf_56_1_0 {x0 : Operand} {v0 : Value} (h0 : evS σ x0 = some v0) : Gives Try.prog n σ w ⟨dst, .makeFunc (.func 56) #[x0] #[], ty, pos, af, g⟩ (.func (.func 56) #[v0] #[]) := fun a ha => by
  simp only [execOp, List.map_toArray, List.map_cons, List.map_nil, ha.eval h0]
  simp [go_sem]
theorem clv_56_1_1_0 {xf x0 : Operand} {v0 b0 : Value} (hf : evS σ xf = some (.func (.func 56) #[b0] #[])) (h0 : evS σ x0 = some v0) (a : Act) (ha : Env n σ a) : (execOp a.eval ⟨dst, .call { callee := .value xf, args := #[x0], argTypes := at' }, ty, pos, af, g⟩).run Try.prog w = .ok (.enter 56 #[b0, v0]) w := by
  simp only [execOp, resolve, List.map_toArray, List.map_cons, List.map_nil, ha.eval hf, ha.eval h0]
  simp [go_sem, Deferred.ofValue]
theorem clv_64_1_1_0 {xf x0 : Operand} {v0 b0 : Value} (hf : evS σ xf = some (.func (.func 64) #[b0] #[])) (h0 : evS σ x0 = some v0) (a : Act) (ha : Env n σ a) : (execOp a.eval ⟨dst, .call { callee := .value xf, args := #[x0], argTypes := at' }, ty, pos, af, g⟩).run Try.prog w = .ok (.enter 64 #[b0, v0]) w := by
  simp only [execOp, resolve, List.map_toArray, List.map_cons, List.map_nil, ha.eval hf, ha.eval h0]
  simp [go_sem, Deferred.ofValue]
end
end Go.Proofs.Ytmaiiigijjfjfaa
set_option linter.unusedVariables false
set_option linter.unusedSimpArgs false
namespace Go.Proofs.Ytmaiiigijjfjfaa
open Go Go.RowKit
theorem caseB_ok {c : Case} (h : caseB c = true) : (1 ≤ c.events ∧ c.events ≤ 20) ∧ c.clocks.length ≤ 8 ∧ c.clues.length ≤ 20 ∧ (∀ k, k < c.clocks.length → bdOk (-100000) 100000 (c.clocks.getD k bd0) = true) ∧ ∀ i, i < c.clues.length → (1 ≤ (c.clues.getD i []).length ∧ (c.clues.getD i []).length ≤ 3) ∧ ∀ j, j < (c.clues.getD i []).length → optB c ((c.clues.getD i []).getD j opt0) = true := by
  simp only [caseB, Bool.and_eq_true, inB_iff, decide_eq_true_eq] at h
  obtain ⟨h1, h2, h3, h4, h5⟩ := h
  refine ⟨h1, h2, h3, fun k hk => ?_, fun i hi => ?_⟩
  · rw [show c.clocks.getD k bd0 = c.clocks[k] by simp [hk]]
    exact List.all_eq_true.1 h4 _ (List.getElem_mem hk)
  · have h6 := List.all_eq_true.1 h5 _ (List.getElem_mem hi)
    rw [show c.clues.getD i [] = c.clues[i] by simp [hi]]
    simp only [clueB, Bool.and_eq_true, inB_iff] at h6
    refine ⟨by omega, fun j hj => ?_⟩
    rw [show (c.clues[i]).getD j opt0 = (c.clues[i])[j] by simp [hj]]
    exact List.all_eq_true.1 h6.2 _ (List.getElem_mem hj)
/-- what holds of an option that is valid -/
structure OptOk (c : Case) (o : Opt) : Prop where
  event : 0 ≤ o.event ∧ o.event ≤ c.events - 1
  mins : -2000000 ≤ o.mins.lo ∧ o.mins.lo ≤ o.mins.hi ∧ o.mins.hi ≤ 2000000
  kind : (o.kind = 1 ∧ 0 ≤ o.clock ∧ o.clock ≤ ((c.clocks.length : Nat) : Int) - 1) ∨ (o.kind = 2 ∧ 0 ≤ o.after ∧ o.after ≤ c.events - 1 ∧ o.after ≠ o.event)
theorem optB_ok {c : Case} {o : Opt} (h : optB c o = true) : OptOk c o := by
  simp only [optB, Bool.and_eq_true, inB_iff, bdOk_iff] at h
  obtain ⟨h1, h2, h3⟩ := h
  refine ⟨h1, h2, ?_⟩
  by_cases hk : o.kind = 1
  · rw [if_pos hk] at h3
    simp only [Bool.and_eq_true, inB_iff] at h3
    exact .inl ⟨hk, h3.1⟩
  · rw [if_neg hk] at h3
    simp only [Bool.and_eq_true, inB_iff, decide_eq_true_eq] at h3
    exact .inr ⟨h3.1, h3.2.1.1, h3.2.1.2, h3.2.2.1⟩
theorem crsAll_len {c : Case} {l : List Int} (h : inCourse c l) : ∀ {n : Nat}, n ≤ l.length → (crsLinks c l n).length = n * 2
  | 0, _ => rfl
  | n + 1, hn => by
    have h1 := (h.2 n (by omega)).1
    rw [crsLinks, range_flat, ← crsLinks, List.length_append, crsAll_len h (by omega), crsL, if_neg (by omega)]
    simp [optL]; omega
set_option maxHeartbeats 4000000 in
set_option maxRecDepth 100000 in
theorem open_any (c : Case) (vc vl : Value) (vs : List Value) (w : World) (B : Nat) (hr : RdCase w B vc vl c vs) (hB : B ≤ w.heap.size) (hn1 : c.clocks.length ≤ 1073741824) (hn2 : c.clues.length ≤ 1073741824) (l : List Int) (vi : Value) (hrl : Rd w B 1 vi l.length (ints l)) (hc : caseB c = true) (hcr : inCourse c l) :
    Calls Try.prog 39 #[.agg #[.int .i64 c.events, vc, vl], vi] w fun e w' => (∃ g v, e = .returned (.pointer (some ⟨g, 0, none⟩)) ∧ Blk w' g 106 #[.int .i64 c.events, vc, vl, v] ∧ Rd w' w'.heap.size 3 v (linksOf c l).length (lnksC (linksOf c l))) ∧ Below w.heap.size w w' := by
  obtain ⟨Ac, cc_, rfl, _⟩ := hr.clocks.shape
  obtain ⟨Al, cl_, rfl, _⟩ := hr.clues.rd.shape
  obtain ⟨Ai, ci_, rfl, _⟩ := hrl.shape
  obtain ⟨hev, hcl8, hcl20, hck, hcu⟩ := caseB_ok hc
  have hcrl := hcr.1
  have hbw := Below.refl w.heap.size w
  refine EC.enter 102 Try.func39 rfl rfl rfl ?_
  refine EC.seq ?_
  refine EC.region ?_
  refine EL.newP (bx_25 rfl) rfl ?_
  intro g1 w1 q1 hb1 hg1 hl1
  have bhbw_1 := Nat.le_trans hbw.size hg1
  replace hbw := Below.on hbw hb1 hbw.size
  clear hb1 hg1 hl1
  have hsz1 := hbw.size
  refine EL.val (x_assign rfl) rfl ?_
  refine EL.nil ?_
  refine EX.seq ?_
  refine EC.seq ?_
  refine EC.region ?_
  refine EL.val (ld_25 rfl (q1.at (j := 0) rfl) (q1.at (j := 1) rfl) (q1.at (j := 2) rfl)) rfl ?_
  refine EL.val (bd_106_0 rfl) rfl ?_
  refine EL.newP (bx_106 rfl) rfl ?_
  have hb1_ := Below.refl w1.heap.size w1
  have q1c := q1
  intro g2 w2 q2 hb2 hg2 hl2
  have n1_2 : g1 ≠ g2 := Nat.ne_of_lt (Nat.lt_of_lt_of_le q1.lt hg2)
  have bhbw_2 := Nat.le_trans hbw.size hg2
  have bhb1__2 := Nat.le_trans hb1_.size hg2
  replace q1 := q1.below hb2 q1.lt
  replace hbw := Below.on hbw hb2 hbw.size
  replace hb1_ := Below.on hb1_ hb2 hb1_.size
  clear hb2 hl2
  have hgw_ := hg2
  refine EL.val (x_assign rfl) rfl ?_
  refine EL.nil ?_
  refine EX.seq ?_
  refine EC.seq ?_
  refine EC.seq ?_
  refine EC.region ?_
  refine EL.val (fa_25_0 rfl) rfl ?_
  refine EL.val (ld_3 rfl (q1.at (j := 0) rfl)) rfl ?_
  refine EL.val (x_move rfl) rfl ?_
  refine EL.nil ?_
  refine EX.seq ?_
  refine EC.block ?_
  obtain ⟨N, eN⟩ : ∃ N : Nat, c.events = N := ⟨c.events.toNat, by omega⟩
  have eN2 : c.events.toNat = N := by omega
  have hb1 : Below w1.heap.size w1 w2 := hb1_
  have hgw0 : w1.heap.size ≤ g2 := hgw_
  refine EC.loopD [6, 19, 20, 21, 22, 23, 24, 25, 26, 27, 28] (fun x : Nat => [(19, .int .i64 (x : Nat))]) (fun x W => x ≤ N ∧ ∃ v, Blk W g2 106 #[.int .i64 c.events, .slice Ac c.clocks.length cc_, .slice Al c.clues.length cl_, v] ∧ W.ownsRow w1.heap.size 39 3 v (x * 2) (lnksC (evLinks x)) ∧ Below w.heap.size w W ∧ Below w1.heap.size w1 W) (fun x => N - x) 0 ⟨Nat.zero_le _, _, q2, ⟨rfl, .inl ⟨rfl, rfl⟩⟩, hbw, hb1⟩ ⟨rfl, trivial⟩ ?_
  clear q2 hbw hb1 hb1_
  rintro i wi ⟨hi, v, qw, ho, hbw, hb1⟩
  by_cases hlt : i < N
  ·
    have hgw := hgw0
    refine EC.seq ?_
    refine EC.region ?_
    refine EL.val (x_lss rfl rfl (by first | assumption | exact decide_eq_true (by omega))) rfl ?_
    refine EL.nil ?_
    refine EX.seq ?_
    refine EC.seq ?_
    refine EC.yes rfl ?_
    refine EC.skip ?_
    refine EX.seq ?_
    refine EC.seq ?_
    refine EC.block ?_
    refine EC.seq ?_
    refine EC.region ?_
    refine EL.val (x_move rfl) rfl ?_
    refine EL.val (x_assign rfl) rfl ?_
    refine EL.nil ?_
    refine EX.seq ?_
    refine EC.region ?_
    refine EL.val (x_move rfl) rfl ?_
    refine EL.val (x_move rfl) rfl ?_
    refine EL.val (x_move rfl) rfl ?_
    refine EL.call (cl_56 rfl rfl) rfl (event_any _ _ _ (by omega)) ?_
    rintro e w3 ⟨rfl, hc3⟩
    refine ⟨_, rfl, ?_⟩
    replace qw := qw.below hc3 qw.lt
    replace ho := own_below ho hc3 (Nat.le_refl _)
    replace hbw := Below.on hbw hc3 hbw.size
    replace hb1 := Below.on hb1 hc3 hb1.size
    clear hc3
    refine EL.val (bd_54_1 rfl) rfl ?_
    rw [← evLinks_len i] at ho
    have hlen0 := evLinks_len i
    have e1 : (1 : Int) + ((i : Nat) : Int) = ((1 + i : Nat) : Int) := by omega
    rw [e1]
    refine EL.call (cl_63 rfl rfl rfl rfl) rfl (link_any w1.heap.size g2 0 (1 + i) ⟨0, 1000000⟩ (evLinks i) w3 (by simp) qw ho hgw hb1.size (by omega)) ?_
    rintro e w4 ⟨rfl, v', hqw', ho', hup'⟩
    refine ⟨_, rfl, ?_⟩
    replace hb1 := hb1.trans hup'.low
    replace hbw := hbw.trans (hup'.low.mono hsz1)
    replace qw := hqw'
    clear hqw' hup'
    refine EL.nil ?_
    refine EX.blk ?_
    refine EX.seq ?_
    refine EC.region ?_
    refine EL.val (x_add rfl rfl (by first | assumption | exact IntWalk.i64_in _ ⟨by omega, by omega⟩)) rfl ?_
    refine EL.val (x_move rfl) rfl ?_
    refine EL.nil ?_
    refine EX.roundD (i + 1) ⟨rfl, trivial⟩ (by repeat first | with_reducible exact Sub.refl _ | refine sub_past rfl ?_ | exact Sub.refl _ | refine sub_del rfl ?_ | refine sub_insL_nil ?_) ⟨hlt, _, qw, by rw [evLinks_len] at ho'; rw [evLinks, range_flat, show (i + 1) * 2 = i * 2 + 2 by omega]; exact ho', hbw, hb1⟩ (by omega)
  ·
    obtain rfl : i = N := by omega
    have hgw := hgw0
    refine EC.seq ?_
    refine EC.region ?_
    refine EL.val (x_lss rfl rfl (by first | assumption | exact decide_eq_false (by omega))) rfl ?_
    refine EL.nil ?_
    refine EX.seq ?_
    refine EC.seq ?_
    refine EC.no rfl ?_
    refine EC.exit ?_
    refine EX.seq_exit ?_
    refine EX.seq_exit ?_
    refine EX.blk_here ?_
    refine EX.seq ?_
    refine EC.seq ?_
    refine EC.seq ?_
    refine EC.region ?_
    refine EL.val (fa_25_1 rfl) rfl ?_
    refine EL.val (ld_22 rfl (below_load hb1 (q1c.at (j := 1) rfl))) rfl ?_
    refine EL.val (ln_22 rfl) rfl ?_
    refine EL.val (x_move rfl) rfl ?_
    refine EL.nil ?_
    refine EX.seq ?_
    refine EC.block ?_
    refine EC.loopD [7, 8, 32, 33, 34, 35, 36, 37, 38, 39, 40, 41, 42, 43, 44, 45, 46, 47, 48, 49] (fun x : Nat => [(32, .int .i64 (x : Nat))]) (fun x W => x ≤ c.clocks.length ∧ ∃ v, Blk W g2 106 #[.int .i64 c.events, .slice Ac c.clocks.length cc_, .slice Al c.clues.length cl_, v] ∧ W.ownsRow w1.heap.size 39 3 v (i * 2 + x * 2) (lnksC (evLinks i ++ clLinks c x)) ∧ Below w.heap.size w W ∧ Below w1.heap.size w1 W) (fun x => c.clocks.length - x) 0 ⟨Nat.zero_le _, _, qw, by rw [Nat.zero_mul, Nat.add_zero, clLinks, List.range_zero, List.flatMap_nil, List.append_nil]; exact ho, hbw, hb1⟩ ⟨rfl, trivial⟩ ?_
    clear qw ho hbw hb1 hgw
    rintro k wk ⟨hk, v, qw, ho, hbw, hb1⟩
    by_cases hkl : k < c.clocks.length
    ·
      obtain ⟨bc, oc, e_, _, cl0, cl1⟩ := bds_cells c.clocks k hkl w B _ _ _ hr.clocks
      subst e_
      have hbk := bdOk_iff.1 (hck k hkl)
      obtain ⟨b, eb⟩ : ∃ z, z = c.clocks.getD k bd0 := ⟨_, rfl⟩
      rw [← eb] at cl0 cl1 hbk
      have hgw := hgw0
      refine EC.seq ?_
      refine EC.region ?_
      refine EL.val (x_lss rfl rfl (by first | assumption | exact decide_eq_true (by omega))) rfl ?_
      refine EL.nil ?_
      refine EX.seq ?_
      refine EC.seq ?_
      refine EC.yes rfl ?_
      refine EC.skip ?_
      refine EX.seq ?_
      refine EC.seq ?_
      refine EC.block ?_
      refine EC.seq ?_
      refine EC.region ?_
      refine EL.val (x_move rfl) rfl ?_
      refine EL.val (ix_22 rfl rfl hkl) rfl ?_
      refine EL.val (ld_54 rfl (below_load hbw cl0) (below_load hbw cl1)) rfl ?_
      refine EL.newP al_54 rfl ?_
      intro g5 w5 q5 hb5 hg5 hl5
      have n2_5 : g2 ≠ g5 := Nat.ne_of_lt (Nat.lt_of_lt_of_le qw.lt hg5)
      have bhbw_5 := Nat.le_trans hbw.size hg5
      have bhb1_5 := Nat.le_trans hb1.size hg5
      replace qw := qw.below hb5 qw.lt
      replace ho := own_below ho hb5 (Nat.le_refl _)
      replace hbw := Below.on hbw hb5 hbw.size
      replace hb1 := Below.on hb1 hb5 hb1.size
      clear hb5 hg5 hl5
      refine EL.val (x_assign rfl) rfl ?_
      refine EL.store rfl rfl q5 sz_54 rfl rfl rfl rfl ?_
      intro w6 hq6 hg6
      replace qw := qw.grown hg6 (fun h => n2_5 (Option.some.inj h))
      replace ho := own_type ho q5 rfl hg6
      replace hbw := below_store hbw hg6 bhbw_5
      replace hb1 := below_store hb1 hg6 bhb1_5
      replace q5 := hq6
      clear hg6 hq6
      refine EL.nil ?_
      refine EX.seq ?_
      have lt_2 := qw.lt
      have lt_5 := q5.lt
      refine EC.regionP [[], [], [], [1, 2], [], [4], [4, 5], [], [7], [7, 8], [4, 5, 6, 7, 8, 9], [0, 1, 2, 3, 4, 5, 6, 7, 8, 9, 10]] 11 [] (phi (fun i_ r => match i_ with | 0 => r 0 = .pointer (some ⟨g2, 0, none⟩) | 1 => r 1 = .pointer (some ⟨g2, 0, none⟩) | 2 => r 2 = .int .i64 (k : Nat) | 3 => r 3 = .int .i64 (1 + c.events + ((k : Nat) : Int)) | 4 => r 4 = .pointer (some ⟨g5, 1, none⟩) | 5 => r 5 = .int .i64 b.hi | 6 => r 6 = .int .i64 (-b.hi) | 7 => r 7 = .pointer (some ⟨g5, 0, none⟩) | 8 => r 8 = .int .i64 b.lo | 9 => r 9 = .int .i64 (-b.lo) | 10 => r 10 = .agg #[.int .i64 (-b.hi), .int .i64 (-b.lo)] | _ => True) []) (by kernel_rfl) rfl rfl (phi_nil) (fun i_ hi_ => ?_) ?_
      · match i_, hi_ with
        | 0, _ =>
          intro val w1 a hb ha hd
          have ha := ha.sub (Sub.ins (d := 5) (Sub.nil _) rfl)
          exact hs_val ha rfl rfl (x_move rfl) rfl rfl
        | 1, _ =>
          intro val w1 a hb ha hd
          have ha := ha.sub (Sub.ins (d := 5) (Sub.nil _) rfl)
          exact hs_val ha rfl rfl (x_move rfl) rfl rfl
        | 2, _ =>
          intro val w1 a hb ha hd
          have ha := ha.sub (Sub.ins (d := 7) (Sub.nil _) rfl)
          exact hs_val ha rfl rfl (x_move rfl) rfl rfl
        | 3, _ =>
          intro val w1 a hb ha hd
          have e1 : val 1 = .pointer (some ⟨g2, 0, none⟩) := hd 1 (memB_mem.1 rfl)
          have e2 : val 2 = .int .i64 (k : Nat) := hd 2 (memB_mem.1 rfl)
          have ha := ha.sub (Sub.ins (d := 39) (Sub.ins (d := 38) (Sub.nil _) (dep_get rfl e1)) (dep_get rfl e2))
          refine hs_call ha rfl rfl (cl_64 rfl rfl) (clock_any _ _ _ (by first | exact (qw.below hb qw.lt) | exact qw) (by omega) (by omega)) rfl ?_
          rintro e w' ⟨rfl, hb'⟩
          exact ⟨_, rfl, hb', rfl⟩
        | 4, _ =>
          intro val w1 a hb ha hd
          have ha := ha.sub (Sub.ins (d := 8) (Sub.nil _) rfl)
          exact hs_val ha rfl rfl (fa_54_1 rfl) rfl rfl
        | 5, _ =>
          intro val w1 a hb ha hd
          have e4 : val 4 = .pointer (some ⟨g5, 1, none⟩) := hd 4 (memB_mem.1 rfl)
          have ha := ha.sub (Sub.ins (d := 41) (Sub.nil _) (dep_get rfl e4))
          exact hs_val ha rfl rfl (ld_3 rfl ((q5.below hb q5.lt).at (j := 1) rfl)) rfl rfl
        | 6, _ =>
          intro val w1 a hb ha hd
          have e5 : val 5 = .int .i64 b.hi := hd 5 (memB_mem.1 rfl)
          have ha := ha.sub (Sub.ins (d := 42) (Sub.nil _) (dep_get rfl e5))
          exact hs_val ha rfl rfl (x_neg rfl (by first | assumption | exact IntWalk.i64_in _ ⟨by omega, by omega⟩)) rfl rfl
        | 7, _ =>
          intro val w1 a hb ha hd
          have ha := ha.sub (Sub.ins (d := 8) (Sub.nil _) rfl)
          exact hs_val ha rfl rfl (fa_54_0 rfl) rfl rfl
        | 8, _ =>
          intro val w1 a hb ha hd
          have e7 : val 7 = .pointer (some ⟨g5, 0, none⟩) := hd 7 (memB_mem.1 rfl)
          have ha := ha.sub (Sub.ins (d := 44) (Sub.nil _) (dep_get rfl e7))
          exact hs_val ha rfl rfl (ld_3 rfl ((q5.below hb q5.lt).at (j := 0) rfl)) rfl rfl
        | 9, _ =>
          intro val w1 a hb ha hd
          have e8 : val 8 = .int .i64 b.lo := hd 8 (memB_mem.1 rfl)
          have ha := ha.sub (Sub.ins (d := 45) (Sub.nil _) (dep_get rfl e8))
          exact hs_val ha rfl rfl (x_neg rfl (by first | assumption | exact IntWalk.i64_in _ ⟨by omega, by omega⟩)) rfl rfl
        | 10, _ =>
          intro val w1 a hb ha hd
          have e6 : val 6 = .int .i64 (-b.hi) := hd 6 (memB_mem.1 rfl)
          have e9 : val 9 = .int .i64 (-b.lo) := hd 9 (memB_mem.1 rfl)
          have ha := ha.sub (Sub.ins (d := 46) (Sub.ins (d := 43) (Sub.nil _) (dep_get rfl e6)) (dep_get rfl e9))
          exact hs_val ha rfl rfl (bd_54_0_1 rfl rfl) rfl rfl
        | k + 11, h => exact absurd h (by omega)
      · intro val wR10 hb halc hd
        have e0 : val 0 = .pointer (some ⟨g2, 0, none⟩) := hd 0 (by omega)
        have e1 : val 1 = .pointer (some ⟨g2, 0, none⟩) := hd 1 (by omega)
        have e2 : val 2 = .int .i64 (k : Nat) := hd 2 (by omega)
        have e3 : val 3 = .int .i64 (1 + c.events + ((k : Nat) : Int)) := hd 3 (by omega)
        have e4 : val 4 = .pointer (some ⟨g5, 1, none⟩) := hd 4 (by omega)
        have e5 : val 5 = .int .i64 b.hi := hd 5 (by omega)
        have e6 : val 6 = .int .i64 (-b.hi) := hd 6 (by omega)
        have e7 : val 7 = .pointer (some ⟨g5, 0, none⟩) := hd 7 (by omega)
        have e8 : val 8 = .int .i64 b.lo := hd 8 (by omega)
        have e9 : val 9 = .int .i64 (-b.lo) := hd 9 (by omega)
        have e10 : val 10 = .agg #[.int .i64 (-b.hi), .int .i64 (-b.lo)] := hd 10 (by omega)
        refine EL.ends (cs := [.pointer (some ⟨g2, 0, none⟩), .pointer (some ⟨g2, 0, none⟩), .int .i64 (k : Nat), .int .i64 (1 + c.events + ((k : Nat) : Int)), .pointer (some ⟨g5, 1, none⟩), .int .i64 b.hi, .int .i64 (-b.hi), .pointer (some ⟨g5, 0, none⟩), .int .i64 b.lo, .int .i64 (-b.lo), .agg #[.int .i64 (-b.hi), .int .i64 (-b.lo)]]) ⟨e0, e1, e2, e3, e4, e5, e6, e7, e8, e9, e10, trivial⟩ rfl ?_
        replace qw := qw.below hb qw.lt
        replace q5 := q5.below hb q5.lt
        replace ho := own_below ho hb (Nat.le_refl _)
        replace hbw := Below.on hbw hb hbw.size
        replace hb1 := Below.on hb1 hb hb1.size
        clear hb
        have e1 : (1 : Int) + c.events + ((k : Nat) : Int) = ((1 + c.events.toNat + k : Nat) : Int) := by omega
        rw [e1]
        have hlen : i * 2 + k * 2 = (evLinks i ++ clLinks c k).length := by rw [List.length_append, evLinks_len, clLinks_len]
        rw [hlen] at ho
        refine EL.call (cl_63 rfl rfl rfl rfl) rfl (link_any w1.heap.size g2 0 (1 + c.events.toNat + k) ⟨-b.hi, -b.lo⟩ (evLinks i ++ clLinks c k) wR10 (by simp only; omega) qw ho hgw hb1.size (by omega)) ?_
        rintro e w7 ⟨rfl, v', hqw', ho', hup'⟩
        refine ⟨_, rfl, ?_⟩
        replace hb1 := hb1.trans hup'.low
        replace hbw := hbw.trans (hup'.low.mono hsz1)
        replace qw := hqw'
        clear hqw' hup'
        refine EL.nil ?_
        refine EX.blk ?_
        refine EX.seq ?_
        refine EC.region ?_
        refine EL.val (x_add rfl rfl (by first | assumption | exact IntWalk.i64_in _ ⟨by omega, by omega⟩)) rfl ?_
        refine EL.val (x_move rfl) rfl ?_
        refine EL.nil ?_
        refine EX.roundD (k + 1) ⟨rfl, trivial⟩ (by repeat first | with_reducible exact Sub.refl _ | refine sub_past rfl ?_ | exact Sub.refl _ | refine sub_del rfl ?_ | refine sub_insL_nil ?_) ⟨hkl, _, qw, by rw [← hlen] at ho'; rw [clLinks, range_flat, ← clLinks, clL, ← eb, ← List.append_assoc, show i * 2 + (k + 1) * 2 = i * 2 + k * 2 + 2 by omega]; simpa using ho', hbw, hb1⟩ (by omega)
    ·
      obtain rfl : k = c.clocks.length := by omega
      have hgw := hgw0
      refine EC.seq ?_
      refine EC.region ?_
      refine EL.val (x_lss rfl rfl (by first | assumption | exact decide_eq_false (by omega))) rfl ?_
      refine EL.nil ?_
      refine EX.seq ?_
      refine EC.seq ?_
      refine EC.no rfl ?_
      refine EC.exit ?_
      refine EX.seq_exit ?_
      refine EX.seq_exit ?_
      refine EX.blk_here ?_
      refine EX.seq ?_
      refine EC.seq ?_
      refine EC.seq ?_
      refine EC.region ?_
      refine EL.val (x_move rfl) rfl ?_
      refine EL.val (ln_26 rfl) rfl ?_
      refine EL.val (x_move rfl) rfl ?_
      refine EL.nil ?_
      refine EX.seq ?_
      refine EC.block ?_
      refine EC.loopD [9, 10, 11, 12, 13, 52, 53, 54, 55, 56, 57, 58, 59, 60, 61, 62, 63, 64, 65, 66, 67, 68, 69, 70, 71, 72, 73, 74, 75, 76, 77, 78, 79, 80, 81, 82, 83, 84, 85, 86, 87, 88, 89, 90, 91, 92, 93, 94, 95, 96, 97, 98, 99, 100] (fun x : Nat => [(52, .int .i64 (x : Nat))]) (fun x W => x ≤ l.length ∧ ∃ v, Blk W g2 106 #[.int .i64 c.events, .slice Ac c.clocks.length cc_, .slice Al c.clues.length cl_, v] ∧ W.ownsRow w1.heap.size 39 3 v (i * 2 + c.clocks.length * 2 + x * 2) (lnksC (evLinks i ++ clLinks c c.clocks.length ++ crsLinks c l x)) ∧ Below w.heap.size w W ∧ Below w1.heap.size w1 W) (fun x => l.length - x) 0 ⟨Nat.zero_le _, _, qw, by rw [Nat.zero_mul, Nat.add_zero, crsLinks, List.range_zero, List.flatMap_nil, List.append_nil]; exact ho, hbw, hb1⟩ ⟨rfl, trivial⟩ ?_
      clear qw ho hbw hb1 hgw
      rintro j wj ⟨hj, v, qw, ho, hbw, hb1⟩
      by_cases hjl : j < l.length
      ·
        obtain ⟨hn0, hn1⟩ := hcr.2 j hjl
        obtain ⟨m, em⟩ : ∃ m : Nat, l.getD j 0 = m := ⟨(l.getD j 0).toNat, by omega⟩
        obtain ⟨bi, oi, e_, _, ci⟩ := ints_cells l j hjl w B _ _ _ hrl
        subst e_
        rw [em] at ci hn0 hn1
        have hjc : j < c.clues.length := by have := hcr.1; omega
        obtain ⟨bl, ol, e_, _, hcell⟩ := rdll_cell hr.clues j hjc
        subst e_
        have hrow := hr.clues.row j hjc
        obtain ⟨Ao, co, eo, _⟩ := hrow.shape
        rw [eo] at hcell hrow
        have hmn : m < (c.clues.getD j []).length := by omega
        obtain ⟨bo, oo, e_, _, oc⟩ := opts_cells _ m hmn w B _ _ _ hrow
        subst e_
        have hop := optB_ok ((hcu j hjc).2 m hmn)
        obtain ⟨o, eo_⟩ : ∃ z, z = (c.clues.getD j []).getD m opt0 := ⟨_, rfl⟩
        rw [← eo_] at oc hop
        have hcj : crsL c l j = optL c o := by rw [crsL, em, if_neg (by omega), optAt, eo_]; simp
        have hov := hop.event
        have hom := hop.mins
        have hgw := hgw0
        refine EC.seq ?_
        refine EC.region ?_
        refine EL.val (x_lss rfl rfl (by first | assumption | exact decide_eq_true (by omega))) rfl ?_
        refine EL.nil ?_
        refine EX.seq ?_
        refine EC.seq ?_
        refine EC.yes rfl ?_
        refine EC.skip ?_
        refine EX.seq ?_
        refine EC.seq ?_
        refine EC.block ?_
        refine EC.seq ?_
        refine EC.region ?_
        refine EL.val (x_move rfl) rfl ?_
        refine EL.val (ix_26 rfl rfl hjl) rfl ?_
        refine EL.val (ld_3 rfl (below_load hbw ci)) rfl ?_
        refine EL.val (x_assign rfl) rfl ?_
        refine EL.val (x_assign rfl) rfl ?_
        refine EL.nil ?_
        refine EX.seq ?_
        refine EC.seq ?_
        refine EC.region ?_
        refine EL.val (fa_25_2 rfl) rfl ?_
        refine EL.val (ld_23 rfl (below_load hb1 (q1c.at (j := 2) rfl))) rfl ?_
        refine EL.val (x_move rfl) rfl ?_
        refine EL.val (ix_23 rfl rfl hjc) rfl ?_
        refine EL.val (fa_74_0 rfl) rfl ?_
        refine EL.val (ld_72 rfl (below_load hbw hcell)) rfl ?_
        refine EL.val (x_move rfl) rfl ?_
        refine EL.val (ix_72 rfl rfl hmn) rfl ?_
        refine EL.val (ld_71 rfl (below_load hbw oc.c0) (below_load hbw oc.c1) (below_load hbw oc.c2) (below_load hbw oc.c3) (below_load hbw oc.c4) (below_load hbw oc.c5)) rfl ?_
        refine EL.newP al_71 rfl ?_
        intro g8 w8 q8 hb8 hg8 hl8
        have n2_8 : g2 ≠ g8 := Nat.ne_of_lt (Nat.lt_of_lt_of_le qw.lt hg8)
        have bhbw_8 := Nat.le_trans hbw.size hg8
        have bhb1_8 := Nat.le_trans hb1.size hg8
        replace qw := qw.below hb8 qw.lt
        replace ho := own_below ho hb8 (Nat.le_refl _)
        replace hbw := Below.on hbw hb8 hbw.size
        replace hb1 := Below.on hb1 hb8 hb1.size
        clear hb8 hg8 hl8
        refine EL.store rfl rfl q8 sz_71 rfl rfl rfl rfl ?_
        intro w9 hq9 hg9
        replace qw := qw.grown hg9 (fun h => n2_8 (Option.some.inj h))
        replace ho := own_type ho q8 rfl hg9
        replace hbw := below_store hbw hg9 bhbw_8
        replace hb1 := below_store hb1 hg9 bhb1_8
        replace q8 := hq9
        clear hg9 hq9
        refine EL.nil ?_
        refine EX.seq ?_
        refine EC.seq ?_
        refine EC.region ?_
        refine EL.val (x_move rfl) rfl ?_
        refine EL.val (mf_64_1_0 rfl) rfl ?_
        refine EL.val (x_assign rfl) rfl ?_
        refine EL.nil ?_
        refine EX.seq ?_
        refine EC.seq ?_
        refine EC.seq ?_
        refine EC.region ?_
        refine EL.val (fa_71_2 rfl) rfl ?_
        refine EL.val (ld_3 rfl (q8.at (j := 2) rfl)) rfl ?_
        refine EL.val (x_assign rfl) rfl ?_
        refine EL.nil ?_
        refine EX.seq ?_
        refine EC.seq ?_
        refine EC.region ?_
        refine EL.val (fa_71_0 rfl) rfl ?_
        refine EL.val (ld_69 rfl (q8.at (j := 0) rfl)) rfl ?_
        by_cases hkd : o.kind = 2
        ·
          refine EL.val (x_eql rfl rfl (by first | assumption | exact decide_eq_true (by omega))) rfl ?_
          refine EL.nil ?_
          refine EX.seq ?_
          refine EC.yes rfl ?_
          refine EC.seq ?_
          refine EC.regionQ (by kernel_rfl) (by kernel_rfl) ?_
          refine EQ.val (fun _ hw => (x_move rfl)) rfl ?_
          refine EQ.val (fun _ hw => (mf_56_1_0 rfl)) rfl ?_
          refine EQ.val (fun _ hw => (fa_71_3 rfl)) rfl ?_
          refine EQ.val (fun _ hw => (ld_3 rfl (below_load hw (q8.at (j := 3) rfl)))) rfl ?_
          refine EQ.val (fun _ hw => (x_assign rfl)) rfl ?_
          refine EQ.val (fun _ hw => (x_assign rfl)) rfl ?_
          refine EQ.fin (fun w10 hw_ => ?_)
          replace qw := qw.below hw_ qw.lt
          replace q8 := q8.below hw_ q8.lt
          replace ho := own_below ho hw_ (Nat.le_refl _)
          replace hbw := Below.on hbw hw_ hbw.size
          replace hb1 := Below.on hb1 hw_ hb1.size
          clear hw_
          refine EX.seq ?_
          refine EC.seq ?_
          have lt_2 := qw.lt
          have lt_8 := q8.lt
          refine EC.regionP [[], [], [], [1, 2], [], [], [5], [1, 2, 3, 4, 5, 6], [], [8], [0, 1, 2, 3, 4, 5, 6, 7, 8, 9]] 10 [] (phi (fun i_ r => match i_ with | 0 => r 0 = .pointer (some ⟨g2, 0, none⟩) | 1 => r 1 = .func (.func 56) #[.pointer (some ⟨g2, 0, none⟩)] #[] | 2 => r 2 = .int .i64 o.after | 3 => r 3 = .int .i64 (1 + o.after) | 4 => r 4 = .pointer (some ⟨g2, 0, none⟩) | 5 => r 5 = .pointer (some ⟨g8, 1, none⟩) | 6 => r 6 = .int .i64 o.event | 7 => r 7 = .int .i64 (1 + o.event) | 8 => r 8 = .pointer (some ⟨g8, 4, none⟩) | 9 => r 9 = .agg #[.int .i64 o.mins.lo, .int .i64 o.mins.hi] | _ => True) []) (by kernel_rfl) rfl rfl (phi_nil) (fun i_ hi_ => ?_) ?_
          · match i_, hi_ with
            | 0, _ =>
              intro val w1 a hb ha hd
              have ha := ha.sub (Sub.ins (d := 5) (Sub.nil _) rfl)
              exact hs_val ha rfl rfl (x_move rfl) rfl rfl
            | 1, _ =>
              intro val w1 a hb ha hd
              have ha := ha.sub (Sub.ins (d := 12) (Sub.nil _) rfl)
              exact hs_val ha rfl rfl (x_move rfl) rfl rfl
            | 2, _ =>
              intro val w1 a hb ha hd
              have ha := ha.sub (Sub.ins (d := 13) (Sub.nil _) rfl)
              exact hs_val ha rfl rfl (x_move rfl) rfl rfl
            | 3, _ =>
              intro val w1 a hb ha hd
              have e1 : val 1 = .func (.func 56) #[.pointer (some ⟨g2, 0, none⟩)] #[] := hd 1 (memB_mem.1 rfl)
              have e2 : val 2 = .int .i64 o.after := hd 2 (memB_mem.1 rfl)
              have ha := ha.sub (Sub.ins (d := 79) (Sub.ins (d := 78) (Sub.nil _) (dep_get rfl e1)) (dep_get rfl e2))
              refine hs_call ha rfl rfl (clv_56_1_1_0 rfl rfl) (event_any _ _ _ (by have := hop.kind; omega)) rfl ?_
              rintro e w' ⟨rfl, hb'⟩
              exact ⟨_, rfl, hb', rfl⟩
            | 4, _ =>
              intro val w1 a hb ha hd
              have ha := ha.sub (Sub.ins (d := 5) (Sub.nil _) rfl)
              exact hs_val ha rfl rfl (x_move rfl) rfl rfl
            | 5, _ =>
              intro val w1 a hb ha hd
              have ha := ha.sub (Sub.ins (d := 11) (Sub.nil _) rfl)
              exact hs_val ha rfl rfl (fa_71_1 rfl) rfl rfl
            | 6, _ =>
              intro val w1 a hb ha hd
              have e5 : val 5 = .pointer (some ⟨g8, 1, none⟩) := hd 5 (memB_mem.1 rfl)
              have ha := ha.sub (Sub.ins (d := 82) (Sub.nil _) (dep_get rfl e5))
              exact hs_val ha rfl rfl (ld_3 rfl ((q8.below hb q8.lt).at (j := 1) rfl)) rfl rfl
            | 7, _ =>
              intro val w1 a hb ha hd
              have e4 : val 4 = .pointer (some ⟨g2, 0, none⟩) := hd 4 (memB_mem.1 rfl)
              have e6 : val 6 = .int .i64 o.event := hd 6 (memB_mem.1 rfl)
              have ha := ha.sub (Sub.ins (d := 83) (Sub.ins (d := 81) (Sub.nil _) (dep_get rfl e4)) (dep_get rfl e6))
              refine hs_call ha rfl rfl (cl_56 rfl rfl) (event_any _ _ _ (by omega)) rfl ?_
              rintro e w' ⟨rfl, hb'⟩
              exact ⟨_, rfl, hb', rfl⟩
            | 8, _ =>
              intro val w1 a hb ha hd
              have ha := ha.sub (Sub.ins (d := 11) (Sub.nil _) rfl)
              exact hs_val ha rfl rfl (fa_71_4 rfl) rfl rfl
            | 9, _ =>
              intro val w1 a hb ha hd
              have e8 : val 8 = .pointer (some ⟨g8, 4, none⟩) := hd 8 (memB_mem.1 rfl)
              have ha := ha.sub (Sub.ins (d := 85) (Sub.nil _) (dep_get rfl e8))
              exact hs_val ha rfl rfl (ld_54 rfl ((q8.below hb q8.lt).at (j := 4) rfl) ((q8.below hb q8.lt).at (j := 5) rfl)) rfl rfl
            | k + 10, h => exact absurd h (by omega)
          · intro val wR20 hb halc hd
            have e0 : val 0 = .pointer (some ⟨g2, 0, none⟩) := hd 0 (by omega)
            have e1 : val 1 = .func (.func 56) #[.pointer (some ⟨g2, 0, none⟩)] #[] := hd 1 (by omega)
            have e2 : val 2 = .int .i64 o.after := hd 2 (by omega)
            have e3 : val 3 = .int .i64 (1 + o.after) := hd 3 (by omega)
            have e4 : val 4 = .pointer (some ⟨g2, 0, none⟩) := hd 4 (by omega)
            have e5 : val 5 = .pointer (some ⟨g8, 1, none⟩) := hd 5 (by omega)
            have e6 : val 6 = .int .i64 o.event := hd 6 (by omega)
            have e7 : val 7 = .int .i64 (1 + o.event) := hd 7 (by omega)
            have e8 : val 8 = .pointer (some ⟨g8, 4, none⟩) := hd 8 (by omega)
            have e9 : val 9 = .agg #[.int .i64 o.mins.lo, .int .i64 o.mins.hi] := hd 9 (by omega)
            refine EL.ends (cs := [.pointer (some ⟨g2, 0, none⟩), .func (.func 56) #[.pointer (some ⟨g2, 0, none⟩)] #[], .int .i64 o.after, .int .i64 (1 + o.after), .pointer (some ⟨g2, 0, none⟩), .pointer (some ⟨g8, 1, none⟩), .int .i64 o.event, .int .i64 (1 + o.event), .pointer (some ⟨g8, 4, none⟩), .agg #[.int .i64 o.mins.lo, .int .i64 o.mins.hi]]) ⟨e0, e1, e2, e3, e4, e5, e6, e7, e8, e9, trivial⟩ rfl ?_
            replace qw := qw.below hb qw.lt
            replace q8 := q8.below hb q8.lt
            replace ho := own_below ho hb (Nat.le_refl _)
            replace hbw := Below.on hbw hb hbw.size
            replace hb1 := Below.on hb1 hb hb1.size
            clear hb
            have e1 : (1 : Int) + o.after = ((optFrom c o : Nat) : Int) := by have := hop.kind; unfold optFrom; split <;> omega
            have e2 : (1 : Int) + o.event = ((1 + o.event.toNat : Nat) : Int) := by omega
            rw [e1, e2]
            have hlj := crsAll_len hcr (Nat.le_of_lt hjl)
            have hlen : i * 2 + c.clocks.length * 2 + j * 2 = (evLinks i ++ clLinks c c.clocks.length ++ crsLinks c l j).length := by rw [List.length_append, List.length_append, evLinks_len, clLinks_len, hlj]
            rw [hlen] at ho
            refine EL.call (cl_63 rfl rfl rfl rfl) rfl (link_any w1.heap.size g2 (optFrom c o) (1 + o.event.toNat) o.mins (evLinks i ++ clLinks c c.clocks.length ++ crsLinks c l j) wR20 (by omega) qw ho hgw hb1.size (by omega)) ?_
            rintro e w11 ⟨rfl, v', hqw', ho', hup'⟩
            refine ⟨_, rfl, ?_⟩
            replace hb1 := hb1.trans hup'.low
            replace hbw := hbw.trans (hup'.low.mono hsz1)
            replace qw := hqw'
            clear hqw' hup'
            refine EL.nil ?_
            refine EX.seq ?_
            refine EC.exit ?_
            refine EX.seq_exit ?_
            refine EX.blk_here ?_
            refine EX.seq ?_
            refine EC.region ?_
            refine EL.val (x_add rfl rfl (by first | assumption | exact IntWalk.i64_in _ ⟨by omega, by omega⟩)) rfl ?_
            refine EL.val (x_move rfl) rfl ?_
            refine EL.nil ?_
            refine EX.roundD (j + 1) ⟨rfl, trivial⟩ (by repeat first | with_reducible exact Sub.refl _ | refine sub_past rfl ?_ | exact Sub.refl _ | refine sub_del rfl ?_ | refine sub_insL_nil ?_) ⟨hjl, _, qw, by rw [← hlen] at ho'; rw [crsLinks, range_flat, ← crsLinks, hcj, optL, ← List.append_assoc, show i * 2 + c.clocks.length * 2 + (j + 1) * 2 = i * 2 + c.clocks.length * 2 + j * 2 + 2 by omega]; exact ho', hbw, hb1⟩ (by omega)
        ·
          refine EL.val (x_eql rfl rfl (by first | assumption | exact decide_eq_false (by omega))) rfl ?_
          refine EL.nil ?_
          refine EX.seq ?_
          refine EC.no rfl ?_
          refine EC.skip ?_
          refine EX.seq ?_
          have lt_2 := qw.lt
          have lt_8 := q8.lt
          refine EC.regionP [[], [], [], [2], [1, 2, 3], [], [], [6], [1, 2, 3, 4, 5, 6, 7], [], [9], [0, 1, 2, 3, 4, 5, 6, 7, 8, 9, 10]] 11 [] (phi (fun i_ r => match i_ with | 0 => r 0 = .pointer (some ⟨g2, 0, none⟩) | 1 => r 1 = .func (.func 64) #[.pointer (some ⟨g2, 0, none⟩)] #[] | 2 => r 2 = .pointer (some ⟨g8, 2, none⟩) | 3 => r 3 = .int .i64 o.clock | 4 => r 4 = .int .i64 (1 + c.events + o.clock) | 5 => r 5 = .pointer (some ⟨g2, 0, none⟩) | 6 => r 6 = .pointer (some ⟨g8, 1, none⟩) | 7 => r 7 = .int .i64 o.event | 8 => r 8 = .int .i64 (1 + o.event) | 9 => r 9 = .pointer (some ⟨g8, 4, none⟩) | 10 => r 10 = .agg #[.int .i64 o.mins.lo, .int .i64 o.mins.hi] | _ => True) []) (by kernel_rfl) rfl rfl (phi_nil) (fun i_ hi_ => ?_) ?_
          · match i_, hi_ with
            | 0, _ =>
              intro val w1 a hb ha hd
              have ha := ha.sub (Sub.ins (d := 5) (Sub.nil _) rfl)
              exact hs_val ha rfl rfl (x_move rfl) rfl rfl
            | 1, _ =>
              intro val w1 a hb ha hd
              have ha := ha.sub (Sub.ins (d := 12) (Sub.nil _) rfl)
              exact hs_val ha rfl rfl (x_move rfl) rfl rfl
            | 2, _ =>
              intro val w1 a hb ha hd
              have ha := ha.sub (Sub.ins (d := 11) (Sub.nil _) rfl)
              exact hs_val ha rfl rfl (fa_71_2 rfl) rfl rfl
            | 3, _ =>
              intro val w1 a hb ha hd
              have e2 : val 2 = .pointer (some ⟨g8, 2, none⟩) := hd 2 (memB_mem.1 rfl)
              have ha := ha.sub (Sub.ins (d := 90) (Sub.nil _) (dep_get rfl e2))
              exact hs_val ha rfl rfl (ld_3 rfl ((q8.below hb q8.lt).at (j := 2) rfl)) rfl rfl
            | 4, _ =>
              intro val w1 a hb ha hd
              have e1 : val 1 = .func (.func 64) #[.pointer (some ⟨g2, 0, none⟩)] #[] := hd 1 (memB_mem.1 rfl)
              have e3 : val 3 = .int .i64 o.clock := hd 3 (memB_mem.1 rfl)
              have ha := ha.sub (Sub.ins (d := 91) (Sub.ins (d := 89) (Sub.nil _) (dep_get rfl e1)) (dep_get rfl e3))
              refine hs_call ha rfl rfl (clv_64_1_1_0 rfl rfl) (clock_any _ _ _ (by first | exact (qw.below hb qw.lt) | exact qw) (by omega) (by have := hop.kind; omega)) rfl ?_
              rintro e w' ⟨rfl, hb'⟩
              exact ⟨_, rfl, hb', rfl⟩
            | 5, _ =>
              intro val w1 a hb ha hd
              have ha := ha.sub (Sub.ins (d := 5) (Sub.nil _) rfl)
              exact hs_val ha rfl rfl (x_move rfl) rfl rfl
            | 6, _ =>
              intro val w1 a hb ha hd
              have ha := ha.sub (Sub.ins (d := 11) (Sub.nil _) rfl)
              exact hs_val ha rfl rfl (fa_71_1 rfl) rfl rfl
            | 7, _ =>
              intro val w1 a hb ha hd
              have e6 : val 6 = .pointer (some ⟨g8, 1, none⟩) := hd 6 (memB_mem.1 rfl)
              have ha := ha.sub (Sub.ins (d := 94) (Sub.nil _) (dep_get rfl e6))
              exact hs_val ha rfl rfl (ld_3 rfl ((q8.below hb q8.lt).at (j := 1) rfl)) rfl rfl
            | 8, _ =>
              intro val w1 a hb ha hd
              have e5 : val 5 = .pointer (some ⟨g2, 0, none⟩) := hd 5 (memB_mem.1 rfl)
              have e7 : val 7 = .int .i64 o.event := hd 7 (memB_mem.1 rfl)
              have ha := ha.sub (Sub.ins (d := 95) (Sub.ins (d := 93) (Sub.nil _) (dep_get rfl e5)) (dep_get rfl e7))
              refine hs_call ha rfl rfl (cl_56 rfl rfl) (event_any _ _ _ (by omega)) rfl ?_
              rintro e w' ⟨rfl, hb'⟩
              exact ⟨_, rfl, hb', rfl⟩
            | 9, _ =>
              intro val w1 a hb ha hd
              have ha := ha.sub (Sub.ins (d := 11) (Sub.nil _) rfl)
              exact hs_val ha rfl rfl (fa_71_4 rfl) rfl rfl
            | 10, _ =>
              intro val w1 a hb ha hd
              have e9 : val 9 = .pointer (some ⟨g8, 4, none⟩) := hd 9 (memB_mem.1 rfl)
              have ha := ha.sub (Sub.ins (d := 97) (Sub.nil _) (dep_get rfl e9))
              exact hs_val ha rfl rfl (ld_54 rfl ((q8.below hb q8.lt).at (j := 4) rfl) ((q8.below hb q8.lt).at (j := 5) rfl)) rfl rfl
            | k + 11, h => exact absurd h (by omega)
          · intro val wR21 hb halc hd
            have e0 : val 0 = .pointer (some ⟨g2, 0, none⟩) := hd 0 (by omega)
            have e1 : val 1 = .func (.func 64) #[.pointer (some ⟨g2, 0, none⟩)] #[] := hd 1 (by omega)
            have e2 : val 2 = .pointer (some ⟨g8, 2, none⟩) := hd 2 (by omega)
            have e3 : val 3 = .int .i64 o.clock := hd 3 (by omega)
            have e4 : val 4 = .int .i64 (1 + c.events + o.clock) := hd 4 (by omega)
            have e5 : val 5 = .pointer (some ⟨g2, 0, none⟩) := hd 5 (by omega)
            have e6 : val 6 = .pointer (some ⟨g8, 1, none⟩) := hd 6 (by omega)
            have e7 : val 7 = .int .i64 o.event := hd 7 (by omega)
            have e8 : val 8 = .int .i64 (1 + o.event) := hd 8 (by omega)
            have e9 : val 9 = .pointer (some ⟨g8, 4, none⟩) := hd 9 (by omega)
            have e10 : val 10 = .agg #[.int .i64 o.mins.lo, .int .i64 o.mins.hi] := hd 10 (by omega)
            refine EL.ends (cs := [.pointer (some ⟨g2, 0, none⟩), .func (.func 64) #[.pointer (some ⟨g2, 0, none⟩)] #[], .pointer (some ⟨g8, 2, none⟩), .int .i64 o.clock, .int .i64 (1 + c.events + o.clock), .pointer (some ⟨g2, 0, none⟩), .pointer (some ⟨g8, 1, none⟩), .int .i64 o.event, .int .i64 (1 + o.event), .pointer (some ⟨g8, 4, none⟩), .agg #[.int .i64 o.mins.lo, .int .i64 o.mins.hi]]) ⟨e0, e1, e2, e3, e4, e5, e6, e7, e8, e9, e10, trivial⟩ rfl ?_
            replace qw := qw.below hb qw.lt
            replace q8 := q8.below hb q8.lt
            replace ho := own_below ho hb (Nat.le_refl _)
            replace hbw := Below.on hbw hb hbw.size
            replace hb1 := Below.on hb1 hb hb1.size
            clear hb
            have e1 : (1 : Int) + c.events + o.clock = ((optFrom c o : Nat) : Int) := by have := hop.kind; unfold optFrom; split <;> omega
            have e2 : (1 : Int) + o.event = ((1 + o.event.toNat : Nat) : Int) := by omega
            rw [e1, e2]
            have hlj := crsAll_len hcr (Nat.le_of_lt hjl)
            have hlen : i * 2 + c.clocks.length * 2 + j * 2 = (evLinks i ++ clLinks c c.clocks.length ++ crsLinks c l j).length := by rw [List.length_append, List.length_append, evLinks_len, clLinks_len, hlj]
            rw [hlen] at ho
            refine EL.call (cl_63 rfl rfl rfl rfl) rfl (link_any w1.heap.size g2 (optFrom c o) (1 + o.event.toNat) o.mins (evLinks i ++ clLinks c c.clocks.length ++ crsLinks c l j) wR21 (by omega) qw ho hgw hb1.size (by omega)) ?_
            rintro e w12 ⟨rfl, v', hqw', ho', hup'⟩
            refine ⟨_, rfl, ?_⟩
            replace hb1 := hb1.trans hup'.low
            replace hbw := hbw.trans (hup'.low.mono hsz1)
            replace qw := hqw'
            clear hqw' hup'
            refine EL.nil ?_
            refine EX.blk ?_
            refine EX.seq ?_
            refine EC.region ?_
            refine EL.val (x_add rfl rfl (by first | assumption | exact IntWalk.i64_in _ ⟨by omega, by omega⟩)) rfl ?_
            refine EL.val (x_move rfl) rfl ?_
            refine EL.nil ?_
            refine EX.roundD (j + 1) ⟨rfl, trivial⟩ (by repeat first | with_reducible exact Sub.refl _ | refine sub_past rfl ?_ | exact Sub.refl _ | refine sub_del rfl ?_ | refine sub_insL_nil ?_) ⟨hjl, _, qw, by rw [← hlen] at ho'; rw [crsLinks, range_flat, ← crsLinks, hcj, optL, ← List.append_assoc, show i * 2 + c.clocks.length * 2 + (j + 1) * 2 = i * 2 + c.clocks.length * 2 + j * 2 + 2 by omega]; exact ho', hbw, hb1⟩ (by omega)
      ·
        obtain rfl : j = l.length := by omega
        have hgw := hgw0
        refine EC.seq ?_
        refine EC.region ?_
        refine EL.val (x_lss rfl rfl (by first | assumption | exact decide_eq_false (by omega))) rfl ?_
        refine EL.nil ?_
        refine EX.seq ?_
        refine EC.seq ?_
        refine EC.no rfl ?_
        refine EC.exit ?_
        refine EX.seq_exit ?_
        refine EX.seq_exit ?_
        refine EX.blk_here ?_
        refine EX.seq ?_
        refine EC.seq ?_
        refine EC.region ?_
        refine EL.val (x_move rfl) rfl ?_
        refine EL.val (x_assign rfl) rfl ?_
        refine EL.nil ?_
        refine EX.seq ?_
        refine EC.ret ?_
        exact EX.done (res1 rfl rfl) ⟨⟨_, _, rfl, qw, by rw [linksOf, eN2]; have key := Rd.of_own ho; rw [show (i * 2 + c.clocks.length * 2 + l.length * 2) = (evLinks i ++ clLinks c c.clocks.length ++ crsLinks c l l.length).length by rw [List.length_append, List.length_append, evLinks_len, clLinks_len, crsAll_len hcr (Nat.le_refl _)]] at key; exact key⟩, hbw⟩
end Go.Proofs.Ytmaiiigijjfjfaa
set_option linter.unusedVariables false
namespace Go.Proofs.Ytmaiiigijjfjfaa
open Go Go.RowKit
structure St where
  most : List Int
  via : List Int
  ring : Int
def farI : Int := 1099511627776
def rlx (s : St) (i : Nat) (x : Lnk) : St :=
  if s.most.getD x.fr 0 < farI ∧ s.most.getD x.fr 0 + x.most < s.most.getD x.to 0 then ⟨s.most.set x.to (s.most.getD x.fr 0 + x.most), s.via.set x.to i, (x.to : Nat)⟩ else s
def relaxN (ls : List Lnk) (s : St) : Nat → St
  | 0 => s
  | k + 1 => rlx (relaxN ls s k) k (ls.getD k lnk0)
def roundS (ls : List Lnk) (s : St) : St := relaxN ls ⟨s.most, s.via, -1⟩ ls.length
def rounds (ls : List Lnk) (s : St) : Nat → St
  | 0 => s
  | k + 1 => if 0 < k ∧ (rounds ls s k).ring < 0 then rounds ls s k else roundS ls (rounds ls s k)
def initI (fr : Int) (i : Nat) : Int := if (i : Int) = fr ∨ fr < 0 then 0 else farI
def initM (n : Nat) (fr : Int) : List Int := (List.range n).map (initI fr)
def initB (n : Nat) : List Int := (List.range n).map fun _ => -1
def reachS (ls : List Lnk) (n : Nat) (fr : Int) : St := rounds ls ⟨initM n fr, initB n, 0⟩ n
theorem initM_succ (n : Nat) (fr : Int) : initM (n + 1) fr = initM n fr ++ [initI fr n] := by simp [initM, List.range_succ]
theorem initB_succ (n : Nat) : initB (n + 1) = initB n ++ [-1] := by simp [initB, List.range_succ]
theorem initM_len (n : Nat) (fr : Int) : (initM n fr).length = n := by simp [initM]
theorem initB_len (n : Nat) : (initB n).length = n := by simp [initB]
theorem ints_app (l m : List Int) : ints (l ++ m) = ints l ++ ints m := by simp [ints]
/-- a state for n variables, with bounds -/
structure StOk (n : Nat) (D : Int) (s : St) : Prop where
  most : s.most.length = n
  via : s.via.length = n
  bnd : ∀ v, v < n → -D ≤ s.most.getD v 0 ∧ s.most.getD v 0 ≤ farI
/-- links between n variables -/
def LnksOk (n : Nat) (ls : List Lnk) : Prop := ∀ k, k < ls.length → (ls.getD k lnk0).fr < n ∧ (ls.getD k lnk0).to < n ∧ -2000000 ≤ (ls.getD k lnk0).most ∧ (ls.getD k lnk0).most ≤ 2000000
theorem StOk.more {n : Nat} {D D' : Int} {s : St} (h : StOk n D s) (hD : D ≤ D') : StOk n D' s := ⟨h.most, h.via, fun v hv => by have := h.bnd v hv; omega⟩
theorem StOk.ring {n : Nat} {D : Int} {s : St} (h : StOk n D s) (r : Int) : StOk n D ⟨s.most, s.via, r⟩ := ⟨h.most, h.via, h.bnd⟩
theorem rlx_ok {n : Nat} {D : Int} {s : St} (hD : 0 ≤ D) (h : StOk n D s) {i : Nat} {x : Lnk} (h1 : x.fr < n) (h2 : x.to < n) (h3 : -2000000 ≤ x.most) : StOk n (D + 2000000) (rlx s i x) := by
  unfold rlx
  split
  · rename_i hc
    refine ⟨by simpa using h.most, by simpa using h.via, fun v hv => ?_⟩
    have hm := h.most
    simp only
    rw [getD_setR (by omega)]
    have hf := h.bnd x.fr h1
    have ht := h.bnd x.to h2
    have hv' := h.bnd v hv
    split <;> omega
  · exact h.more (by omega)
theorem relaxN_ok {n : Nat} {ls : List Lnk} (hl : LnksOk n ls) : ∀ {k : Nat} {D : Int} {s : St}, 0 ≤ D → StOk n D s → k ≤ ls.length → StOk n (D + k * 2000000) (relaxN ls s k)
  | 0, D, s, _, h, _ => h.more (by omega)
  | k + 1, D, s, hD, h, hk => by
    have h1 := relaxN_ok (k := k) hl hD h (by omega)
    have h2 := hl k (by omega)
    exact (rlx_ok (by omega) h1 h2.1 h2.2.1 h2.2.2.1).more (by omega)
theorem init_ok (n : Nat) (fr : Int) (r : Int) : StOk n 0 ⟨initM n fr, initB n, r⟩ := ⟨initM_len n fr, initB_len n, fun v hv => by
  have e : (initM n fr).getD v 0 = initI fr v := by simp [initM, hv]
  simp only
  rw [e, initI]
  split <;> simp [farI]⟩
theorem round_ok {n : Nat} {ls : List Lnk} (hl : LnksOk n ls) {D : Int} {s : St} (hD : 0 ≤ D) (h : StOk n D s) : StOk n (D + ls.length * 2000000) (roundS ls s) := relaxN_ok hl hD (h.ring _) (Nat.le_refl _)
theorem rounds_ok {n : Nat} {ls : List Lnk} (hl : LnksOk n ls) (hm : ls.length ≤ 200) {s : St} (h : StOk n 0 s) : ∀ k : Nat, StOk n (k * 400000000) (rounds ls s k)
  | 0 => h.more (by omega)
  | k + 1 => by
    have h1 := rounds_ok hl hm h k
    rw [rounds]
    split
    · exact h1.more (by omega)
    · exact (round_ok hl (by omega) h1).more (by omega)
theorem rounds_stop {ls : List Lnk} {s : St} {k : Nat} (hk : 0 < k) (h : (rounds ls s k).ring < 0) : ∀ j, rounds ls s (k + j) = rounds ls s k
  | 0 => rfl
  | j + 1 => by
    have ih := rounds_stop hk h j
    rw [← Nat.add_assoc, rounds, ih, if_pos ⟨by omega, h⟩]
/-! ### Two rows of integers of one's own -/
theorem int_cell {w : World} {base T g c n k : Nat} {xs : List Int} (h : w.ownsRow base T 1 (.slice (some ⟨g, 0, none⟩) n c) n (ints xs)) (hn : xs.length = n) (hk : k < n) : w.cell? ⟨g, 0 + k, none⟩ = some (.int .i64 (xs.getD k 0)) := by
  subst hn
  obtain ⟨b, o, e, _, h1⟩ := ints_cells xs k hk w _ _ _ _ (Rd.of_own h)
  injection e with e
  injection e with e1 e2
  subst e1
  subst e2
  exact h1
theorem ints_set : ∀ {l : List Int} {i : Nat} (a : Int), i < l.length → spl (ints l) i [.int .i64 a] = ints (l.set i a)
  | [], i, _, h => by simp at h
  | x :: l, 0, a, _ => by
    show Value.int .i64 a :: ovr (ints l) [] = _
    rw [ovr_eq _ _ (by simp)]
    rfl
  | x :: l, i + 1, a, h => by
    have ih := ints_set (l := l) (i := i) a (by simpa using h)
    show Value.int .i64 x :: spl (ints l) i [.int .i64 a] = _
    rw [ih]
    rfl
theorem apart_push {w : World} {v v' u : Value} {base e size n : Nat} {xs : List Value} (h : Apart v u) (hu : w.ownsRow base e size u n xs) (hat : v'.ownBlock = v.ownBlock ∨ v'.ownBlock = some w.heap.size) : Apart v' u := fun g h1 h2 => by
  rcases hat with h3 | h3
  · exact h g (h3 ▸ h1) h2
  · rw [h3] at h1
    injection h1 with h1
    have := (hu.lt g h2).2
    omega
end Go.Proofs.Ytmaiiigijjfjfaa
set_option linter.unusedVariables false
set_option linter.unusedSimpArgs false
namespace Go.Proofs.Ytmaiiigijjfjfaa
open Go Go.RowKit
section
variable {n : Nat} {σ : Sg} {w : World} {dst : Option Tmp} {ty : TypeId} {pos : String} {af : Array Edge} {g : Option (Nat × Bool)} {x y z : Operand} {at' : Array TypeId}
theorem cl_66 {x0 : Operand} {v0 : Value} (h0 : evS σ x0 = some v0) (a : Act) (ha : Env n σ a) : (execOp a.eval ⟨dst, .call { callee := .value (.func 66), args := #[x0], argTypes := at' }, ty, pos, af, g⟩).run Try.prog w = .ok (.enter 66 #[v0]) w := by
  simp only [execOp, resolve, List.map_toArray, List.map_cons, List.map_nil, ha.eval h0]
  simp [go_sem, Act.eval]
theorem ln_29 {A : Option Addr} {m c : Nat} (hx : evS σ x = some (.slice A m c)) : Gives Try.prog n σ w ⟨dst, .call { callee := .builtin .len, args := #[x], argTypes := #[29] }, ty, pos, af, g⟩ (.int .i64 (m : Int)) := fun a ha => by
  simp only [execOp, resolve, List.map_toArray, List.map_cons, List.map_nil, ha.eval hx]
  simp [go_sem]
theorem ix_29 {b o m c k : Nat} (hx : evS σ x = some (.slice (some ⟨b, o, none⟩) m c)) (hy : evS σ y = some (.int .i64 (k : Int))) (hk : k < m) : Gives Try.prog n σ w ⟨dst, .indexAddr 29 x y, ty, pos, af, g⟩ (.pointer (some ⟨b, o + k * 3, none⟩)) := fun a ha => by
  have k0 : (0 : Int) ≤ (k : Int) := Int.natCast_nonneg _
  have k1 : (k : Int) < (m : Int) := by omega
  simp only [execOp, ha.eval hx, ha.eval hy]
  simp [go_sem, k0, k1]
theorem ld_39 {b o : Nat} {v0 v1 v2 : Value} (hx : evS σ x = some (.pointer (some ⟨b, o, none⟩))) (c0 : w.cell? ⟨b, o, none⟩ = some v0) (c1 : w.cell? ⟨b, o + 1, none⟩ = some v1) (c2 : w.cell? ⟨b, o + 2, none⟩ = some v2) : Gives Try.prog n σ w ⟨dst, .load 39 x, ty, pos, af, g⟩ (.agg #[v0, v1, v2]) := fun a ha => by
  simp only [execOp, ha.eval hx]
  simp [go_sem, c0, c1, c2]
theorem al_39 (a : Act) (_ : Env n σ a) : (execOp a.eval ⟨dst, .alloc 39, ty, pos, af, g⟩).run Try.prog w = .ok (.value (.pointer (some ⟨w.heap.size, 0, none⟩))) (w.alloc (.cells #[.int .i64 0, .int .i64 0, .int .i64 0] 39)) := by
  simp only [execOp]
  simp [go_sem]
theorem sz_39 : (Try.prog.info? 39).map (·.size) = some 3 := by kernel_rfl
theorem fa_39_0 {b o : Nat} (hx : evS σ x = some (.pointer (some ⟨b, o, none⟩))) : Gives Try.prog n σ w ⟨dst, .fieldAddr 39 x 0, ty, pos, af, g⟩ (.pointer (some ⟨b, o, none⟩)) := fun a ha => by
  simp only [execOp, ha.eval hx]
  simp [go_sem]
theorem fa_39_2 {b o : Nat} (hx : evS σ x = some (.pointer (some ⟨b, o, none⟩))) : Gives Try.prog n σ w ⟨dst, .fieldAddr 39 x 2, ty, pos, af, g⟩ (.pointer (some ⟨b, o + 2, none⟩)) := fun a ha => by
  simp only [execOp, ha.eval hx]
  simp [go_sem]
theorem fa_39_1 {b o : Nat} (hx : evS σ x = some (.pointer (some ⟨b, o, none⟩))) : Gives Try.prog n σ w ⟨dst, .fieldAddr 39 x 1, ty, pos, af, g⟩ (.pointer (some ⟨b, o + 1, none⟩)) := fun a ha => by
  simp only [execOp, ha.eval hx]
  simp [go_sem]
theorem sz_3 : (Try.prog.info? 3).map (·.size) = some 1 := by kernel_rfl
end
end Go.Proofs.Ytmaiiigijjfjfaa
set_option linter.unusedVariables false
set_option linter.unusedSimpArgs false
namespace Go.Proofs.Ytmaiiigijjfjfaa
open Go Go.RowKit
theorem i64_info : (Try.prog.info? 3).map (fun i => (i.zero, i.size, i.bytes)) = some (some (.int .i64 0), 1, 8) := by kernel_rfl
theorem i64_elem : Elem Try.prog 26 3 1 8 := Elem.mk' Try.underlying26 i64_info rfl (by omega)
theorem many_as {ev : Int} {A : Option Addr} {m c : Nat} {vl v : Value} {n : Nat} (g : Nat) (w : World) (hq : Blk w g 106 #[.int .i64 ev, .slice A m c, vl, v]) (hev : 0 ≤ ev ∧ ev ≤ 20) (hn : m ≤ 1000000) (h : 1 + ev + (m : Nat) = (n : Nat)) :
    Calls Try.prog 66 #[.pointer (some ⟨g, 0, none⟩)] w fun e w' => e = .returned (.int .i64 (n : Nat)) ∧ Below w.heap.size w w' := by
  rw [← h]; exact many_any g w hq hev hn
theorem kept_ne {w w' : World} {base e size n m g c g2 : Nat} {xs : List Value} (h : w.ownsRow base e size (.slice (some ⟨g, 0, none⟩) m c) n xs) (hg : w.grownBy w' (some g2)) (hne : g ≠ g2) : w'.ownsRow base e size (.slice (some ⟨g, 0, none⟩) m c) n xs := h.kept hg (.inr (fun h => hne (Option.some.inj h)))
theorem agree_st {σ : Sg} {t : Nat} {a b : St} (h : a = b) (hs : σ t = some (.int .i64 b.ring)) : σ t = some (.int .i64 a.ring) := by rw [hs, h]
set_option maxHeartbeats 4000000 in
set_option maxRecDepth 100000 in
theorem reach_any {ev : Int} {Ac : Option Addr} {nc cc : Nat} {vl : Value} {AL : Option Addr} {cL : Nat} (g n : Nat) (fr : Int) (ls : List Lnk) (w : World) (B : Nat) (hq : Blk w g 106 #[.int .i64 ev, .slice Ac nc cc, vl, .slice AL ls.length cL]) (hrl : Rd w B 3 (.slice AL ls.length cL) ls.length (lnksC ls)) (hB : B ≤ w.heap.size) (hev : 1 ≤ ev ∧ ev ≤ 20) (hnc : nc ≤ 8) (hn : 1 + ev + (nc : Nat) = (n : Nat)) (hls : LnksOk n ls) (hm200 : ls.length ≤ 200) :
    Calls Try.prog 65 #[.pointer (some ⟨g, 0, none⟩), .int .i64 fr] w fun e w' => (∃ vM vB, e = .returned (.tuple #[vM, vB, .int .i64 (reachS ls n fr).ring]) ∧ Rd w' w'.heap.size 1 vM n (ints (reachS ls n fr).most) ∧ Rd w' w'.heap.size 1 vB n (ints (reachS ls n fr).via)) ∧ Below w.heap.size w w' := by
  have hbw := Below.refl w.heap.size w
  refine EC.enter 88 Try.func65 rfl rfl rfl ?_
  refine EC.seq ?_
  refine EC.region ?_
  refine EL.val (x_assign rfl) rfl ?_
  refine EL.val (x_assign rfl) rfl ?_
  refine EL.val (x_assign rfl) rfl ?_
  refine EL.nil ?_
  refine EX.seq ?_
  refine EC.seq ?_
  refine EC.seq ?_
  refine EC.region ?_
  refine EL.val (x_move rfl) rfl ?_
  refine EL.call (cl_66 rfl) rfl (many_as g _ (hq.below hbw hq.lt) (by omega) (by omega) hn) ?_
  rintro e w1 ⟨rfl, hc1⟩
  refine ⟨_, rfl, ?_⟩
  replace hbw := Below.on hbw hc1 hbw.size
  clear hc1
  refine EL.val (x_move rfl) rfl ?_
  refine EL.nil ?_
  refine EX.seq ?_
  refine EC.block ?_
  refine EC.loopD [4, 5, 7, 8, 14, 15, 16, 17, 18, 19, 20, 21, 22, 23, 24, 25, 26, 27, 28, 29, 30, 31] (fun x : Nat × Value × Value => [(4, x.2.1), (5, x.2.2), (14, .int .i64 (x.1 : Nat))]) (fun x W => x.1 ≤ n ∧ W.ownsRow w.heap.size 3 1 x.2.1 (x.1) (ints (initM x.1 fr)) ∧ W.ownsRow w.heap.size 3 1 x.2.2 (x.1) (ints (initB x.1)) ∧ Apart x.2.1 x.2.2 ∧ Below w.heap.size w W) (fun x => n - x.1) (0, .slice none 0 0, .slice none 0 0) ⟨Nat.zero_le _, ⟨rfl, .inl ⟨rfl, rfl⟩⟩, ⟨rfl, .inl ⟨rfl, rfl⟩⟩, Apart.nil_left _, hbw⟩ ⟨rfl, rfl, rfl, trivial⟩ ?_
  clear hbw
  rintro ⟨k, vM, vB⟩ wk ⟨hk, hoM, hoB, ap, hbw⟩
  dsimp only at hk hoM hoB ap
  by_cases hlt : k < n
  ·
    refine EC.seq ?_
    refine EC.region ?_
    refine EL.val (x_lss rfl rfl (decide_eq_true (show ((k : Nat) : Int) < (n : Nat) by omega))) rfl ?_
    refine EL.nil ?_
    refine EX.seq ?_
    refine EC.seq ?_
    refine EC.yes rfl ?_
    refine EC.skip ?_
    refine EX.seq ?_
    refine EC.seq ?_
    refine EC.block ?_
    refine EC.seq ?_
    refine EC.region ?_
    refine EL.val (x_move rfl) rfl ?_
    refine EL.val (x_assign rfl) rfl ?_
    refine EL.nil ?_
    refine EX.seq ?_
    refine EC.seq ?_
    refine EC.region ?_
    refine EL.val (x_assign rfl) rfl ?_
    refine EL.nil ?_
    refine EX.seq ?_
    refine EC.seq ?_
    refine EC.seq ?_
    refine EC.region ?_
    refine EL.val (x_move rfl) rfl ?_
    refine EL.val (x_move rfl) rfl ?_
    by_cases h1 : ((k : Nat) : Int) = fr
    ·
      refine EL.val (x_eql rfl rfl (decide_eq_true (show ((k : Nat) : Int) = fr from h1))) rfl ?_
      refine EL.val (x_move rfl) rfl ?_
      refine EL.skip rfl rfl rfl rfl ?_
      refine EL.skip rfl rfl rfl rfl ?_
      refine EL.val (x_pick_t rfl rfl) rfl ?_
      refine EL.nil ?_
      refine EX.seq ?_
      refine EC.yes rfl ?_
      refine EC.region ?_
      refine EL.val (x_assign rfl) rfl ?_
      refine EL.nil ?_
      refine EX.seq ?_
      refine EC.region ?_
      refine EL.val (x_move rfl) rfl ?_
      refine EL.val (x_move rfl) rfl ?_
      refine EL.newS (bs_26_1 rfl) rfl ?_
      intro g2 w2 q2 hb2 hg2 hl2
      have bhbw_2 := Nat.le_trans hbw.size hg2
      replace hoM := own_below hoM hb2 (Nat.le_refl _)
      replace hoB := own_below hoB hb2 (Nat.le_refl _)
      replace hbw := Below.on hbw hb2 hbw.size
      clear hb2 hg2 hl2
      have hval : initI fr k = 0 := by rw [initI, if_pos (.inl h1)]
      rw [← hval] at q2
      refine EL.push i64_elem rfl rfl hoM (rd_one (l := [.int .i64 (initI fr k)]) q2 rfl) (fun u hu => by simp only [List.mem_singleton] at hu; subst hu; rfl) (by omega) rfl hbw.size rfl ?_
      intro vM2 wM2 ho2 hg hb2 hat
      have ap2 := apart_push ap hoB hat
      replace hoB := own_apart hoB hg ap
      have ap := ap2
      replace hbw := hbw.trans hb2
      have hoM := ho2
      clear ho2 hat hb2 hg ap2
      refine EL.val (x_move rfl) rfl ?_
      refine EL.newS (bs_26_1 rfl) rfl ?_
      intro g3 w3 q3 hb3 hg3 hl3
      have bhbw_3 := Nat.le_trans hbw.size hg3
      replace hoM := own_below hoM hb3 (Nat.le_refl _)
      replace hoB := own_below hoB hb3 (Nat.le_refl _)
      replace hbw := Below.on hbw hb3 hbw.size
      clear hb3 hg3 hl3
      refine EL.push i64_elem rfl rfl hoB (rd_one (l := [.int .i64 (-1)]) q3 rfl) (fun u hu => by simp only [List.mem_singleton] at hu; subst hu; rfl) (by omega) rfl hbw.size rfl ?_
      intro vB2 wB2 ho2 hg hb2 hat
      have ap2 := (apart_push ap.symm hoM hat).symm
      replace hoM := own_apart hoM hg ap.symm
      have ap := ap2
      replace hbw := hbw.trans hb2
      have hoB := ho2
      clear ho2 hat hb2 hg ap2
      refine EL.val (x_assign rfl) rfl ?_
      refine EL.val (x_assign rfl) rfl ?_
      refine EL.nil ?_
      refine EX.blk ?_
      refine EX.seq ?_
      refine EC.region ?_
      refine EL.val (x_add rfl rfl (c := ((k + 1 : Nat) : Int)) ((IntWalk.i64_in _ ⟨by first | omega | (simp only; omega), by first | omega | (simp only; omega)⟩).trans (by first | omega | (simp only; omega)))) rfl ?_
      refine EL.val (x_move rfl) rfl ?_
      refine EL.nil ?_
      refine EX.roundD (k + 1, _, _) ⟨rfl, rfl, rfl, trivial⟩ (by repeat first | with_reducible exact Sub.refl _ | refine sub_past rfl ?_ | exact Sub.refl _ | refine sub_del rfl ?_ | refine sub_insL_nil ?_) ⟨hlt, by rw [initM_succ, ints_app]; exact hoM, by rw [initB_succ, ints_app]; exact hoB, ap, hbw⟩ (by simp only; omega)
    ·
      refine EL.val (x_eql rfl rfl (decide_eq_false (show ¬((k : Nat) : Int) = fr from h1))) rfl ?_
      refine EL.val (x_move rfl) rfl ?_
      refine EL.valg rfl rfl (x_move rfl) rfl ?_
      by_cases h2 : fr < 0
      ·
        refine EL.valg rfl rfl (x_lss rfl rfl (by first | assumption | exact decide_eq_true (by omega))) rfl ?_
        refine EL.val (x_pick_f rfl rfl) rfl ?_
        refine EL.nil ?_
        refine EX.seq ?_
        refine EC.yes rfl ?_
        refine EC.region ?_
        refine EL.val (x_assign rfl) rfl ?_
        refine EL.nil ?_
        refine EX.seq ?_
        refine EC.region ?_
        refine EL.val (x_move rfl) rfl ?_
        refine EL.val (x_move rfl) rfl ?_
        refine EL.newS (bs_26_1 rfl) rfl ?_
        intro g4 w4 q4 hb4 hg4 hl4
        have bhbw_4 := Nat.le_trans hbw.size hg4
        replace hoM := own_below hoM hb4 (Nat.le_refl _)
        replace hoB := own_below hoB hb4 (Nat.le_refl _)
        replace hbw := Below.on hbw hb4 hbw.size
        clear hb4 hg4 hl4
        have hval : initI fr k = 0 := by rw [initI, if_pos (.inr h2)]
        rw [← hval] at q4
        refine EL.push i64_elem rfl rfl hoM (rd_one (l := [.int .i64 (initI fr k)]) q4 rfl) (fun u hu => by simp only [List.mem_singleton] at hu; subst hu; rfl) (by omega) rfl hbw.size rfl ?_
        intro vM2 wM2 ho2 hg hb2 hat
        have ap2 := apart_push ap hoB hat
        replace hoB := own_apart hoB hg ap
        have ap := ap2
        replace hbw := hbw.trans hb2
        have hoM := ho2
        clear ho2 hat hb2 hg ap2
        refine EL.val (x_move rfl) rfl ?_
        refine EL.newS (bs_26_1 rfl) rfl ?_
        intro g5 w5 q5 hb5 hg5 hl5
        have bhbw_5 := Nat.le_trans hbw.size hg5
        replace hoM := own_below hoM hb5 (Nat.le_refl _)
        replace hoB := own_below hoB hb5 (Nat.le_refl _)
        replace hbw := Below.on hbw hb5 hbw.size
        clear hb5 hg5 hl5
        refine EL.push i64_elem rfl rfl hoB (rd_one (l := [.int .i64 (-1)]) q5 rfl) (fun u hu => by simp only [List.mem_singleton] at hu; subst hu; rfl) (by omega) rfl hbw.size rfl ?_
        intro vB2 wB2 ho2 hg hb2 hat
        have ap2 := (apart_push ap.symm hoM hat).symm
        replace hoM := own_apart hoM hg ap.symm
        have ap := ap2
        replace hbw := hbw.trans hb2
        have hoB := ho2
        clear ho2 hat hb2 hg ap2
        refine EL.val (x_assign rfl) rfl ?_
        refine EL.val (x_assign rfl) rfl ?_
        refine EL.nil ?_
        refine EX.blk ?_
        refine EX.seq ?_
        refine EC.region ?_
        refine EL.val (x_add rfl rfl (c := ((k + 1 : Nat) : Int)) ((IntWalk.i64_in _ ⟨by first | omega | (simp only; omega), by first | omega | (simp only; omega)⟩).trans (by first | omega | (simp only; omega)))) rfl ?_
        refine EL.val (x_move rfl) rfl ?_
        refine EL.nil ?_
        refine EX.roundD (k + 1, _, _) ⟨rfl, rfl, rfl, trivial⟩ (by repeat first | with_reducible exact Sub.refl _ | refine sub_past rfl ?_ | exact Sub.refl _ | refine sub_del rfl ?_ | refine sub_insL_nil ?_) ⟨hlt, by rw [initM_succ, ints_app]; exact hoM, by rw [initB_succ, ints_app]; exact hoB, ap, hbw⟩ (by simp only; omega)
      ·
        refine EL.valg rfl rfl (x_lss rfl rfl (by first | assumption | exact decide_eq_false (by omega))) rfl ?_
        refine EL.val (x_pick_f rfl rfl) rfl ?_
        refine EL.nil ?_
        refine EX.seq ?_
        refine EC.no rfl ?_
        refine EC.skip ?_
        refine EX.seq ?_
        refine EC.region ?_
        refine EL.val (x_move rfl) rfl ?_
        refine EL.val (x_move rfl) rfl ?_
        refine EL.newS (bs_26_1 rfl) rfl ?_
        intro g6 w6 q6 hb6 hg6 hl6
        have bhbw_6 := Nat.le_trans hbw.size hg6
        replace hoM := own_below hoM hb6 (Nat.le_refl _)
        replace hoB := own_below hoB hb6 (Nat.le_refl _)
        replace hbw := Below.on hbw hb6 hbw.size
        clear hb6 hg6 hl6
        have hval : initI fr k = 1099511627776 := by rw [initI, if_neg (by omega)]; rfl
        rw [← hval] at q6
        refine EL.push i64_elem rfl rfl hoM (rd_one (l := [.int .i64 (initI fr k)]) q6 rfl) (fun u hu => by simp only [List.mem_singleton] at hu; subst hu; rfl) (by omega) rfl hbw.size rfl ?_
        intro vM2 wM2 ho2 hg hb2 hat
        have ap2 := apart_push ap hoB hat
        replace hoB := own_apart hoB hg ap
        have ap := ap2
        replace hbw := hbw.trans hb2
        have hoM := ho2
        clear ho2 hat hb2 hg ap2
        refine EL.val (x_move rfl) rfl ?_
        refine EL.newS (bs_26_1 rfl) rfl ?_
        intro g7 w7 q7 hb7 hg7 hl7
        have bhbw_7 := Nat.le_trans hbw.size hg7
        replace hoM := own_below hoM hb7 (Nat.le_refl _)
        replace hoB := own_below hoB hb7 (Nat.le_refl _)
        replace hbw := Below.on hbw hb7 hbw.size
        clear hb7 hg7 hl7
        refine EL.push i64_elem rfl rfl hoB (rd_one (l := [.int .i64 (-1)]) q7 rfl) (fun u hu => by simp only [List.mem_singleton] at hu; subst hu; rfl) (by omega) rfl hbw.size rfl ?_
        intro vB2 wB2 ho2 hg hb2 hat
        have ap2 := (apart_push ap.symm hoM hat).symm
        replace hoM := own_apart hoM hg ap.symm
        have ap := ap2
        replace hbw := hbw.trans hb2
        have hoB := ho2
        clear ho2 hat hb2 hg ap2
        refine EL.val (x_assign rfl) rfl ?_
        refine EL.val (x_assign rfl) rfl ?_
        refine EL.nil ?_
        refine EX.blk ?_
        refine EX.seq ?_
        refine EC.region ?_
        refine EL.val (x_add rfl rfl (c := ((k + 1 : Nat) : Int)) ((IntWalk.i64_in _ ⟨by first | omega | (simp only; omega), by first | omega | (simp only; omega)⟩).trans (by first | omega | (simp only; omega)))) rfl ?_
        refine EL.val (x_move rfl) rfl ?_
        refine EL.nil ?_
        refine EX.roundD (k + 1, _, _) ⟨rfl, rfl, rfl, trivial⟩ (by repeat first | with_reducible exact Sub.refl _ | refine sub_past rfl ?_ | exact Sub.refl _ | refine sub_del rfl ?_ | refine sub_insL_nil ?_) ⟨hlt, by rw [initM_succ, ints_app]; exact hoM, by rw [initB_succ, ints_app]; exact hoB, ap, hbw⟩ (by simp only; omega)
  ·
    obtain rfl : k = n := by omega
    obtain ⟨AM, cM, rfl, _⟩ := (Rd.of_own hoM).shape
    obtain ⟨AB, cB, rfl, _⟩ := (Rd.of_own hoB).shape
    obtain ⟨gM, rfl⟩ := own_slice hoM (by omega)
    obtain ⟨gB, rfl⟩ := own_slice hoB (by omega)
    have hne : gM ≠ gB := fun h => ap gM rfl (by rw [h]; rfl)
    refine EC.seq ?_
    refine EC.region ?_
    refine EL.val (x_lss rfl rfl (decide_eq_false (show ¬((k : Nat) : Int) < (k : Nat) by omega))) rfl ?_
    refine EL.nil ?_
    refine EX.seq ?_
    refine EC.seq ?_
    refine EC.no rfl ?_
    refine EC.exit ?_
    refine EX.seq_exit ?_
    refine EX.seq_exit ?_
    refine EX.blk_here ?_
    refine EX.seq ?_
    refine EC.seq ?_
    refine EC.seq ?_
    refine EC.region ?_
    refine EL.val (x_move rfl) rfl ?_
    refine EL.call (cl_66 rfl) rfl (many_as g _ (hq.below hbw hq.lt) (by omega) (by omega) hn) ?_
    rintro e w8 ⟨rfl, hc8⟩
    refine ⟨_, rfl, ?_⟩
    replace hoM := own_below hoM hc8 (Nat.le_refl _)
    replace hoB := own_below hoB hc8 (Nat.le_refl _)
    replace hbw := Below.on hbw hc8 hbw.size
    clear hc8
    refine EL.val (x_move rfl) rfl ?_
    refine EL.nil ?_
    refine EX.seq ?_
    refine EC.block ?_
    obtain ⟨s0, es0⟩ : ∃ z : St, z = ⟨initM k fr, initB k, 0⟩ := ⟨_, rfl⟩
    have hs0 : StOk k 0 s0 := by rw [es0]; exact init_ok k fr 0
    have hoM0 : w8.ownsRow w.heap.size 3 1 (.slice (some ⟨gM, 0, none⟩) k cM) (k) (ints (s0.most)) := by rw [es0]; exact hoM
    have hoB0 : w8.ownsRow w.heap.size 3 1 (.slice (some ⟨gB, 0, none⟩) k cB) (k) (ints (s0.via)) := by rw [es0]; exact hoB
    have hring : s0.ring = 0 := by rw [es0]
    have hres : reachS ls k fr = rounds ls s0 k := by rw [es0]; rfl
    rw [hres]
    refine EC.loopD [6, 9, 10, 11, 34, 35, 36, 37, 38, 39, 40, 41, 42, 43, 44, 45, 46, 47, 48, 49, 50, 51, 52, 53, 54, 55, 56, 57, 58, 59, 60, 61, 62, 63, 64, 65, 66, 67, 68, 69, 70, 71, 72, 73, 74, 75, 76, 77, 78, 79, 80, 81, 82, 83, 84] (fun x : Nat => [(6, .int .i64 (rounds ls s0 x).ring), (34, .int .i64 (x : Nat))]) (fun x W => x ≤ k ∧ (0 < x → 0 ≤ (rounds ls s0 x).ring) ∧ W.ownsRow w.heap.size 3 1 (.slice (some ⟨gM, 0, none⟩) k cM) (k) (ints ((rounds ls s0 x).most)) ∧ W.ownsRow w.heap.size 3 1 (.slice (some ⟨gB, 0, none⟩) k cB) (k) (ints ((rounds ls s0 x).via)) ∧ Below w.heap.size w W) (fun x => k - x) 0 ⟨Nat.zero_le _, fun h => absurd h (by omega), hoM0, hoB0, hbw⟩ ⟨agree_of hring.symm rfl, rfl, trivial⟩ ?_
    clear hoM hoB hoM0 hoB0 hbw
    rintro x wx ⟨hx, hrg, hoM, hoB, hbw⟩
    have hsx := rounds_ok hls hm200 hs0 x
    by_cases hxl : x < k
    ·
      refine EC.seq ?_
      refine EC.region ?_
      refine EL.val (x_lss rfl rfl (by first | assumption | exact decide_eq_true (by omega))) rfl ?_
      refine EL.nil ?_
      refine EX.seq ?_
      refine EC.seq ?_
      refine EC.yes rfl ?_
      refine EC.skip ?_
      refine EX.seq ?_
      refine EC.seq ?_
      refine EC.block ?_
      refine EC.seq ?_
      refine EC.region ?_
      refine EL.val (x_assign rfl) rfl ?_
      refine EL.nil ?_
      refine EX.seq ?_
      refine EC.seq ?_
      refine EC.seq ?_
      refine EC.region ?_
      refine EL.val (x_move rfl) rfl ?_
      refine EL.val (x_nilCheck rfl) rfl ?_
      refine EL.val (fa_106_1 rfl) rfl ?_
      refine EL.val (ld_29 rfl (below_load hbw (hq.at (j := 3) rfl))) rfl ?_
      refine EL.val (ln_29 rfl) rfl ?_
      refine EL.val (x_move rfl) rfl ?_
      refine EL.nil ?_
      refine EX.seq ?_
      refine EC.block ?_
      obtain ⟨s1, es1⟩ : ∃ z : St, z = ⟨(rounds ls s0 x).most, (rounds ls s0 x).via, -1⟩ := ⟨_, rfl⟩
      have hs1 : StOk k (x * 400000000) s1 := by rw [es1]; exact hsx.ring _
      have hoM0 : wx.ownsRow w.heap.size 3 1 (.slice (some ⟨gM, 0, none⟩) k cM) (k) (ints (s1.most)) := by rw [es1]; exact hoM
      have hoB0 : wx.ownsRow w.heap.size 3 1 (.slice (some ⟨gB, 0, none⟩) k cB) (k) (ints (s1.via)) := by rw [es1]; exact hoB
      have hr1 : s1.ring = -1 := by rw [es1]
      refine EC.loopD [6, 9, 10, 11, 41, 42, 43, 44, 45, 46, 47, 48, 49, 50, 51, 52, 53, 54, 55, 56, 57, 58, 59, 60, 61, 62, 63, 64, 65, 66, 67, 68, 69, 70, 71, 72, 73, 74, 75, 76, 77, 78, 79, 80, 81] (fun x : Nat => [(6, .int .i64 (relaxN ls s1 x).ring), (41, .int .i64 (x : Nat))]) (fun x W => x ≤ ls.length ∧ W.ownsRow w.heap.size 3 1 (.slice (some ⟨gM, 0, none⟩) k cM) (k) (ints ((relaxN ls s1 x).most)) ∧ W.ownsRow w.heap.size 3 1 (.slice (some ⟨gB, 0, none⟩) k cB) (k) (ints ((relaxN ls s1 x).via)) ∧ Below w.heap.size w W) (fun x => ls.length - x) 0 ⟨Nat.zero_le _, hoM0, hoB0, hbw⟩ ⟨agree_of hr1.symm rfl, rfl, trivial⟩ ?_
      clear hoM hoB hoM0 hoB0 hbw
      rintro y wy ⟨hy, hoM, hoB, hbw⟩
      by_cases hyl : y < ls.length
      ·
        obtain ⟨bl, ol, e_, _, lc0, lc1, lc2⟩ := lnks_cells ls y hyl w B _ _ _ hrl
        subst e_
        obtain ⟨hfr, hto, hm0, hm1⟩ := hls y hyl
        obtain ⟨a, ea⟩ : ∃ z, z = ls.getD y lnk0 := ⟨_, rfl⟩
        rw [← ea] at lc0 lc1 lc2 hfr hto hm0 hm1
        have hsy := relaxN_ok hls (by omega) hs1 (Nat.le_of_lt hyl)
        obtain ⟨t, et⟩ : ∃ z, z = relaxN ls s1 y := ⟨_, rfl⟩
        have hnext : relaxN ls s1 (y + 1) = rlx t y a := by rw [relaxN, ← et, ← ea]
        rw [← et] at hoM hoB hsy ⊢
        have hbf := hsy.bnd a.fr hfr
        have hbt := hsy.bnd a.to hto
        have hxk : (x : Int) * 400000000 ≤ 40000000000 := by omega
        have hyk : (y : Int) * 2000000 ≤ 400000000 := by omega
        unfold farI at hbf hbt
        have cF := int_cell hoM hsy.most hfr
        have cT := int_cell hoM hsy.most hto
        refine EC.seq ?_
        refine EC.region ?_
        refine EL.val (x_lss rfl rfl (by first | assumption | exact decide_eq_true (by omega))) rfl ?_
        refine EL.nil ?_
        refine EX.seq ?_
        refine EC.seq ?_
        refine EC.yes rfl ?_
        refine EC.skip ?_
        refine EX.seq ?_
        refine EC.seq ?_
        refine EC.block ?_
        refine EC.seq ?_
        refine EC.region ?_
        refine EL.val (x_move rfl) rfl ?_
        refine EL.val (ix_29 rfl rfl hyl) rfl ?_
        refine EL.val (ld_39 rfl (below_load hbw lc0) (below_load hbw lc1) (below_load hbw lc2)) rfl ?_
        refine EL.newP al_39 rfl ?_
        intro g9 w9 q9 hb9 hg9 hl9
        have bhbw_9 := Nat.le_trans hbw.size hg9
        replace hoM := own_below hoM hb9 (Nat.le_refl _)
        replace hoB := own_below hoB hb9 (Nat.le_refl _)
        replace hbw := Below.on hbw hb9 hbw.size
        clear hb9 hg9 hl9
        refine EL.val (x_assign rfl) rfl ?_
        refine EL.store rfl rfl q9 sz_39 rfl rfl rfl rfl ?_
        intro w10 hq10 hg10
        replace hoM := own_type hoM q9 rfl hg10
        replace hoB := own_type hoB q9 rfl hg10
        replace hbw := below_store hbw hg10 bhbw_9
        replace q9 := hq10
        clear hg10 hq10
        refine EL.nil ?_
        refine EX.seq ?_
        refine EC.seq ?_
        have cF := int_cell hoM hsy.most hfr
        refine EC.regionQ (by kernel_rfl) (by kernel_rfl) ?_
        refine EQ.val (fun _ hw => (x_move rfl)) rfl ?_
        refine EQ.val (fun _ hw => (fa_39_0 rfl)) rfl ?_
        refine EQ.val (fun _ hw => (ld_3 rfl (below_load hw (q9.at (j := 0) rfl)))) rfl ?_
        refine EQ.val (fun _ hw => (ix_26 rfl rfl hfr)) rfl ?_
        refine EQ.val (fun _ hw => (ld_3 rfl (below_load hw cF))) rfl ?_
        refine EQ.val (fun _ hw => (fa_39_2 rfl)) rfl ?_
        refine EQ.val (fun _ hw => (ld_3 rfl (below_load hw (q9.at (j := 2) rfl)))) rfl ?_
        refine EQ.val (fun _ hw => (x_add rfl rfl (by first | assumption | exact IntWalk.i64_in _ ⟨by omega, by omega⟩))) rfl ?_
        refine EQ.val (fun _ hw => (x_assign rfl)) rfl ?_
        refine EQ.fin (fun w11 hw_ => ?_)
        replace q9 := q9.below hw_ q9.lt
        replace hoM := own_below hoM hw_ (Nat.le_refl _)
        replace hoB := own_below hoB hw_ (Nat.le_refl _)
        replace hbw := Below.on hbw hw_ hbw.size
        clear hw_
        have cF := int_cell hoM hsy.most hfr
        have cT := int_cell hoM hsy.most hto
        refine EX.seq ?_
        refine EC.seq ?_
        refine EC.region ?_
        refine EL.val (x_move rfl) rfl ?_
        refine EL.val (fa_39_0 rfl) rfl ?_
        refine EL.val (ld_3 rfl (q9.at (j := 0) rfl)) rfl ?_
        refine EL.val (ix_26 rfl rfl hfr) rfl ?_
        refine EL.val (ld_3 rfl cF) rfl ?_
        by_cases hA : t.most.getD a.fr 0 < 1099511627776
        ·
          refine EL.val (x_lss rfl rfl (by first | assumption | exact decide_eq_true (by omega))) rfl ?_
          refine EL.val (x_move rfl) rfl ?_
          refine EL.valg rfl rfl (x_move rfl) rfl ?_
          refine EL.valg rfl rfl (x_move rfl) rfl ?_
          refine EL.valg rfl rfl (fa_39_1 rfl) rfl ?_
          refine EL.valg rfl rfl (ld_3 rfl (q9.at (j := 1) rfl)) rfl ?_
          refine EL.valg rfl rfl (ix_26 rfl rfl hto) rfl ?_
          refine EL.valg rfl rfl (ld_3 rfl cT) rfl ?_
          by_cases hB2 : t.most.getD a.fr 0 + a.most < t.most.getD a.to 0
          ·
            refine EL.valg rfl rfl (x_lss rfl rfl (by first | assumption | exact decide_eq_true (by omega))) rfl ?_
            refine EL.val (x_pick_t rfl rfl) rfl ?_
            refine EL.nil ?_
            refine EX.seq ?_
            refine EC.yes rfl ?_
            have hyes : rlx t y a = ⟨t.most.set a.to (t.most.getD a.fr 0 + a.most), t.via.set a.to (y : Nat), (a.to : Nat)⟩ := by rw [rlx, if_pos ⟨hA, hB2⟩]
            refine EC.regionS [[], [], [1], [], [], [4], [], [], [], [8], [0, 1, 2, 6], [0, 1, 2, 6, 10], [0, 1, 2, 3, 4, 5, 6, 7, 10, 11], [0, 1, 2, 3, 4, 5, 6, 7, 10, 11, 12], [0, 1, 2, 3, 4, 5, 6, 7, 8, 9, 10, 11, 12, 13]] 14 [] [11, 13] (fun fl w_ => Below w.heap.size w w_ ∧ w11.heap.size ≤ w_.heap.size ∧ Blk w_ g9 39 #[.int .i64 (a.fr : Nat), .int .i64 (a.to : Nat), .int .i64 a.most] ∧ (fl 11 = false → w_.ownsRow w.heap.size 3 1 (.slice (some ⟨gM, 0, none⟩) k cM) (k) (ints (t.most))) ∧ (fl 13 = false → w_.ownsRow w.heap.size 3 1 (.slice (some ⟨gB, 0, none⟩) k cB) (k) (ints (t.via)))) (phiS (fun i_ r => match i_ with | 0 => r 0 = .slice (some ⟨gM, 0, none⟩) k cM | 1 => r 1 = .pointer (some ⟨g9, 1, none⟩) | 2 => r 2 = .int .i64 (a.to : Nat) | 3 => r 3 = .slice (some ⟨gB, 0, none⟩) k cB | 4 => r 4 = .pointer (some ⟨g9, 1, none⟩) | 5 => r 5 = .int .i64 (a.to : Nat) | 6 => r 6 = .int .i64 (t.most.getD a.fr 0 + a.most) | 7 => r 7 = .int .i64 (y : Nat) | 8 => r 8 = .pointer (some ⟨g9, 1, none⟩) | 9 => r 9 = .int .i64 (a.to : Nat) | 10 => r 10 = .pointer (some ⟨gM, 0 + a.to, none⟩) | 12 => r 12 = .pointer (some ⟨gB, 0 + a.to, none⟩) | _ => True) [(11, fun _ r w_ => w_.ownsRow w.heap.size 3 1 (.slice (some ⟨gM, 0, none⟩) k cM) (k) (ints (t.most.set a.to (t.most.getD a.fr 0 + a.most)))), (13, fun _ r w_ => w_.ownsRow w.heap.size 3 1 (.slice (some ⟨gB, 0, none⟩) k cB) (k) (ints (t.via.set a.to (y : Nat))))]) (by kernel_rfl) rfl rfl (by intro i hi; simp at hi; rcases hi with rfl | rfl <;> exact ⟨by simp, by omega⟩) ⟨fun _ _ => ⟨⟨hbw.os, hbw.tape, hbw.output, hbw.size, fun k hk => hbw.block k hk⟩, Nat.le_refl _, q9, fun _ => own_drewN hoM 1, fun _ => own_drewN hoB 1⟩, fun _ _ _ ⟨h1, h2, h3, h4, h5⟩ hb => ⟨Below.on h1 hb h1.size, Nat.le_trans h2 hb.size, h3.below hb h3.lt, fun h => own_below (h4 h) hb (Nat.le_refl _), fun h => own_below (h5 h) hb (Nat.le_refl _)⟩, fun _ _ h => h.2.1⟩ (phiS_cons (fun _ _ _ _ hb h => own_below h hb (Nat.le_refl _)) (phiS_cons (fun _ _ _ _ hb h => own_below h hb (Nat.le_refl _)) phiS_nil)) (fun i_ hi_ hs_ => ?_) (fun i_ hi_ => ?_) ?_
            · match i_, hi_ with
              | 0, _ =>
                intro val fl w1 a_ hb ha hd hfl
                obtain ⟨hbl, hsz, hq10, hrM, hrB⟩ := hb
                have ha := ha.sub (Sub.ins (d := 4) (Sub.nil _) rfl)
                exact ss_val ha rfl rfl (x_move rfl) rfl rfl
              | 1, _ =>
                intro val fl w1 a_ hb ha hd hfl
                obtain ⟨hbl, hsz, hq10, hrM, hrB⟩ := hb
                have ha := ha.sub (Sub.ins (d := 10) (Sub.nil _) rfl)
                exact ss_val ha rfl rfl (fa_39_1 rfl) rfl rfl
              | 2, _ =>
                intro val fl w1 a_ hb ha hd hfl
                obtain ⟨hbl, hsz, hq10, hrM, hrB⟩ := hb
                have e1 : val 1 = .pointer (some ⟨g9, 1, none⟩) := hd 1 (memB_mem.1 rfl)
                have ha := ha.sub (Sub.ins (d := 70) (Sub.nil _) (dep_get rfl e1))
                exact ss_val ha rfl rfl (ld_3 rfl (hq10.at (j := 1) rfl)) rfl rfl
              | 3, _ =>
                intro val fl w1 a_ hb ha hd hfl
                obtain ⟨hbl, hsz, hq10, hrM, hrB⟩ := hb
                have ha := ha.sub (Sub.ins (d := 5) (Sub.nil _) rfl)
                exact ss_val ha rfl rfl (x_move rfl) rfl rfl
              | 4, _ =>
                intro val fl w1 a_ hb ha hd hfl
                obtain ⟨hbl, hsz, hq10, hrM, hrB⟩ := hb
                have ha := ha.sub (Sub.ins (d := 10) (Sub.nil _) rfl)
                exact ss_val ha rfl rfl (fa_39_1 rfl) rfl rfl
              | 5, _ =>
                intro val fl w1 a_ hb ha hd hfl
                obtain ⟨hbl, hsz, hq10, hrM, hrB⟩ := hb
                have e4 : val 4 = .pointer (some ⟨g9, 1, none⟩) := hd 4 (memB_mem.1 rfl)
                have ha := ha.sub (Sub.ins (d := 73) (Sub.nil _) (dep_get rfl e4))
                exact ss_val ha rfl rfl (ld_3 rfl (hq10.at (j := 1) rfl)) rfl rfl
              | 6, _ =>
                intro val fl w1 a_ hb ha hd hfl
                obtain ⟨hbl, hsz, hq10, hrM, hrB⟩ := hb
                have ha := ha.sub (Sub.ins (d := 11) (Sub.nil _) rfl)
                exact ss_val ha rfl rfl (x_move rfl) rfl rfl
              | 7, _ =>
                intro val fl w1 a_ hb ha hd hfl
                obtain ⟨hbl, hsz, hq10, hrM, hrB⟩ := hb
                have ha := ha.sub (Sub.ins (d := 9) (Sub.nil _) rfl)
                exact ss_val ha rfl rfl (x_move rfl) rfl rfl
              | 8, _ =>
                intro val fl w1 a_ hb ha hd hfl
                obtain ⟨hbl, hsz, hq10, hrM, hrB⟩ := hb
                have ha := ha.sub (Sub.ins (d := 10) (Sub.nil _) rfl)
                exact ss_val ha rfl rfl (fa_39_1 rfl) rfl rfl
              | 9, _ =>
                intro val fl w1 a_ hb ha hd hfl
                obtain ⟨hbl, hsz, hq10, hrM, hrB⟩ := hb
                have e8 : val 8 = .pointer (some ⟨g9, 1, none⟩) := hd 8 (memB_mem.1 rfl)
                have ha := ha.sub (Sub.ins (d := 77) (Sub.nil _) (dep_get rfl e8))
                exact ss_val ha rfl rfl (ld_3 rfl (hq10.at (j := 1) rfl)) rfl rfl
              | 10, _ =>
                intro val fl w1 a_ hb ha hd hfl
                obtain ⟨hbl, hsz, hq10, hrM, hrB⟩ := hb
                have e0 : val 0 = .slice (some ⟨gM, 0, none⟩) k cM := hd 0 (memB_mem.1 rfl)
                have e2 : val 2 = .int .i64 (a.to : Nat) := hd 2 (memB_mem.1 rfl)
                have ha := ha.sub (Sub.ins (d := 71) (Sub.ins (d := 69) (Sub.nil _) (dep_get rfl e0)) (dep_get rfl e2))
                exact ss_val ha rfl rfl (ix_26 rfl rfl hto) rfl rfl
              | 11, _ =>
                exact absurd (by simp) hs_
              | 12, _ =>
                intro val fl w1 a_ hb ha hd hfl
                obtain ⟨hbl, hsz, hq10, hrM, hrB⟩ := hb
                have e3 : val 3 = .slice (some ⟨gB, 0, none⟩) k cB := hd 3 (memB_mem.1 rfl)
                have e5 : val 5 = .int .i64 (a.to : Nat) := hd 5 (memB_mem.1 rfl)
                have ha := ha.sub (Sub.ins (d := 74) (Sub.ins (d := 72) (Sub.nil _) (dep_get rfl e3)) (dep_get rfl e5))
                exact ss_val ha rfl rfl (ix_26 rfl rfl hto) rfl rfl
              | 13, _ =>
                exact absurd (by simp) hs_
              | k + 14, h => exact absurd h (by omega)
            · simp only [List.mem_cons, List.not_mem_nil, or_false] at hi_; rcases hi_ with rfl | rfl
              ·
                intro val fl w1 a_ hb hfi ha hd hfl
                obtain ⟨hbl, hsz, hq10, hrM, hrB⟩ := hb
                have e10 : val 10 = .pointer (some ⟨gM, 0 + a.to, none⟩) := hd 10 (memB_mem.1 rfl)
                have e6 : val 6 = .int .i64 (t.most.getD a.fr 0 + a.most) := hd 6 (memB_mem.1 rfl)
                have ha := ha.sub (Sub.ins (d := 75) (Sub.ins (d := 79) (Sub.nil _) (dep_get rfl e10)) (dep_get rfl e6))
                refine ts_storeRow (l' := [.int .i64 (t.most.getD a.fr 0 + a.most)]) ha rfl rfl rfl (hrM hfi) sz_3 rfl rfl (by rw [ints_len, hsy.most]; omega) rfl ?_
                intro w' ho2 hgr
                rw [Nat.zero_add, ints_set _ (by rw [hsy.most]; exact hto)] at ho2
                refine ⟨undef, rfl, hgr.size, ⟨(hbl.grown hgr hbl.size (fun g h => by injection h with h; subst h; exact ((hrM hfi).lt _ rfl).1)), Nat.le_trans hsz hgr.size, (hq10.grown hgr (fun h => row_ne2 (hrM hfi) hq10 rfl (Option.some.inj h))), (fun h => by rw [fset_eq] at h; cases h), fun h => (hrB (by rwa [fset_ne rfl] at h)).kept hgr (.inr (fun h => hne (Option.some.inj h).symm))⟩, ho2, fun j _ hj hn hA => ?_⟩
                exact phiS_cons_st (C := fun j => j ≠ 11 ∧ 11 ∉ clsAt [[], [], [1], [], [], [4], [], [], [], [8], [0, 1, 2, 6], [0, 1, 2, 6, 10], [0, 1, 2, 3, 4, 5, 6, 7, 10, 11], [0, 1, 2, 3, 4, 5, 6, 7, 10, 11, 12], [0, 1, 2, 3, 4, 5, 6, 7, 8, 9, 10, 11, 12, 13]] j) (fun hc => absurd rfl hc.1) (phiS_cons_st (C := fun j => j ≠ 11 ∧ 11 ∉ clsAt [[], [], [1], [], [], [4], [], [], [], [8], [0, 1, 2, 6], [0, 1, 2, 6, 10], [0, 1, 2, 3, 4, 5, 6, 7, 10, 11], [0, 1, 2, 3, 4, 5, 6, 7, 10, 11, 12], [0, 1, 2, 3, 4, 5, 6, 7, 8, 9, 10, 11, 12, 13]] j) (fun hc => absurd (memB_mem.1 rfl) hc.2) (fun _ _ h => h)) j ⟨hj, hn⟩
              ·
                intro val fl w1 a_ hb hfi ha hd hfl
                obtain ⟨hbl, hsz, hq10, hrM, hrB⟩ := hb
                have e12 : val 12 = .pointer (some ⟨gB, 0 + a.to, none⟩) := hd 12 (memB_mem.1 rfl)
                have e7 : val 7 = .int .i64 (y : Nat) := hd 7 (memB_mem.1 rfl)
                have ha := ha.sub (Sub.ins (d := 76) (Sub.ins (d := 80) (Sub.nil _) (dep_get rfl e12)) (dep_get rfl e7))
                refine ts_storeRow (l' := [.int .i64 (y : Nat)]) ha rfl rfl rfl (hrB hfi) sz_3 rfl rfl (by rw [ints_len, hsy.via]; omega) rfl ?_
                intro w' ho2 hgr
                rw [Nat.zero_add, ints_set _ (by rw [hsy.via]; exact hto)] at ho2
                refine ⟨undef, rfl, hgr.size, ⟨(hbl.grown hgr hbl.size (fun g h => by injection h with h; subst h; exact ((hrB hfi).lt _ rfl).1)), Nat.le_trans hsz hgr.size, (hq10.grown hgr (fun h => row_ne2 (hrB hfi) hq10 rfl (Option.some.inj h))), fun h => (hrM (by rwa [fset_ne rfl] at h)).kept hgr (.inr (fun h => hne (Option.some.inj h))), (fun h => by rw [fset_eq] at h; cases h)⟩, ho2, fun j _ hj hn hA => ?_⟩
                exact phiS_cons_st (C := fun j => j ≠ 13 ∧ 13 ∉ clsAt [[], [], [1], [], [], [4], [], [], [], [8], [0, 1, 2, 6], [0, 1, 2, 6, 10], [0, 1, 2, 3, 4, 5, 6, 7, 10, 11], [0, 1, 2, 3, 4, 5, 6, 7, 10, 11, 12], [0, 1, 2, 3, 4, 5, 6, 7, 8, 9, 10, 11, 12, 13]] j) (fun _ h => kept_ne h hgr hne) (phiS_cons_st (C := fun j => j ≠ 13 ∧ 13 ∉ clsAt [[], [], [1], [], [], [4], [], [], [], [8], [0, 1, 2, 6], [0, 1, 2, 6, 10], [0, 1, 2, 3, 4, 5, 6, 7, 10, 11], [0, 1, 2, 3, 4, 5, 6, 7, 10, 11, 12], [0, 1, 2, 3, 4, 5, 6, 7, 8, 9, 10, 11, 12, 13]] j) (fun hc => absurd rfl hc.1) (fun _ _ h => h)) j ⟨hj, hn⟩
            · intro val fl wR17 hfl hb halc hd
              obtain ⟨hbl, _, hq10, _, _⟩ := hb
              have ho11 := hd 11 (by omega)
              have ho13 := hd 13 (by omega)
              change World.ownsRow wR17 w.heap.size 3 1 (.slice (some ⟨gM, 0, none⟩) k cM) (k) (ints (t.most.set a.to (t.most.getD a.fr 0 + a.most))) at ho11
              change World.ownsRow wR17 w.heap.size 3 1 (.slice (some ⟨gB, 0, none⟩) k cB) (k) (ints (t.via.set a.to (y : Nat))) at ho13
              have e0 : val 0 = .slice (some ⟨gM, 0, none⟩) k cM := hd 0 (by omega)
              have e1 : val 1 = .pointer (some ⟨g9, 1, none⟩) := hd 1 (by omega)
              have e2 : val 2 = .int .i64 (a.to : Nat) := hd 2 (by omega)
              have e3 : val 3 = .slice (some ⟨gB, 0, none⟩) k cB := hd 3 (by omega)
              have e4 : val 4 = .pointer (some ⟨g9, 1, none⟩) := hd 4 (by omega)
              have e5 : val 5 = .int .i64 (a.to : Nat) := hd 5 (by omega)
              have e6 : val 6 = .int .i64 (t.most.getD a.fr 0 + a.most) := hd 6 (by omega)
              have e7 : val 7 = .int .i64 (y : Nat) := hd 7 (by omega)
              have e8 : val 8 = .pointer (some ⟨g9, 1, none⟩) := hd 8 (by omega)
              have e9 : val 9 = .int .i64 (a.to : Nat) := hd 9 (by omega)
              have e10 : val 10 = .pointer (some ⟨gM, 0 + a.to, none⟩) := hd 10 (by omega)
              have e12 : val 12 = .pointer (some ⟨gB, 0 + a.to, none⟩) := hd 12 (by omega)
              refine EL.ends (cs := [.slice (some ⟨gM, 0, none⟩) k cM, .pointer (some ⟨g9, 1, none⟩), .int .i64 (a.to : Nat), .slice (some ⟨gB, 0, none⟩) k cB, .pointer (some ⟨g9, 1, none⟩), .int .i64 (a.to : Nat), .int .i64 (t.most.getD a.fr 0 + a.most), .int .i64 (y : Nat), .pointer (some ⟨g9, 1, none⟩), .int .i64 (a.to : Nat), .pointer (some ⟨gM, 0 + a.to, none⟩), val 11, .pointer (some ⟨gB, 0 + a.to, none⟩), val 13]) ⟨e0, e1, e2, e3, e4, e5, e6, e7, e8, e9, e10, rfl, e12, rfl, trivial⟩ rfl ?_
              replace hbw := hbl
              replace hoM := ho11
              replace hoB := ho13
              refine EL.val (x_assign rfl) rfl ?_
              refine EL.nil ?_
              refine EX.blk ?_
              refine EX.seq ?_
              refine EC.region ?_
              refine EL.val (x_add rfl rfl (by first | assumption | exact IntWalk.i64_in _ ⟨by omega, by omega⟩)) rfl ?_
              refine EL.val (x_move rfl) rfl ?_
              refine EL.nil ?_
              rw [hyes] at hnext
              refine EX.roundD (y + 1) ⟨agree_st hnext rfl, rfl, trivial⟩ (by repeat first | with_reducible exact Sub.refl _ | refine sub_past rfl ?_ | exact Sub.refl _ | refine sub_del rfl ?_ | refine sub_insL_nil ?_) ⟨hyl, by rw [hnext]; exact hoM, by rw [hnext]; exact hoB, hbw⟩ (by omega)
          ·
            refine EL.valg rfl rfl (x_lss rfl rfl (by first | assumption | exact decide_eq_false (by omega))) rfl ?_
            refine EL.val (x_pick_t rfl rfl) rfl ?_
            refine EL.nil ?_
            refine EX.seq ?_
            refine EC.no rfl ?_
            refine EC.skip ?_
            refine EX.blk ?_
            refine EX.seq ?_
            refine EC.region ?_
            refine EL.val (x_add rfl rfl (by first | assumption | exact IntWalk.i64_in _ ⟨by omega, by omega⟩)) rfl ?_
            refine EL.val (x_move rfl) rfl ?_
            refine EL.nil ?_
            have hyes : rlx t y a = t := by rw [rlx, if_neg (fun h => by have h1 := h.1; have h2 := h.2; unfold farI at h1; omega)]
            rw [hyes] at hnext
            refine EX.roundD (y + 1) ⟨agree_st hnext rfl, rfl, trivial⟩ (by repeat first | with_reducible exact Sub.refl _ | refine sub_past rfl ?_ | exact Sub.refl _ | refine sub_del rfl ?_ | refine sub_insL_nil ?_) ⟨hyl, by rw [hnext]; exact hoM, by rw [hnext]; exact hoB, hbw⟩ (by omega)
        ·
          refine EL.val (x_lss rfl rfl (by first | assumption | exact decide_eq_false (by omega))) rfl ?_
          refine EL.val (x_move rfl) rfl ?_
          refine EL.skip rfl rfl rfl rfl ?_
          refine EL.skip rfl rfl rfl rfl ?_
          refine EL.skip rfl rfl rfl rfl ?_
          refine EL.skip rfl rfl rfl rfl ?_
          refine EL.skip rfl rfl rfl rfl ?_
          refine EL.skip rfl rfl rfl rfl ?_
          refine EL.skip rfl rfl rfl rfl ?_
          refine EL.val (x_pick_f rfl rfl) rfl ?_
          refine EL.nil ?_
          refine EX.seq ?_
          refine EC.no rfl ?_
          refine EC.skip ?_
          refine EX.blk ?_
          refine EX.seq ?_
          refine EC.region ?_
          refine EL.val (x_add rfl rfl (by first | assumption | exact IntWalk.i64_in _ ⟨by omega, by omega⟩)) rfl ?_
          refine EL.val (x_move rfl) rfl ?_
          refine EL.nil ?_
          have hyes : rlx t y a = t := by rw [rlx, if_neg (fun h => by have h1 := h.1; have h2 := h.2; unfold farI at h1; omega)]
          rw [hyes] at hnext
          refine EX.roundD (y + 1) ⟨agree_st hnext rfl, rfl, trivial⟩ (by repeat first | with_reducible exact Sub.refl _ | refine sub_past rfl ?_ | exact Sub.refl _ | refine sub_del rfl ?_ | refine sub_insL_nil ?_) ⟨hyl, by rw [hnext]; exact hoM, by rw [hnext]; exact hoB, hbw⟩ (by omega)
      ·
        obtain rfl : y = ls.length := by omega
        have hrs : relaxN ls s1 ls.length = roundS ls (rounds ls s0 x) := by rw [es1]; rfl
        rw [hrs] at hoM hoB ⊢
        refine EC.seq ?_
        refine EC.region ?_
        refine EL.val (x_lss rfl rfl (by first | assumption | exact decide_eq_false (by omega))) rfl ?_
        refine EL.nil ?_
        refine EX.seq ?_
        refine EC.seq ?_
        refine EC.no rfl ?_
        refine EC.exit ?_
        refine EX.seq_exit ?_
        refine EX.seq_exit ?_
        refine EX.blk_here ?_
        refine EX.seq ?_
        refine EC.seq ?_
        refine EC.region ?_
        refine EL.val (x_move rfl) rfl ?_
        have hsucc : rounds ls s0 (x + 1) = roundS ls (rounds ls s0 x) := by rw [rounds, if_neg (fun h => by have := hrg h.1; omega)]
        by_cases hR : (roundS ls (rounds ls s0 x)).ring < 0
        ·
          have hfin : rounds ls s0 k = rounds ls s0 (x + 1) := by
            have := rounds_stop (ls := ls) (s := s0) (k := x + 1) (by omega) (by rw [hsucc]; exact hR) (k - (x + 1))
            rwa [show x + 1 + (k - (x + 1)) = k by omega] at this
          rw [hsucc] at hfin
          rw [hfin]
          refine EL.val (x_lss rfl rfl (by first | assumption | exact decide_eq_true (by omega))) rfl ?_
          refine EL.nil ?_
          refine EX.seq ?_
          refine EC.yes rfl ?_
          refine EC.exit ?_
          refine EX.blk_other rfl ?_
          refine EX.seq_exit ?_
          refine EX.seq_exit ?_
          refine EX.blk_here ?_
          refine EX.seq ?_
          refine EC.seq ?_
          refine EC.region ?_
          refine EL.val (x_move rfl) rfl ?_
          refine EL.val (x_move rfl) rfl ?_
          refine EL.val (x_move rfl) rfl ?_
          refine EL.val (x_assign rfl) rfl ?_
          refine EL.val (x_assign rfl) rfl ?_
          refine EL.val (x_assign rfl) rfl ?_
          refine EL.nil ?_
          refine EX.seq ?_
          refine EC.ret ?_
          exact EX.done (res3 rfl rfl rfl rfl) ⟨⟨_, _, rfl, Rd.of_own hoM, Rd.of_own hoB⟩, hbw⟩
        ·
          rw [← hsucc] at hoM hoB
          refine EL.val (x_lss rfl rfl (by first | assumption | exact decide_eq_false (by omega))) rfl ?_
          refine EL.nil ?_
          refine EX.seq ?_
          refine EC.no rfl ?_
          refine EC.skip ?_
          refine EX.blk ?_
          refine EX.seq ?_
          refine EC.region ?_
          refine EL.val (x_add rfl rfl (by first | assumption | exact IntWalk.i64_in _ ⟨by omega, by omega⟩)) rfl ?_
          refine EL.val (x_move rfl) rfl ?_
          refine EL.nil ?_
          refine EX.roundD (x + 1) ⟨agree_st hsucc rfl, rfl, trivial⟩ (by repeat first | with_reducible exact Sub.refl _ | refine sub_past rfl ?_ | exact Sub.refl _ | refine sub_del rfl ?_ | refine sub_insL_nil ?_) ⟨hxl, fun _ => by rw [hsucc]; omega, hoM, hoB, hbw⟩ (by omega)
    ·
      obtain rfl : x = k := by omega
      refine EC.seq ?_
      refine EC.region ?_
      refine EL.val (x_lss rfl rfl (by first | assumption | exact decide_eq_false (by omega))) rfl ?_
      refine EL.nil ?_
      refine EX.seq ?_
      refine EC.seq ?_
      refine EC.no rfl ?_
      refine EC.exit ?_
      refine EX.seq_exit ?_
      refine EX.seq_exit ?_
      refine EX.blk_here ?_
      refine EX.seq ?_
      refine EC.seq ?_
      refine EC.region ?_
      refine EL.val (x_move rfl) rfl ?_
      refine EL.val (x_move rfl) rfl ?_
      refine EL.val (x_move rfl) rfl ?_
      refine EL.val (x_assign rfl) rfl ?_
      refine EL.val (x_assign rfl) rfl ?_
      refine EL.val (x_assign rfl) rfl ?_
      refine EL.nil ?_
      refine EX.seq ?_
      refine EC.ret ?_
      exact EX.done (res3 rfl rfl rfl rfl) ⟨⟨_, _, rfl, Rd.of_own hoM, Rd.of_own hoB⟩, hbw⟩
end Go.Proofs.Ytmaiiigijjfjfaa
set_option linter.unusedVariables false
namespace Go.Proofs.Ytmaiiigijjfjfaa
open Go Go.RowKit
def nOf (c : Case) : Nat := 1 + c.events.toNat + c.clocks.length
def courseB (c : Case) (l : List Int) : Bool := (List.range l.length).all fun i => inB 0 (((c.clues.getD i []).length : Nat) - 1 : Int) (l.getD i 0)
/-- the error of a case and a course -/
def startErr (c : Case) (l : List Int) : Int := if caseB c = false then 2 else if l.length ≠ c.clues.length then 4 else if courseB c l = false then 3 else 0
theorem start_ok {c : Case} {l : List Int} (h : startErr c l = 0) : caseB c = true ∧ l.length = c.clues.length ∧ courseB c l = true ∧ inCourse c l := by
  unfold startErr at h
  by_cases h1 : caseB c = false
  · rw [if_pos h1] at h; omega
  · rw [if_neg h1] at h
    by_cases h2 : l.length ≠ c.clues.length
    · rw [if_pos h2] at h; omega
    · rw [if_neg h2] at h
      by_cases h3 : courseB c l = false
      · rw [if_pos h3] at h; omega
      · rw [Bool.not_eq_false] at h1 h3
        refine ⟨h1, by omega, h3, by omega, fun i hi => ?_⟩
        have := List.all_eq_true.1 h3 i (List.mem_range.2 hi)
        rw [inB_iff] at this
        omega
theorem opt_at {c : Case} (hc : caseB c = true) {l : List Int} (hl : inCourse c l) {i : Nat} (hi : i < l.length) : OptOk c (optAt c i (l.getD i 0)) := by
  obtain ⟨_, _, _, _, h⟩ := caseB_ok hc
  have h1 := hl.1
  have h2 := hl.2 i hi
  exact optB_ok ((h i (by omega)).2 _ (by omega))
theorem flat_range {α : Type} {g : Nat → List α} {P : α → Prop} : ∀ {n : Nat}, (∀ i, i < n → ∀ x ∈ g i, P x) → ∀ x ∈ (List.range n).flatMap g, P x := by
  intro n h x hx
  obtain ⟨i, hi, hx⟩ := List.mem_flatMap.1 hx
  exact h i (List.mem_range.1 hi) x hx
theorem links_all {c : Case} (hc : caseB c = true) {l : List Int} (hl : inCourse c l) : ∀ x ∈ linksOf c l, x.fr < nOf c ∧ x.to < nOf c ∧ -2000000 ≤ x.most ∧ x.most ≤ 2000000 := by
  obtain ⟨hev, _, _, hck, _⟩ := caseB_ok hc
  intro x hx
  unfold linksOf at hx
  rw [List.mem_append, List.mem_append] at hx
  rcases hx with (hx | hx) | hx
  · refine flat_range (P := fun x => x.fr < nOf c ∧ x.to < nOf c ∧ -2000000 ≤ x.most ∧ x.most ≤ 2000000) (g := evL) (fun i hi x hx => ?_) x hx
    simp only [evL, List.mem_cons, List.not_mem_nil, or_false] at hx
    rcases hx with rfl | rfl <;> simp only [nOf] <;> omega
  · refine flat_range (P := fun x => x.fr < nOf c ∧ x.to < nOf c ∧ -2000000 ≤ x.most ∧ x.most ≤ 2000000) (g := clL c) (fun i hi x hx => ?_) x hx
    have hb := bdOk_iff.1 (hck i hi)
    simp only [clL, List.mem_cons, List.not_mem_nil, or_false] at hx
    rcases hx with rfl | rfl <;> simp only [nOf] <;> omega
  · refine flat_range (P := fun x => x.fr < nOf c ∧ x.to < nOf c ∧ -2000000 ≤ x.most ∧ x.most ≤ 2000000) (g := crsL c l) (fun i hi x hx => ?_) x hx
    have ho := opt_at hc hl hi
    have h0 := (hl.2 i hi).1
    rw [crsL, if_neg (by omega)] at hx
    have h1 := ho.event
    have h2 := ho.mins
    have h3 := ho.kind
    have hf : optFrom c (optAt c i (l.getD i 0)) < nOf c := by unfold optFrom nOf; split <;> omega
    have ht : 1 + (optAt c i (l.getD i 0)).event.toNat < nOf c := by unfold nOf; omega
    simp only [optL, List.mem_cons, List.not_mem_nil, or_false] at hx
    rcases hx with rfl | rfl
    · exact ⟨hf, ht, by simp only; omega, by simp only; omega⟩
    · exact ⟨ht, hf, by simp only; omega, by simp only; omega⟩
theorem links_ok {c : Case} (hc : caseB c = true) {l : List Int} (hl : inCourse c l) : LnksOk (nOf c) (linksOf c l) := fun k hk => by
  rw [show (linksOf c l).getD k lnk0 = (linksOf c l)[k] by simp [hk]]
  exact links_all hc hl _ (List.getElem_mem hk)
theorem links_len {c : Case} (hc : caseB c = true) {l : List Int} (hl : inCourse c l) : (linksOf c l).length = c.events.toNat * 2 + c.clocks.length * 2 + l.length * 2 ∧ (linksOf c l).length ≤ 200 := by
  obtain ⟨hev, h8, h20, _, _⟩ := caseB_ok hc
  have h1 := hl.1
  have e : (linksOf c l).length = c.events.toNat * 2 + c.clocks.length * 2 + l.length * 2 := by
    rw [linksOf, List.length_append, List.length_append, evLinks_len, clLinks_len, crsAll_len hl (Nat.le_refl _)]
  exact ⟨e, by omega⟩
/-- what reach finds in the web of a course -/
def rch (c : Case) (l : List Int) (fr : Int) : St := reachS (linksOf c l) (nOf c) fr
theorem rch_ok {c : Case} (hc : caseB c = true) {l : List Int} (hl : inCourse c l) (fr : Int) : StOk (nOf c) (nOf c * 400000000) (rch c l fr) := rounds_ok (links_ok hc hl) (links_len hc hl).2 (init_ok _ _ _) _
def fitsS (c : Case) (l : List Int) : Bool := decide ((rch c l (-1)).ring < 0)
def apartS (c : Case) (l : List Int) (x y : Nat) : Bd := ⟨-(rch c l y).most.getD x 0, (rch c l x).most.getD y 0⟩
/-- a web that is read -/
def WebAt (w : World) (g : Nat) (c : Case) (l : List Int) : Prop := ∃ Ac cc vl AL cL, Blk w g 106 #[.int .i64 c.events, .slice Ac c.clocks.length cc, vl, .slice AL (linksOf c l).length cL] ∧ Rd w w.heap.size 3 (.slice AL (linksOf c l).length cL) (linksOf c l).length (lnksC (linksOf c l))
theorem WebAt.below {w w' : World} {g : Nat} {c : Case} {l : List Int} (h : WebAt w g c l) (hb : Below w.heap.size w w') : WebAt w' g c l := by
  obtain ⟨Ac, cc, vl, AL, cL, h1, h2⟩ := h
  exact ⟨Ac, cc, vl, AL, cL, h1.below hb h1.lt, (h2.below hb).more hb.size⟩
theorem n_eq {c : Case} (hc : caseB c = true) : 1 + c.events + (c.clocks.length : Nat) = ((nOf c : Nat) : Int) := by
  obtain ⟨hev, _⟩ := caseB_ok hc
  unfold nOf
  omega
theorem range_all_succ {p : Nat → Bool} {n : Nat} : (List.range (n + 1)).all p = ((List.range n).all p && p n) := by simp [List.range_succ]
end Go.Proofs.Ytmaiiigijjfjfaa
set_option linter.unusedVariables false
set_option linter.unusedSimpArgs false
namespace Go.Proofs.Ytmaiiigijjfjfaa
open Go Go.RowKit
section
variable {n : Nat} {σ : Sg} {w : World} {dst : Option Tmp} {ty : TypeId} {pos : String} {af : Array Edge} {g : Option (Nat × Bool)} {x y z : Operand} {at' : Array TypeId}
theorem cl_25 {x0 : Operand} {v0 : Value} (h0 : evS σ x0 = some v0) (a : Act) (ha : Env n σ a) : (execOp a.eval ⟨dst, .call { callee := .value (.func 25), args := #[x0], argTypes := at' }, ty, pos, af, g⟩).run Try.prog w = .ok (.enter 25 #[v0]) w := by
  simp only [execOp, resolve, List.map_toArray, List.map_cons, List.map_nil, ha.eval h0]
  simp [go_sem, Act.eval]
theorem cl_65 {x0 x1 : Operand} {v0 v1 : Value} (h0 : evS σ x0 = some v0) (h1 : evS σ x1 = some v1) (a : Act) (ha : Env n σ a) : (execOp a.eval ⟨dst, .call { callee := .value (.func 65), args := #[x0, x1], argTypes := at' }, ty, pos, af, g⟩).run Try.prog w = .ok (.enter 65 #[v0, v1]) w := by
  simp only [execOp, resolve, List.map_toArray, List.map_cons, List.map_nil, ha.eval h0, ha.eval h1]
  simp [go_sem, Act.eval]
theorem lv_54 {b o : Nat} {v0 v1 : Value} (c0 : w.cell? ⟨b, o, none⟩ = some v0) (c1 : w.cell? ⟨b, o + 1, none⟩ = some v1) : (loadVar 54 ⟨b, o, none⟩).run Try.prog w = .ok (.agg #[v0, v1]) w := by
  simp [go_sem, loadVar, c0, c1]
theorem cl_38 {x0 x1 : Operand} {v0 v1 : Value} (h0 : evS σ x0 = some v0) (h1 : evS σ x1 = some v1) (a : Act) (ha : Env n σ a) : (execOp a.eval ⟨dst, .call { callee := .value (.func 38), args := #[x0, x1], argTypes := at' }, ty, pos, af, g⟩).run Try.prog w = .ok (.enter 38 #[v0, v1]) w := by
  simp only [execOp, resolve, List.map_toArray, List.map_cons, List.map_nil, ha.eval h0, ha.eval h1]
  simp [go_sem, Act.eval]
theorem cl_39 {x0 x1 : Operand} {v0 v1 : Value} (h0 : evS σ x0 = some v0) (h1 : evS σ x1 = some v1) (a : Act) (ha : Env n σ a) : (execOp a.eval ⟨dst, .call { callee := .value (.func 39), args := #[x0, x1], argTypes := at' }, ty, pos, af, g⟩).run Try.prog w = .ok (.enter 39 #[v0, v1]) w := by
  simp only [execOp, resolve, List.map_toArray, List.map_cons, List.map_nil, ha.eval h0, ha.eval h1]
  simp [go_sem, Act.eval]
theorem cl_54 {x0 : Operand} {v0 : Value} (h0 : evS σ x0 = some v0) (a : Act) (ha : Env n σ a) : (execOp a.eval ⟨dst, .call { callee := .value (.func 54), args := #[x0], argTypes := at' }, ty, pos, af, g⟩).run Try.prog w = .ok (.enter 54 #[v0]) w := by
  simp only [execOp, resolve, List.map_toArray, List.map_cons, List.map_nil, ha.eval h0]
  simp [go_sem, Act.eval]
end
end Go.Proofs.Ytmaiiigijjfjfaa
set_option linter.unusedVariables false
set_option linter.unusedSimpArgs false
namespace Go.Proofs.Ytmaiiigijjfjfaa
open Go Go.RowKit
theorem range_bad {p : Nat → Bool} {n k : Nat} (hk : k < n) (h : p k = false) : (List.range n).all p = false := by
  cases e : (List.range n).all p with
  | false => rfl
  | true => have := List.all_eq_true.1 e k (List.mem_range.2 hk); rw [h] at this; cases this
set_option maxHeartbeats 2000000 in
theorem checkCourse_any (c : Case) (vc vl : Value) (vs : List Value) (w : World) (B : Nat) (hr : RdCase w B vc vl c vs) (hB : B ≤ w.heap.size) (hn1 : c.clocks.length ≤ 1073741824) (hn2 : c.clues.length ≤ 1073741824) (l : List Int) (vi : Value) (hrl : Rd w B 1 vi l.length (ints l)) (hnl : l.length ≤ 1073741824) :
    Calls Try.prog 38 #[.agg #[.int .i64 c.events, vc, vl], vi] w fun e w' => e = .returned (.int .i64 (startErr c l)) ∧ Below w.heap.size w w' := by
  obtain ⟨Ac, cc_, rfl, _⟩ := hr.clocks.shape
  obtain ⟨Al, cl_, rfl, _⟩ := hr.clues.rd.shape
  obtain ⟨Ai, ci_, rfl, _⟩ := hrl.shape
  have hbw := Below.refl w.heap.size w
  refine EC.enter 38 Try.func38 rfl rfl rfl ?_
  refine EC.seq ?_
  refine EC.region ?_
  refine EL.newP (bx_25 rfl) rfl ?_
  intro g1 w1 q1 hb1 hg1 hl1
  have bhbw_1 := Nat.le_trans hbw.size hg1
  replace hbw := Below.on hbw hb1 hbw.size
  clear hb1 hg1 hl1
  refine EL.val (x_assign rfl) rfl ?_
  refine EL.nil ?_
  refine EX.seq ?_
  refine EC.seq ?_
  refine EC.block ?_
  refine EC.seq ?_
  refine EC.region ?_
  refine EL.val (ld_25 rfl (q1.at (j := 0) rfl) (q1.at (j := 1) rfl) (q1.at (j := 2) rfl)) rfl ?_
  refine EL.call (cl_25 rfl) rfl (check_any c _ _ vs _ B (hr.below (hbw.mono hB)) (Nat.le_trans hB hbw.size) hn1 hn2) ?_
  rintro e w2 ⟨rfl, hc2⟩
  refine ⟨_, rfl, ?_⟩
  replace q1 := q1.below hc2 q1.lt
  replace hbw := Below.on hbw hc2 hbw.size
  clear hc2
  by_cases hc : caseB c = true
  ·
    refine EL.val (x_neq (r := false) rfl rfl (by simp [hc])) rfl ?_
    refine EL.val (x_assign rfl) rfl ?_
    refine EL.nil ?_
    refine EX.seq ?_
    refine EC.no rfl ?_
    refine EC.seq ?_
    refine EC.region ?_
    refine EL.val (x_move rfl) rfl ?_
    refine EL.val (ln_26 rfl) rfl ?_
    refine EL.val (fa_25_2 rfl) rfl ?_
    refine EL.val (ld_23 rfl (q1.at (j := 2) rfl)) rfl ?_
    refine EL.val (ln_23 rfl) rfl ?_
    by_cases hlen : l.length ≠ c.clues.length
    ·
      refine EL.val (x_neq rfl rfl (by first | assumption | exact decide_eq_true (by omega))) rfl ?_
      refine EL.val (x_assign rfl) rfl ?_
      refine EL.nil ?_
      refine EX.seq ?_
      refine EC.yes rfl ?_
      refine EC.seq ?_
      refine EC.region ?_
      refine EL.val (x_assign rfl) rfl ?_
      refine EL.nil ?_
      refine EX.seq ?_
      refine EC.ret ?_
      refine EX.blk_ret ?_
      refine EX.seq_ret ?_
      exact EX.done (res1 rfl rfl) ⟨by rw [startErr, if_neg (by rw [hc]; simp), if_pos hlen], hbw⟩
    ·
      refine EL.val (x_neq rfl rfl (by first | assumption | exact decide_eq_false (by omega))) rfl ?_
      refine EL.val (x_assign rfl) rfl ?_
      refine EL.nil ?_
      refine EX.seq ?_
      refine EC.no rfl ?_
      refine EC.skip ?_
      refine EX.blk ?_
      refine EX.seq ?_
      refine EC.seq ?_
      refine EC.seq ?_
      refine EC.region ?_
      refine EL.val (x_move rfl) rfl ?_
      refine EL.val (ln_26 rfl) rfl ?_
      refine EL.val (x_move rfl) rfl ?_
      refine EL.nil ?_
      refine EX.seq ?_
      refine EC.block ?_
      refine EC.loopD [4, 5, 6, 20, 21, 22, 23, 24, 25, 26, 27, 28, 29, 30, 31, 32, 33, 34, 35, 36, 37] (fun x : Nat => [(20, .int .i64 (x : Nat))]) (fun x W => x ≤ l.length ∧ ((List.range x).all fun i => inB 0 (((c.clues.getD i []).length : Nat) - 1 : Int) (l.getD i 0)) = true ∧ Blk W g1 25 #[.int .i64 c.events, .slice Ac c.clocks.length cc_, .slice Al c.clues.length cl_] ∧ Below w.heap.size w W) (fun x => l.length - x) 0 ⟨Nat.zero_le _, rfl, q1, hbw⟩ ⟨rfl, trivial⟩ ?_
      clear q1 hbw
      rintro k wk ⟨hk, hall, q1, hbw⟩
      by_cases hlt : k < l.length
      ·
        obtain ⟨bi, oi, e_, _, ci⟩ := ints_cells l k hlt w B _ _ _ hrl
        subst e_
        have hkc : k < c.clues.length := by omega
        obtain ⟨bl, ol, e_, _, hcell⟩ := rdll_cell hr.clues k hkc
        subst e_
        obtain ⟨Ao, co, eo, _⟩ := (hr.clues.row k hkc).shape
        rw [eo] at hcell
        have hs := range_all_succ (p := fun i => inB 0 (((c.clues.getD i []).length : Nat) - 1 : Int) (l.getD i 0)) (n := k)
        have hrow3 := ((caseB_ok hc).2.2.2.2 k hkc).1
        refine EC.seq ?_
        refine EC.region ?_
        refine EL.val (x_lss rfl rfl (by first | assumption | exact decide_eq_true (by omega))) rfl ?_
        refine EL.nil ?_
        refine EX.seq ?_
        refine EC.seq ?_
        refine EC.yes rfl ?_
        refine EC.skip ?_
        refine EX.seq ?_
        refine EC.seq ?_
        refine EC.block ?_
        refine EC.seq ?_
        refine EC.region ?_
        refine EL.val (x_move rfl) rfl ?_
        refine EL.val (ix_26 rfl rfl hlt) rfl ?_
        refine EL.val (ld_3 rfl (below_load hbw ci)) rfl ?_
        refine EL.val (x_assign rfl) rfl ?_
        refine EL.val (x_assign rfl) rfl ?_
        refine EL.nil ?_
        refine EX.seq ?_
        refine EC.seq ?_
        refine EC.region ?_
        refine EL.val (fa_25_2 rfl) rfl ?_
        refine EL.val (ld_23 rfl (q1.at (j := 2) rfl)) rfl ?_
        refine EL.val (x_move rfl) rfl ?_
        refine EL.val (ix_23 rfl rfl hkc) rfl ?_
        refine EL.val (fa_74_0 rfl) rfl ?_
        refine EL.val (ld_72 rfl (below_load hbw hcell)) rfl ?_
        refine EL.val (ln_72 rfl) rfl ?_
        refine EL.val (x_sub rfl rfl (by first | assumption | exact IntWalk.i64_in _ ⟨by omega, by omega⟩)) rfl ?_
        refine EL.val (x_move rfl) rfl ?_
        refine EL.newS (bs_26_1 rfl) rfl ?_
        intro g3 w3 q3 hb3 hg3 hl3
        have n1_3 : g1 ≠ g3 := Nat.ne_of_lt (Nat.lt_of_lt_of_le q1.lt hg3)
        have bhbw_3 := Nat.le_trans hbw.size hg3
        replace q1 := q1.below hb3 q1.lt
        replace hbw := Below.on hbw hb3 hbw.size
        clear hb3 hg3 hl3
        cases h1 : inB 0 (((c.clues.getD k []).length : Nat) - 1 : Int) (l.getD k 0)
        ·
          refine EL.call (cl_47 rfl rfl rfl) rfl (within_1 q3 h1) ?_
          rintro e w4 ⟨rfl, hc4⟩
          refine ⟨_, rfl, ?_⟩
          replace q1 := q1.below hc4 q1.lt
          replace q3 := q3.below hc4 q3.lt
          replace hbw := Below.on hbw hc4 hbw.size
          clear hc4
          refine EL.val (x_not rfl) rfl ?_
          refine EL.nil ?_
          refine EX.seq ?_
          refine EC.yes rfl ?_
          refine EC.seq ?_
          refine EC.region ?_
          refine EL.val (x_assign rfl) rfl ?_
          refine EL.nil ?_
          refine EX.seq ?_
          refine EC.ret ?_
          refine EX.blk_ret ?_
          refine EX.seq_ret ?_
          refine EX.seq_ret ?_
          refine EX.blk_ret ?_
          refine EX.seq_ret ?_
          exact EX.done (res1 rfl rfl) ⟨by rw [startErr, if_neg (by rw [hc]; simp), if_neg hlen, if_pos (show courseB c l = false from range_bad hlt h1)], hbw⟩
        ·
          refine EL.call (cl_47 rfl rfl rfl) rfl (within_1 q3 h1) ?_
          rintro e w5 ⟨rfl, hc5⟩
          refine ⟨_, rfl, ?_⟩
          replace q1 := q1.below hc5 q1.lt
          replace q3 := q3.below hc5 q3.lt
          replace hbw := Below.on hbw hc5 hbw.size
          clear hc5
          refine EL.val (x_not rfl) rfl ?_
          refine EL.nil ?_
          refine EX.seq ?_
          refine EC.no rfl ?_
          refine EC.skip ?_
          refine EX.blk ?_
          refine EX.seq ?_
          refine EC.region ?_
          refine EL.val (x_add rfl rfl (by first | assumption | exact IntWalk.i64_in _ ⟨by omega, by omega⟩)) rfl ?_
          refine EL.val (x_move rfl) rfl ?_
          refine EL.nil ?_
          refine EX.roundD (k + 1) ⟨rfl, trivial⟩ (by repeat first | with_reducible exact Sub.refl _ | refine sub_past rfl ?_ | exact Sub.refl _ | refine sub_del rfl ?_ | refine sub_insL_nil ?_) ⟨hlt, by rw [hs, hall, h1]; rfl, q1, hbw⟩ (by omega)
      ·
        obtain rfl : k = l.length := by omega
        refine EC.seq ?_
        refine EC.region ?_
        refine EL.val (x_lss rfl rfl (by first | assumption | exact decide_eq_false (by omega))) rfl ?_
        refine EL.nil ?_
        refine EX.seq ?_
        refine EC.seq ?_
        refine EC.no rfl ?_
        refine EC.exit ?_
        refine EX.seq_exit ?_
        refine EX.seq_exit ?_
        refine EX.blk_here ?_
        refine EX.seq ?_
        refine EC.seq ?_
        refine EC.region ?_
        refine EL.val (x_assign rfl) rfl ?_
        refine EL.nil ?_
        refine EX.seq ?_
        refine EC.ret ?_
        exact EX.done (res1 rfl rfl) ⟨by rw [startErr, if_neg (by rw [hc]; simp), if_neg hlen, if_neg (by rw [courseB, hall]; simp)], hbw⟩
  ·
    rw [Bool.not_eq_true] at hc
    refine EL.val (x_neq (r := true) rfl rfl (by simp [hc])) rfl ?_
    refine EL.val (x_assign rfl) rfl ?_
    refine EL.nil ?_
    refine EX.seq ?_
    refine EC.yes rfl ?_
    refine EC.seq ?_
    refine EC.region ?_
    refine EL.val (x_assign rfl) rfl ?_
    refine EL.nil ?_
    refine EX.seq ?_
    refine EC.ret ?_
    refine EX.blk_ret ?_
    refine EX.seq_ret ?_
    exact EX.done (res1 rfl rfl) ⟨by rw [startErr, if_pos hc], hbw⟩
theorem open_web (c : Case) (vc vl : Value) (vs : List Value) (w : World) (B : Nat) (hr : RdCase w B vc vl c vs) (hB : B ≤ w.heap.size) (hn1 : c.clocks.length ≤ 1073741824) (hn2 : c.clues.length ≤ 1073741824) (l : List Int) (vi : Value) (hrl : Rd w B 1 vi l.length (ints l)) (hnl : l.length ≤ 1073741824) (hc : caseB c = true) (hcr : inCourse c l) :
    Calls Try.prog 39 #[.agg #[.int .i64 c.events, vc, vl], vi] w fun e w' => (∃ g, e = .returned (.pointer (some ⟨g, 0, none⟩)) ∧ WebAt w' g c l) ∧ Below w.heap.size w w' :=
  (open_any c vc vl vs w B hr hB hn1 hn2 l vi hrl hc hcr).mono fun _ w' ⟨⟨g, v, h1, h2, h3⟩, h4⟩ => by
    obtain ⟨Ac, cc, rfl, _⟩ := hr.clocks.shape
    obtain ⟨AL, cL, rfl, _⟩ := h3.shape
    exact ⟨⟨g, h1, Ac, cc, vl, AL, cL, h2, h3⟩, h4⟩
theorem reach_web {g : Nat} {c : Case} {l : List Int} (fr : Int) (w : World) (h : WebAt w g c l) (hc : caseB c = true) (hcr : inCourse c l) :
    Calls Try.prog 65 #[.pointer (some ⟨g, 0, none⟩), .int .i64 fr] w fun e w' => (∃ vM vB, e = .returned (.tuple #[vM, vB, .int .i64 (rch c l fr).ring]) ∧ Rd w' w'.heap.size 1 vM (nOf c) (ints (rch c l fr).most) ∧ Rd w' w'.heap.size 1 vB (nOf c) (ints (rch c l fr).via)) ∧ Below w.heap.size w w' := by
  obtain ⟨Ac, cc, vl, AL, cL, h1, h2⟩ := h
  obtain ⟨hev, h8, _⟩ := caseB_ok hc
  exact reach_any g (nOf c) fr _ w _ h1 h2 (Nat.le_refl _) hev h8 (n_eq hc) (links_ok hc hcr) (links_len hc hcr).2
theorem fits_web {g : Nat} {c : Case} {l : List Int} (w : World) (h : WebAt w g c l) (hc : caseB c = true) (hcr : inCourse c l) {b : Bool} (hb : fitsS c l = b) :
    Calls Try.prog 54 #[.pointer (some ⟨g, 0, none⟩)] w fun e w' => e = .returned (.bool b) ∧ Below w.heap.size w w' := by
  subst hb
  have hbw := Below.refl w.heap.size w
  refine EC.enter 14 Try.func54 rfl rfl rfl ?_
  refine EC.seq ?_
  refine EC.region ?_
  refine EL.val (x_assign rfl) rfl ?_
  refine EL.nil ?_
  refine EX.seq ?_
  refine EC.seq ?_
  refine EC.region ?_
  refine EL.val (x_move rfl) rfl ?_
  refine EL.call (cl_65 rfl rfl) rfl (reach_web (-1) _ h hc hcr) ?_
  rintro e w1 ⟨⟨vM, vB, rfl, hM, hV⟩, hc1⟩
  refine ⟨_, rfl, ?_⟩
  replace hbw := Below.on hbw hc1 hbw.size
  clear hc1
  refine EL.val (x_move rfl) rfl ?_
  refine EL.val (x_extract rfl rfl) rfl ?_
  refine EL.val (x_extract rfl rfl) rfl ?_
  refine EL.val (x_extract rfl rfl) rfl ?_
  refine EL.val (x_assign rfl) rfl ?_
  refine EL.val (x_assign rfl) rfl ?_
  refine EL.val (x_assign rfl) rfl ?_
  refine EL.nil ?_
  refine EX.seq ?_
  refine EC.seq ?_
  refine EC.region ?_
  refine EL.val (x_move rfl) rfl ?_
  refine EL.val (x_lss rfl rfl rfl) rfl ?_
  refine EL.val (x_assign rfl) rfl ?_
  refine EL.nil ?_
  refine EX.seq ?_
  refine EC.ret ?_
  exact EX.done (res1 rfl rfl) ⟨rfl, hbw⟩
set_option maxRecDepth 100000 in
theorem apart_web {g : Nat} {c : Case} {l : List Int} (x y : Nat) (w : World) (h : WebAt w g c l) (hc : caseB c = true) (hcr : inCourse c l) (hx : x < nOf c) (hy : y < nOf c) :
    Calls Try.prog 55 #[.pointer (some ⟨g, 0, none⟩), .int .i64 (x : Nat), .int .i64 (y : Nat)] w fun e w' => e = .returned (.agg #[.int .i64 (apartS c l x y).lo, .int .i64 (apartS c l x y).hi]) ∧ Below w.heap.size w w' := by
  have hox := rch_ok hc hcr ((x : Nat) : Int)
  have hoy := rch_ok hc hcr ((y : Nat) : Int)
  have hbx := hoy.bnd x hx
  have hn29 : nOf c ≤ 29 := by have := caseB_ok hc; unfold nOf; omega
  unfold farI at hbx
  have hbw := Below.refl w.heap.size w
  refine EC.enter 37 Try.func55 rfl rfl rfl ?_
  refine EC.seq ?_
  refine EC.region ?_
  refine EL.newP al_54 rfl ?_
  intro g1 w1 q1 hb1 hg1 hl1
  have bhbw_1 := Nat.le_trans hbw.size hg1
  replace hbw := Below.on hbw hb1 hbw.size
  clear hb1 hg1 hl1
  refine EL.nil ?_
  refine EX.seq ?_
  refine EC.seq ?_
  refine EC.region ?_
  refine EL.val (x_move rfl) rfl ?_
  refine EL.val (x_move rfl) rfl ?_
  refine EL.call (cl_65 rfl rfl) rfl (reach_web ((x : Nat) : Int) _ (h.below hbw) hc hcr) ?_
  rintro e w2 ⟨⟨vMx, vBx, rfl, hMx, hVx⟩, hc2⟩
  refine ⟨_, rfl, ?_⟩
  replace q1 := q1.below hc2 q1.lt
  replace hbw := Below.on hbw hc2 hbw.size
  clear hc2 hVx
  obtain ⟨Ax, cx, rfl, _⟩ := hMx.shape
  refine EL.val (x_move rfl) rfl ?_
  refine EL.val (x_extract rfl rfl) rfl ?_
  refine EL.val (x_extract rfl rfl) rfl ?_
  refine EL.val (x_extract rfl rfl) rfl ?_
  refine EL.val (x_assign rfl) rfl ?_
  refine EL.val (x_assign rfl) rfl ?_
  refine EL.val (x_assign rfl) rfl ?_
  refine EL.nil ?_
  refine EX.seq ?_
  refine EC.seq ?_
  refine EC.region ?_
  refine EL.val (x_move rfl) rfl ?_
  refine EL.val (x_move rfl) rfl ?_
  refine EL.call (cl_65 rfl rfl) rfl (reach_web ((y : Nat) : Int) _ (h.below hbw) hc hcr) ?_
  rintro e w3 ⟨⟨vMy, vBy, rfl, hMy, hVy⟩, hc3⟩
  refine ⟨_, rfl, ?_⟩
  replace hMx := (hMx.below hc3).more hc3.size
  replace q1 := q1.below hc3 q1.lt
  replace hbw := Below.on hbw hc3 hbw.size
  clear hc3 hVy
  obtain ⟨Ay, cy, rfl, _⟩ := hMy.shape
  refine EL.val (x_move rfl) rfl ?_
  refine EL.val (x_extract rfl rfl) rfl ?_
  refine EL.val (x_extract rfl rfl) rfl ?_
  refine EL.val (x_extract rfl rfl) rfl ?_
  refine EL.val (x_assign rfl) rfl ?_
  refine EL.val (x_assign rfl) rfl ?_
  refine EL.val (x_assign rfl) rfl ?_
  refine EL.nil ?_
  refine EX.seq ?_
  refine EC.seq ?_
  obtain ⟨b1, o1, e_, _, cX⟩ := ints_cells (rch c l x).most y (by rw [hox.most]; exact hy) _ _ _ _ _ hMx
  subst e_
  obtain ⟨b2, o2, e_, _, cY⟩ := ints_cells (rch c l y).most x (by rw [hoy.most]; exact hx) _ _ _ _ _ hMy
  subst e_
  have lt_1 := q1.lt
  refine EC.regionP [[], [], [0, 1], [0, 1, 2], [0, 1, 2, 3], [], [], [5, 6], [5, 6, 7], [0, 1, 2, 3, 4, 5, 6, 7, 8], [0, 1, 2, 3, 4, 5, 6, 7, 8, 9]] 10 [] (phi (fun i_ r => match i_ with | 0 => r 0 = .slice (some ⟨b2, o2, none⟩) (nOf c) cy | 1 => r 1 = .int .i64 (x : Nat) | 2 => r 2 = .pointer (some ⟨b2, o2 + x, none⟩) | 3 => r 3 = .int .i64 ((rch c l y).most.getD x 0) | 4 => r 4 = .int .i64 (-((rch c l y).most.getD x 0)) | 5 => r 5 = .slice (some ⟨b1, o1, none⟩) (nOf c) cx | 6 => r 6 = .int .i64 (y : Nat) | 7 => r 7 = .pointer (some ⟨b1, o1 + y, none⟩) | 8 => r 8 = .int .i64 ((rch c l x).most.getD y 0) | 9 => r 9 = .agg #[.int .i64 (-((rch c l y).most.getD x 0)), .int .i64 ((rch c l x).most.getD y 0)] | _ => True) []) (by kernel_rfl) rfl rfl (phi_nil) (fun i_ hi_ => ?_) ?_
  · match i_, hi_ with
    | 0, _ =>
      intro val w1 a hb ha hd
      have ha := ha.sub (Sub.ins (d := 10) (Sub.nil _) rfl)
      exact hs_val ha rfl rfl (x_move rfl) rfl rfl
    | 1, _ =>
      intro val w1 a hb ha hd
      have ha := ha.sub (Sub.ins (d := 1) (Sub.nil _) rfl)
      exact hs_val ha rfl rfl (x_move rfl) rfl rfl
    | 2, _ =>
      intro val w1 a hb ha hd
      have e0 : val 0 = .slice (some ⟨b2, o2, none⟩) (nOf c) cy := hd 0 (memB_mem.1 rfl)
      have e1 : val 1 = .int .i64 (x : Nat) := hd 1 (memB_mem.1 rfl)
      have ha := ha.sub (Sub.ins (d := 28) (Sub.ins (d := 27) (Sub.nil _) (dep_get rfl e0)) (dep_get rfl e1))
      exact hs_val ha rfl rfl (ix_26 rfl rfl hx) rfl rfl
    | 3, _ =>
      intro val w1 a hb ha hd
      have e2 : val 2 = .pointer (some ⟨b2, o2 + x, none⟩) := hd 2 (memB_mem.1 rfl)
      have ha := ha.sub (Sub.ins (d := 29) (Sub.nil _) (dep_get rfl e2))
      exact hs_val ha rfl rfl (ld_3 rfl (below_load hb cY)) rfl rfl
    | 4, _ =>
      intro val w1 a hb ha hd
      have e3 : val 3 = .int .i64 ((rch c l y).most.getD x 0) := hd 3 (memB_mem.1 rfl)
      have ha := ha.sub (Sub.ins (d := 30) (Sub.nil _) (dep_get rfl e3))
      exact hs_val ha rfl rfl (x_neg rfl (by first | assumption | exact IntWalk.i64_in _ ⟨by omega, by omega⟩)) rfl rfl
    | 5, _ =>
      intro val w1 a hb ha hd
      have ha := ha.sub (Sub.ins (d := 7) (Sub.nil _) rfl)
      exact hs_val ha rfl rfl (x_move rfl) rfl rfl
    | 6, _ =>
      intro val w1 a hb ha hd
      have ha := ha.sub (Sub.ins (d := 2) (Sub.nil _) rfl)
      exact hs_val ha rfl rfl (x_move rfl) rfl rfl
    | 7, _ =>
      intro val w1 a hb ha hd
      have e5 : val 5 = .slice (some ⟨b1, o1, none⟩) (nOf c) cx := hd 5 (memB_mem.1 rfl)
      have e6 : val 6 = .int .i64 (y : Nat) := hd 6 (memB_mem.1 rfl)
      have ha := ha.sub (Sub.ins (d := 33) (Sub.ins (d := 32) (Sub.nil _) (dep_get rfl e5)) (dep_get rfl e6))
      exact hs_val ha rfl rfl (ix_26 rfl rfl hy) rfl rfl
    | 8, _ =>
      intro val w1 a hb ha hd
      have e7 : val 7 = .pointer (some ⟨b1, o1 + y, none⟩) := hd 7 (memB_mem.1 rfl)
      have ha := ha.sub (Sub.ins (d := 34) (Sub.nil _) (dep_get rfl e7))
      exact hs_val ha rfl rfl (ld_3 rfl (below_load hb cX)) rfl rfl
    | 9, _ =>
      intro val w1 a hb ha hd
      have e4 : val 4 = .int .i64 (-((rch c l y).most.getD x 0)) := hd 4 (memB_mem.1 rfl)
      have e8 : val 8 = .int .i64 ((rch c l x).most.getD y 0) := hd 8 (memB_mem.1 rfl)
      have ha := ha.sub (Sub.ins (d := 35) (Sub.ins (d := 31) (Sub.nil _) (dep_get rfl e4)) (dep_get rfl e8))
      exact hs_val ha rfl rfl (bd_54_0_1 rfl rfl) rfl rfl
    | k + 10, h => exact absurd h (by omega)
  · intro val wR3 hb halc hd
    have e0 : val 0 = .slice (some ⟨b2, o2, none⟩) (nOf c) cy := hd 0 (by omega)
    have e1 : val 1 = .int .i64 (x : Nat) := hd 1 (by omega)
    have e2 : val 2 = .pointer (some ⟨b2, o2 + x, none⟩) := hd 2 (by omega)
    have e3 : val 3 = .int .i64 ((rch c l y).most.getD x 0) := hd 3 (by omega)
    have e4 : val 4 = .int .i64 (-((rch c l y).most.getD x 0)) := hd 4 (by omega)
    have e5 : val 5 = .slice (some ⟨b1, o1, none⟩) (nOf c) cx := hd 5 (by omega)
    have e6 : val 6 = .int .i64 (y : Nat) := hd 6 (by omega)
    have e7 : val 7 = .pointer (some ⟨b1, o1 + y, none⟩) := hd 7 (by omega)
    have e8 : val 8 = .int .i64 ((rch c l x).most.getD y 0) := hd 8 (by omega)
    have e9 : val 9 = .agg #[.int .i64 (-((rch c l y).most.getD x 0)), .int .i64 ((rch c l x).most.getD y 0)] := hd 9 (by omega)
    refine EL.ends (cs := [.slice (some ⟨b2, o2, none⟩) (nOf c) cy, .int .i64 (x : Nat), .pointer (some ⟨b2, o2 + x, none⟩), .int .i64 ((rch c l y).most.getD x 0), .int .i64 (-((rch c l y).most.getD x 0)), .slice (some ⟨b1, o1, none⟩) (nOf c) cx, .int .i64 (y : Nat), .pointer (some ⟨b1, o1 + y, none⟩), .int .i64 ((rch c l x).most.getD y 0), .agg #[.int .i64 (-((rch c l y).most.getD x 0)), .int .i64 ((rch c l x).most.getD y 0)]]) ⟨e0, e1, e2, e3, e4, e5, e6, e7, e8, e9, trivial⟩ rfl ?_
    replace q1 := q1.below hb q1.lt
    replace hbw := Below.on hbw hb hbw.size
    clear hb
    refine EL.store rfl rfl q1 sz_54 rfl rfl rfl rfl ?_
    intro w4 hq4 hg4
    replace hbw := below_store hbw hg4 bhbw_1
    replace q1 := hq4
    clear hg4 hq4
    refine EL.nil ?_
    refine EX.seq ?_
    refine EC.ret ?_
    exact EX.done (resc1 rfl rfl (lv_54 (q1.at (j := 0) rfl) (q1.at (j := 1) rfl))) ⟨rfl, hbw⟩
end Go.Proofs.Ytmaiiigijjfjfaa
set_option linter.unusedVariables false
set_option linter.unusedSimpArgs false
namespace Go.Proofs.Ytmaiiigijjfjfaa
open Go Go.RowKit
section
variable {n : Nat} {σ : Sg} {w : World} {dst : Option Tmp} {ty : TypeId} {pos : String} {af : Array Edge} {g : Option (Nat × Bool)} {x y z : Operand} {at' : Array TypeId}
theorem cl_55 {x0 x1 x2 : Operand} {v0 v1 v2 : Value} (h0 : evS σ x0 = some v0) (h1 : evS σ x1 = some v1) (h2 : evS σ x2 = some v2) (a : Act) (ha : Env n σ a) : (execOp a.eval ⟨dst, .call { callee := .value (.func 55), args := #[x0, x1, x2], argTypes := at' }, ty, pos, af, g⟩).run Try.prog w = .ok (.enter 55 #[v0, v1, v2]) w := by
  simp only [execOp, resolve, List.map_toArray, List.map_cons, List.map_nil, ha.eval h0, ha.eval h1, ha.eval h2]
  simp [go_sem, Act.eval]
theorem bs_22_1 {x0 : Operand} {v0_0 v0_1 : Value} (h0 : evS σ x0 = some (.agg #[v0_0, v0_1]))  (a : Act) (ha : Env n σ a) : (execOp a.eval ⟨dst, .buildSlice 22 1 #[(0, x0)], ty, pos, af, g⟩).run Try.prog w = .ok (.value (.slice (some ⟨w.heap.size, 0, none⟩) 1 1)) (w.alloc (.cells #[v0_0, v0_1] 54)) := by
  simp only [execOp, List.map_toArray, List.map_cons, List.map_nil, ha.eval h0]
  go_simp
end
end Go.Proofs.Ytmaiiigijjfjfaa
set_option linter.unusedVariables false
set_option linter.unusedSimpArgs false
namespace Go.Proofs.Ytmaiiigijjfjfaa
open Go Go.RowKit
theorem bd_info : (Try.prog.info? 54).map (fun i => (i.zero, i.size, i.bytes)) = some (some (.agg #[.int .i64 0, .int .i64 0]), 2, 16) := by kernel_rfl
theorem bd_elem : Elem Try.prog 22 54 2 16 := Elem.mk' Try.underlying22 bd_info rfl (by omega)
/-- when each event can have happened -/
def timesN (c : Case) (l : List Int) (k : Nat) : List Bd := (List.range k).map fun i => apartS c l 0 (1 + i)
theorem timesN_succ (c : Case) (l : List Int) (k : Nat) : timesN c l (k + 1) = timesN c l k ++ [apartS c l 0 (1 + k)] := by simp [timesN, List.range_succ]
theorem timesN_len (c : Case) (l : List Int) (k : Nat) : (timesN c l k).length = k := by simp [timesN]
theorem bdsC_app (l m : List Bd) : bdsC (l ++ m) = bdsC l ++ bdsC m := by simp [bdsC]
def timesErr (c : Case) (l : List Int) : Int := if startErr c l ≠ 0 then startErr c l else if fitsS c l = false then 9 else 0
def timesL (c : Case) (l : List Int) : List Bd := if timesErr c l = 0 then timesN c l c.events.toNat else []
theorem times_start {c : Case} {l : List Int} (h : startErr c l ≠ 0) : timesErr c l = startErr c l ∧ timesL c l = [] := by simp [timesErr, timesL, h]
theorem times_fit {c : Case} {l : List Int} (h : startErr c l = 0) (hf : fitsS c l = false) : timesErr c l = 9 ∧ timesL c l = [] := by simp [timesErr, timesL, h, hf]
theorem times_ok {c : Case} {l : List Int} (h : startErr c l = 0) (hf : fitsS c l = true) : timesErr c l = 0 ∧ timesL c l = timesN c l c.events.toNat := by simp [timesErr, timesL, h, hf]
def btwErr (c : Case) (l : List Int) (a b : Int) : Int := if startErr c l ≠ 0 then startErr c l else if (inB 0 (c.events - 1) a && inB 0 (c.events - 1) b) = false then 7 else if fitsS c l = false then 9 else 0
def btwS (c : Case) (l : List Int) (a b : Int) : Bd := if btwErr c l a b = 0 then apartS c l (1 + a.toNat) (1 + b.toNat) else bd0
set_option maxHeartbeats 2000000 in
theorem times_any (c : Case) (vc vl : Value) (vs : List Value) (w : World) (B : Nat) (hr : RdCase w B vc vl c vs) (hB : B ≤ w.heap.size) (hn1 : c.clocks.length ≤ 1073741824) (hn2 : c.clues.length ≤ 1073741824) (l : List Int) (vi : Value) (hrl : Rd w B 1 vi l.length (ints l)) (hnl : l.length ≤ 1073741824) :
    Calls Try.prog 27 #[.agg #[.int .i64 c.events, vc, vl], vi] w fun e w' => (∃ v, e = .returned (.tuple #[v, .int .i64 (timesErr c l)]) ∧ Rd w' w'.heap.size 2 v (timesL c l).length (bdsC (timesL c l))) ∧ Below w.heap.size w w' := by
  obtain ⟨Ac, cc_, rfl, _⟩ := hr.clocks.shape
  obtain ⟨Al, cl_, rfl, _⟩ := hr.clues.rd.shape
  obtain ⟨Ai, ci_, rfl, _⟩ := hrl.shape
  have hbw := Below.refl w.heap.size w
  refine EC.enter 36 Try.func27 rfl rfl rfl ?_
  refine EC.seq ?_
  refine EC.region ?_
  refine EL.newP (bx_25 rfl) rfl ?_
  intro g1 w1 q1 hb1 hg1 hl1
  have bhbw_1 := Nat.le_trans hbw.size hg1
  replace hbw := Below.on hbw hb1 hbw.size
  clear hb1 hg1 hl1
  refine EL.val (x_assign rfl) rfl ?_
  refine EL.val (x_assign rfl) rfl ?_
  refine EL.nil ?_
  refine EX.seq ?_
  refine EC.seq ?_
  refine EC.seq ?_
  refine EC.region ?_
  refine EL.val (ld_25 rfl (q1.at (j := 0) rfl) (q1.at (j := 1) rfl) (q1.at (j := 2) rfl)) rfl ?_
  refine EL.val (x_move rfl) rfl ?_
  refine EL.call (cl_38 rfl rfl) rfl (checkCourse_any c _ _ vs _ B (hr.below (hbw.mono hB)) (Nat.le_trans hB hbw.size) hn1 hn2 l _ (hrl.below (hbw.mono hB)) hnl) ?_
  rintro e w2 ⟨rfl, hc2⟩
  refine ⟨_, rfl, ?_⟩
  replace q1 := q1.below hc2 q1.lt
  replace hbw := Below.on hbw hc2 hbw.size
  clear hc2
  refine EL.val (x_assign rfl) rfl ?_
  refine EL.nil ?_
  refine EX.seq ?_
  refine EC.seq ?_
  refine EC.region ?_
  refine EL.val (x_move rfl) rfl ?_
  by_cases hst : startErr c l = 0
  ·
    obtain ⟨hc, hlen, _, hcr⟩ := start_ok hst
    have hev := (caseB_ok hc).1
    refine EL.val (x_neq (r := false) rfl rfl (by simp [hst])) rfl ?_
    refine EL.nil ?_
    refine EX.seq ?_
    refine EC.no rfl ?_
    refine EC.skip ?_
    refine EX.seq ?_
    refine EC.seq ?_
    refine EC.region ?_
    refine EL.val (ld_25 rfl (q1.at (j := 0) rfl) (q1.at (j := 1) rfl) (q1.at (j := 2) rfl)) rfl ?_
    refine EL.val (x_move rfl) rfl ?_
    refine EL.call (cl_39 rfl rfl) rfl (open_web c _ _ vs _ B (hr.below (hbw.mono hB)) (Nat.le_trans hB hbw.size) hn1 hn2 l _ (hrl.below (hbw.mono hB)) hnl hc hcr) ?_
    rintro e w3 ⟨⟨gw, rfl, hweb⟩, hc3⟩
    refine ⟨_, rfl, ?_⟩
    replace q1 := q1.below hc3 q1.lt
    replace hbw := Below.on hbw hc3 hbw.size
    clear hc3
    refine EL.val (x_assign rfl) rfl ?_
    refine EL.nil ?_
    refine EX.seq ?_
    refine EC.seq ?_
    refine EC.seq ?_
    refine EC.region ?_
    refine EL.val (x_move rfl) rfl ?_
    cases hfit : fitsS c l
    ·
      refine EL.call (cl_54 rfl) rfl (fits_web _ hweb hc hcr hfit) ?_
      rintro e w4 ⟨rfl, hc4⟩
      refine ⟨_, rfl, ?_⟩
      replace q1 := q1.below hc4 q1.lt
      replace hweb := hweb.below hc4
      replace hbw := Below.on hbw hc4 hbw.size
      clear hc4
      refine EL.val (x_not rfl) rfl ?_
      refine EL.nil ?_
      refine EX.seq ?_
      refine EC.yes rfl ?_
      refine EC.seq ?_
      refine EC.region ?_
      refine EL.val (x_assign rfl) rfl ?_
      refine EL.val (x_assign rfl) rfl ?_
      refine EL.nil ?_
      refine EX.seq ?_
      refine EC.ret ?_
      refine EX.seq_ret ?_
      exact EX.done (res2 rfl rfl rfl) ⟨⟨_, by rw [(times_fit hst hfit).1], by rw [(times_fit hst hfit).2]; exact rd_nil⟩, hbw⟩
    ·
      refine EL.call (cl_54 rfl) rfl (fits_web _ hweb hc hcr hfit) ?_
      rintro e w5 ⟨rfl, hc5⟩
      refine ⟨_, rfl, ?_⟩
      replace q1 := q1.below hc5 q1.lt
      replace hweb := hweb.below hc5
      replace hbw := Below.on hbw hc5 hbw.size
      clear hc5
      refine EL.val (x_not rfl) rfl ?_
      refine EL.nil ?_
      refine EX.seq ?_
      refine EC.no rfl ?_
      refine EC.skip ?_
      refine EX.seq ?_
      refine EC.seq ?_
      refine EC.seq ?_
      refine EC.region ?_
      refine EL.val (fa_25_0 rfl) rfl ?_
      refine EL.val (ld_3 rfl (q1.at (j := 0) rfl)) rfl ?_
      refine EL.val (x_move rfl) rfl ?_
      refine EL.nil ?_
      refine EX.seq ?_
      refine EC.block ?_
      obtain ⟨N, eN⟩ : ∃ N : Nat, c.events = N := ⟨c.events.toNat, by omega⟩
      have eN2 : c.events.toNat = N := by omega
      have hnO : N < nOf c := by unfold nOf; omega
      have hweb0 := hweb
      have hsz0 := hbw.size
      have hb0 := Below.refl w5.heap.size w5
      refine EC.loopD [4, 8, 23, 24, 25, 26, 27, 28, 29, 30, 31, 32, 33, 34] (fun x : Nat × Value => [(4, x.2), (23, .int .i64 (x.1 : Nat))]) (fun x W => x.1 ≤ N ∧ W.ownsRow w5.heap.size 54 2 x.2 x.1 (bdsC (timesN c l x.1)) ∧ Below w.heap.size w W ∧ Below w5.heap.size w5 W) (fun x => N - x.1) (0, .slice none 0 0) ⟨Nat.zero_le _, ⟨rfl, .inl ⟨rfl, rfl⟩⟩, hbw, hb0⟩ ⟨rfl, rfl, trivial⟩ ?_
      clear hbw hb0 hweb
      rintro ⟨k, v⟩ wk ⟨hk, ho, hbw, hb0⟩
      dsimp only at hk ho
      by_cases hlt : k < N
      ·
        refine EC.seq ?_
        refine EC.region ?_
        refine EL.val (x_lss rfl rfl (decide_eq_true (show ((k : Nat) : Int) < c.events by omega))) rfl ?_
        refine EL.nil ?_
        refine EX.seq ?_
        refine EC.seq ?_
        refine EC.yes rfl ?_
        refine EC.skip ?_
        refine EX.seq ?_
        refine EC.seq ?_
        refine EC.block ?_
        refine EC.seq ?_
        refine EC.region ?_
        refine EL.val (x_move rfl) rfl ?_
        refine EL.val (x_assign rfl) rfl ?_
        refine EL.nil ?_
        refine EX.seq ?_
        refine EC.region ?_
        refine EL.val (x_move rfl) rfl ?_
        refine EL.val (x_move rfl) rfl ?_
        refine EL.val (x_move rfl) rfl ?_
        refine EL.val (x_move rfl) rfl ?_
        refine EL.call (cl_56 rfl rfl) rfl (event_any _ ((k : Nat) : Int) _ (by omega)) ?_
        rintro e w6 ⟨rfl, hc6⟩
        refine ⟨_, rfl, ?_⟩
        replace ho := own_below ho hc6 (Nat.le_refl _)
        replace hbw := Below.on hbw hc6 hbw.size
        replace hb0 := Below.on hb0 hc6 hb0.size
        clear hc6
        have e1 : (1 : Int) + ((k : Nat) : Int) = ((1 + k : Nat) : Int) := by omega
        rw [e1]
        refine EL.call (cl_55 rfl rfl rfl) rfl (apart_web 0 (1 + k) _ (hweb0.below hb0) hc hcr (by omega) (by omega)) ?_
        rintro e w7 ⟨rfl, hc7⟩
        refine ⟨_, rfl, ?_⟩
        replace ho := own_below ho hc7 (Nat.le_refl _)
        replace hbw := Below.on hbw hc7 hbw.size
        replace hb0 := Below.on hb0 hc7 hb0.size
        clear hc7
        refine EL.newS (bs_22_1 rfl) rfl ?_
        intro g8 w8 q8 hb8 hg8 hl8
        have bhbw_8 := Nat.le_trans hbw.size hg8
        have bhb0_8 := Nat.le_trans hb0.size hg8
        replace ho := own_below ho hb8 (Nat.le_refl _)
        replace hbw := Below.on hbw hb8 hbw.size
        replace hb0 := Below.on hb0 hb8 hb0.size
        clear hb8 hg8 hl8
        refine EL.push bd_elem rfl rfl ho (rd_one (l := [.int .i64 (apartS c l 0 (1 + k)).lo, .int .i64 (apartS c l 0 (1 + k)).hi]) q8 rfl) (fun u hu => by simp only [List.mem_cons, List.not_mem_nil, or_false] at hu; rcases hu with rfl | rfl <;> rfl) (by have := hev; omega) rfl hb0.size rfl ?_
        intro v2 w9 ho2 hg hb2 _
        replace hb0 := hb0.trans hb2
        replace hbw := hbw.trans (hb2.mono hsz0)
        have ho := ho2
        clear ho2 hb2 hg
        refine EL.val (x_assign rfl) rfl ?_
        refine EL.nil ?_
        refine EX.blk ?_
        refine EX.seq ?_
        refine EC.region ?_
        refine EL.val (x_add rfl rfl (c := ((k + 1 : Nat) : Int)) ((IntWalk.i64_in _ ⟨by first | omega | (simp only; omega), by first | omega | (simp only; omega)⟩).trans (by first | omega | (simp only; omega)))) rfl ?_
        refine EL.val (x_move rfl) rfl ?_
        refine EL.nil ?_
        refine EX.roundD (k + 1, _) ⟨rfl, rfl, trivial⟩ (by repeat first | with_reducible exact Sub.refl _ | refine sub_past rfl ?_ | exact Sub.refl _ | refine sub_del rfl ?_ | refine sub_insL_nil ?_) ⟨hlt, by rw [timesN_succ, bdsC_app]; exact ho, hbw, hb0⟩ (by simp only; omega)
      ·
        obtain rfl : k = N := by omega
        refine EC.seq ?_
        refine EC.region ?_
        refine EL.val (x_lss rfl rfl (decide_eq_false (show ¬((k : Nat) : Int) < c.events by omega))) rfl ?_
        refine EL.nil ?_
        refine EX.seq ?_
        refine EC.seq ?_
        refine EC.no rfl ?_
        refine EC.exit ?_
        refine EX.seq_exit ?_
        refine EX.seq_exit ?_
        refine EX.blk_here ?_
        refine EX.seq ?_
        refine EC.seq ?_
        refine EC.region ?_
        refine EL.val (x_move rfl) rfl ?_
        refine EL.val (x_assign rfl) rfl ?_
        refine EL.val (x_assign rfl) rfl ?_
        refine EL.nil ?_
        refine EX.seq ?_
        refine EC.ret ?_
        exact EX.done (res2 rfl rfl rfl) ⟨⟨_, by rw [(times_ok hst hfit).1], by rw [(times_ok hst hfit).2, eN2, timesN_len]; exact Rd.of_own ho⟩, hbw⟩
  ·
    refine EL.val (x_neq (r := true) rfl rfl (decide_eq_true hst)) rfl ?_
    refine EL.nil ?_
    refine EX.seq ?_
    refine EC.yes rfl ?_
    refine EC.seq ?_
    refine EC.region ?_
    refine EL.val (x_move rfl) rfl ?_
    refine EL.val (x_assign rfl) rfl ?_
    refine EL.val (x_assign rfl) rfl ?_
    refine EL.nil ?_
    refine EX.seq ?_
    refine EC.ret ?_
    refine EX.seq_ret ?_
    exact EX.done (res2 rfl rfl rfl) ⟨⟨_, by rw [(times_start hst).1], by rw [(times_start hst).2]; exact rd_nil⟩, hbw⟩
set_option maxHeartbeats 2000000 in
theorem between_any (c : Case) (vc vl : Value) (vs : List Value) (w : World) (B : Nat) (hr : RdCase w B vc vl c vs) (hB : B ≤ w.heap.size) (hn1 : c.clocks.length ≤ 1073741824) (hn2 : c.clues.length ≤ 1073741824) (l : List Int) (vi : Value) (hrl : Rd w B 1 vi l.length (ints l)) (hnl : l.length ≤ 1073741824) (a b : Int) :
    Calls Try.prog 28 #[.agg #[.int .i64 c.events, vc, vl], vi, .int .i64 a, .int .i64 b] w fun e w' => e = .returned (.tuple #[.agg #[.int .i64 (btwS c l a b).lo, .int .i64 (btwS c l a b).hi], .int .i64 (btwErr c l a b)]) ∧ Below w.heap.size w w' := by
  obtain ⟨Ac, cc_, rfl, _⟩ := hr.clocks.shape
  obtain ⟨Al, cl_, rfl, _⟩ := hr.clues.rd.shape
  obtain ⟨Ai, ci_, rfl, _⟩ := hrl.shape
  have hbw := Below.refl w.heap.size w
  refine EC.enter 43 Try.func28 rfl rfl rfl ?_
  refine EC.seq ?_
  refine EC.region ?_
  refine EL.newP (bx_25 rfl) rfl ?_
  intro g1 w1 q1 hb1 hg1 hl1
  have bhbw_1 := Nat.le_trans hbw.size hg1
  replace hbw := Below.on hbw hb1 hbw.size
  clear hb1 hg1 hl1
  refine EL.newP al_54 rfl ?_
  intro g2 w2 q2 hb2 hg2 hl2
  have n1_2 : g1 ≠ g2 := Nat.ne_of_lt (Nat.lt_of_lt_of_le q1.lt hg2)
  have bhbw_2 := Nat.le_trans hbw.size hg2
  replace q1 := q1.below hb2 q1.lt
  replace hbw := Below.on hbw hb2 hbw.size
  clear hb2 hg2 hl2
  refine EL.val (x_assign rfl) rfl ?_
  refine EL.nil ?_
  refine EX.seq ?_
  refine EC.seq ?_
  refine EC.seq ?_
  refine EC.region ?_
  refine EL.val (ld_25 rfl (q1.at (j := 0) rfl) (q1.at (j := 1) rfl) (q1.at (j := 2) rfl)) rfl ?_
  refine EL.val (x_move rfl) rfl ?_
  refine EL.call (cl_38 rfl rfl) rfl (checkCourse_any c _ _ vs _ B (hr.below (hbw.mono hB)) (Nat.le_trans hB hbw.size) hn1 hn2 l _ (hrl.below (hbw.mono hB)) hnl) ?_
  rintro e w3 ⟨rfl, hc3⟩
  refine ⟨_, rfl, ?_⟩
  replace q1 := q1.below hc3 q1.lt
  replace q2 := q2.below hc3 q2.lt
  replace hbw := Below.on hbw hc3 hbw.size
  clear hc3
  refine EL.val (x_assign rfl) rfl ?_
  refine EL.nil ?_
  refine EX.seq ?_
  refine EC.seq ?_
  refine EC.region ?_
  refine EL.val (x_move rfl) rfl ?_
  by_cases hst : startErr c l = 0
  ·
    obtain ⟨hc, hlen, _, hcr⟩ := start_ok hst
    have hev := (caseB_ok hc).1
    refine EL.val (x_neq (r := false) rfl rfl (by simp [hst])) rfl ?_
    refine EL.nil ?_
    refine EX.seq ?_
    refine EC.no rfl ?_
    refine EC.skip ?_
    refine EX.seq ?_
    refine EC.seq ?_
    refine EC.seq ?_
    refine EC.region ?_
    refine EL.val (fa_25_0 rfl) rfl ?_
    refine EL.val (ld_3 rfl (q1.at (j := 0) rfl)) rfl ?_
    refine EL.val (x_sub rfl rfl (by first | assumption | exact IntWalk.i64_in _ ⟨by omega, by omega⟩)) rfl ?_
    refine EL.val (x_move rfl) rfl ?_
    refine EL.val (x_move rfl) rfl ?_
    refine EL.newS (bs_26_2 rfl rfl) rfl ?_
    intro g4 w4 q4 hb4 hg4 hl4
    have n1_4 : g1 ≠ g4 := Nat.ne_of_lt (Nat.lt_of_lt_of_le q1.lt hg4)
    have n2_4 : g2 ≠ g4 := Nat.ne_of_lt (Nat.lt_of_lt_of_le q2.lt hg4)
    have bhbw_4 := Nat.le_trans hbw.size hg4
    replace q1 := q1.below hb4 q1.lt
    replace q2 := q2.below hb4 q2.lt
    replace hbw := Below.on hbw hb4 hbw.size
    clear hb4 hg4 hl4
    cases hin : (inB 0 (c.events - 1) a && inB 0 (c.events - 1) b)
    ·
      refine EL.call (cl_47 rfl rfl rfl) rfl (within_2 q4 hin) ?_
      rintro e w5 ⟨rfl, hc5⟩
      refine ⟨_, rfl, ?_⟩
      replace q1 := q1.below hc5 q1.lt
      replace q2 := q2.below hc5 q2.lt
      replace q4 := q4.below hc5 q4.lt
      replace hbw := Below.on hbw hc5 hbw.size
      clear hc5
      refine EL.val (x_not rfl) rfl ?_
      refine EL.nil ?_
      refine EX.seq ?_
      refine EC.yes rfl ?_
      refine EC.seq ?_
      refine EC.region ?_
      refine EL.val (ld_54 rfl (q2.at (j := 0) rfl) (q2.at (j := 1) rfl)) rfl ?_
      refine EL.store rfl rfl q2 sz_54 rfl rfl rfl rfl ?_
      intro w6 hq6 hg6
      replace q1 := q1.grown hg6 (fun h => n1_2 (Option.some.inj h))
      replace q4 := q4.grown hg6 (fun h => n2_4.symm (Option.some.inj h))
      replace hbw := below_store hbw hg6 bhbw_2
      replace q2 := hq6
      clear hg6 hq6
      refine EL.val (x_assign rfl) rfl ?_
      refine EL.nil ?_
      refine EX.seq ?_
      refine EC.ret ?_
      refine EX.seq_ret ?_
      exact EX.done (resct rfl rfl rfl (lv_54 (q2.at (j := 0) rfl) (q2.at (j := 1) rfl))) ⟨by simp [btwErr, btwS, bd0, hst, hin], hbw⟩
    ·
      have hin2 := hin
      rw [Bool.and_eq_true, inB_iff, inB_iff] at hin2
      obtain ⟨m1, rfl⟩ : ∃ m : Nat, a = m := ⟨a.toNat, by omega⟩
      obtain ⟨m2, rfl⟩ : ∃ m : Nat, b = m := ⟨b.toNat, by omega⟩
      refine EL.call (cl_47 rfl rfl rfl) rfl (within_2 q4 hin) ?_
      rintro e w7 ⟨rfl, hc7⟩
      refine ⟨_, rfl, ?_⟩
      replace q1 := q1.below hc7 q1.lt
      replace q2 := q2.below hc7 q2.lt
      replace q4 := q4.below hc7 q4.lt
      replace hbw := Below.on hbw hc7 hbw.size
      clear hc7
      refine EL.val (x_not rfl) rfl ?_
      refine EL.nil ?_
      refine EX.seq ?_
      refine EC.no rfl ?_
      refine EC.skip ?_
      refine EX.seq ?_
      refine EC.seq ?_
      refine EC.region ?_
      refine EL.val (ld_25 rfl (q1.at (j := 0) rfl) (q1.at (j := 1) rfl) (q1.at (j := 2) rfl)) rfl ?_
      refine EL.val (x_move rfl) rfl ?_
      refine EL.call (cl_39 rfl rfl) rfl (open_web c _ _ vs _ B (hr.below (hbw.mono hB)) (Nat.le_trans hB hbw.size) hn1 hn2 l _ (hrl.below (hbw.mono hB)) hnl hc hcr) ?_
      rintro e w8 ⟨⟨gw, rfl, hweb⟩, hc8⟩
      refine ⟨_, rfl, ?_⟩
      replace q1 := q1.below hc8 q1.lt
      replace q2 := q2.below hc8 q2.lt
      replace q4 := q4.below hc8 q4.lt
      replace hbw := Below.on hbw hc8 hbw.size
      clear hc8
      refine EL.val (x_assign rfl) rfl ?_
      refine EL.nil ?_
      refine EX.seq ?_
      refine EC.seq ?_
      refine EC.seq ?_
      refine EC.region ?_
      refine EL.val (x_move rfl) rfl ?_
      cases hfit : fitsS c l
      ·
        refine EL.call (cl_54 rfl) rfl (fits_web _ hweb hc hcr hfit) ?_
        rintro e w9 ⟨rfl, hc9⟩
        refine ⟨_, rfl, ?_⟩
        replace q1 := q1.below hc9 q1.lt
        replace q2 := q2.below hc9 q2.lt
        replace q4 := q4.below hc9 q4.lt
        replace hweb := hweb.below hc9
        replace hbw := Below.on hbw hc9 hbw.size
        clear hc9
        refine EL.val (x_not rfl) rfl ?_
        refine EL.nil ?_
        refine EX.seq ?_
        refine EC.yes rfl ?_
        refine EC.seq ?_
        refine EC.region ?_
        refine EL.val (ld_54 rfl (q2.at (j := 0) rfl) (q2.at (j := 1) rfl)) rfl ?_
        refine EL.store rfl rfl q2 sz_54 rfl rfl rfl rfl ?_
        intro w10 hq10 hg10
        replace q1 := q1.grown hg10 (fun h => n1_2 (Option.some.inj h))
        replace q4 := q4.grown hg10 (fun h => n2_4.symm (Option.some.inj h))
        skip
        replace hbw := below_store hbw hg10 bhbw_2
        replace q2 := hq10
        clear hg10 hq10
        refine EL.val (x_assign rfl) rfl ?_
        refine EL.nil ?_
        refine EX.seq ?_
        refine EC.ret ?_
        refine EX.seq_ret ?_
        exact EX.done (resct rfl rfl rfl (lv_54 (q2.at (j := 0) rfl) (q2.at (j := 1) rfl))) ⟨by simp [btwErr, btwS, bd0, hst, hin, hfit], hbw⟩
      ·
        have e1 : (1 : Int) + ((m1 : Nat) : Int) = ((1 + m1 : Nat) : Int) := by omega
        have e2 : (1 : Int) + ((m2 : Nat) : Int) = ((1 + m2 : Nat) : Int) := by omega
        have hno : c.events.toNat < nOf c := by unfold nOf; omega
        refine EL.call (cl_54 rfl) rfl (fits_web _ hweb hc hcr hfit) ?_
        rintro e w11 ⟨rfl, hc11⟩
        refine ⟨_, rfl, ?_⟩
        replace q1 := q1.below hc11 q1.lt
        replace q2 := q2.below hc11 q2.lt
        replace q4 := q4.below hc11 q4.lt
        replace hweb := hweb.below hc11
        replace hbw := Below.on hbw hc11 hbw.size
        clear hc11
        refine EL.val (x_not rfl) rfl ?_
        refine EL.nil ?_
        refine EX.seq ?_
        refine EC.no rfl ?_
        refine EC.skip ?_
        refine EX.seq ?_
        refine EC.seq ?_
        refine EC.region ?_
        refine EL.val (x_move rfl) rfl ?_
        refine EL.val (x_move rfl) rfl ?_
        refine EL.val (x_move rfl) rfl ?_
        refine EL.call (cl_56 rfl rfl) rfl (event_any _ ((m1 : Nat) : Int) _ (by omega)) ?_
        rintro e w12 ⟨rfl, hc12⟩
        refine ⟨_, rfl, ?_⟩
        replace q1 := q1.below hc12 q1.lt
        replace q2 := q2.below hc12 q2.lt
        replace q4 := q4.below hc12 q4.lt
        replace hweb := hweb.below hc12
        replace hbw := Below.on hbw hc12 hbw.size
        clear hc12
        refine EL.val (x_move rfl) rfl ?_
        refine EL.val (x_move rfl) rfl ?_
        refine EL.call (cl_56 rfl rfl) rfl (event_any _ ((m2 : Nat) : Int) _ (by omega)) ?_
        rintro e w13 ⟨rfl, hc13⟩
        refine ⟨_, rfl, ?_⟩
        replace q1 := q1.below hc13 q1.lt
        replace q2 := q2.below hc13 q2.lt
        replace q4 := q4.below hc13 q4.lt
        replace hweb := hweb.below hc13
        replace hbw := Below.on hbw hc13 hbw.size
        clear hc13
        rw [e1, e2]
        refine EL.call (cl_55 rfl rfl rfl) rfl (apart_web (1 + m1) (1 + m2) _ hweb hc hcr (by omega) (by omega)) ?_
        rintro e w14 ⟨rfl, hc14⟩
        refine ⟨_, rfl, ?_⟩
        replace q1 := q1.below hc14 q1.lt
        replace q2 := q2.below hc14 q2.lt
        replace q4 := q4.below hc14 q4.lt
        replace hweb := hweb.below hc14
        replace hbw := Below.on hbw hc14 hbw.size
        clear hc14
        refine EL.store rfl rfl q2 sz_54 rfl rfl rfl rfl ?_
        intro w15 hq15 hg15
        replace q1 := q1.grown hg15 (fun h => n1_2 (Option.some.inj h))
        replace q4 := q4.grown hg15 (fun h => n2_4.symm (Option.some.inj h))
        skip
        replace hbw := below_store hbw hg15 bhbw_2
        replace q2 := hq15
        clear hg15 hq15
        refine EL.val (x_assign rfl) rfl ?_
        refine EL.nil ?_
        refine EX.seq ?_
        refine EC.ret ?_
        exact EX.done (resct rfl rfl rfl (lv_54 (q2.at (j := 0) rfl) (q2.at (j := 1) rfl))) ⟨by simp [btwErr, btwS, bd0, hst, hin, hfit], hbw⟩
  ·
    refine EL.val (x_neq (r := true) rfl rfl (decide_eq_true hst)) rfl ?_
    refine EL.nil ?_
    refine EX.seq ?_
    refine EC.yes rfl ?_
    refine EC.seq ?_
    refine EC.region ?_
    refine EL.val (ld_54 rfl (q2.at (j := 0) rfl) (q2.at (j := 1) rfl)) rfl ?_
    refine EL.val (x_move rfl) rfl ?_
    refine EL.store rfl rfl q2 sz_54 rfl rfl rfl rfl ?_
    intro w16 hq16 hg16
    replace q1 := q1.grown hg16 (fun h => n1_2 (Option.some.inj h))
    replace hbw := below_store hbw hg16 bhbw_2
    replace q2 := hq16
    clear hg16 hq16
    refine EL.val (x_assign rfl) rfl ?_
    refine EL.nil ?_
    refine EX.seq ?_
    refine EC.ret ?_
    refine EX.seq_ret ?_
    exact EX.done (resct rfl rfl rfl (lv_54 (q2.at (j := 0) rfl) (q2.at (j := 1) rfl))) ⟨by simp [btwErr, btwS, bd0, hst], hbw⟩
end Go.Proofs.Ytmaiiigijjfjfaa
set_option linter.unusedVariables false
set_option linter.unusedSimpArgs false
namespace Go.Proofs.Ytmaiiigijjfjfaa
open Go Go.RowKit
/-- a course, in which a number below 0 leaves a clue out -/
def inCourseN (c : Case) (l : List Int) : Prop := l.length ≤ c.clues.length ∧ ∀ i, i < l.length → l.getD i 0 < ((c.clues.getD i []).length : Nat)
theorem inCourse.neg {c : Case} {l : List Int} (h : inCourse c l) : inCourseN c l := ⟨h.1, fun i hi => (h.2 i hi).2⟩
end Go.Proofs.Ytmaiiigijjfjfaa
set_option linter.unusedVariables false
set_option linter.unusedSimpArgs false
namespace Go.Proofs.Ytmaiiigijjfjfaa
open Go Go.RowKit
abbrev Mat := Nat → Nat → Int
def rowM (n : Nat) (g : Nat → Int) : List Int := (List.range n).map g
def updV (g : Nat → Int) (k : Nat) (v : Int) : Nat → Int := fun j => if j = k then v else g j
def updM (f : Mat) (i k : Nat) (v : Int) : Mat := fun a b => if a = i ∧ b = k then v else f a b
theorem rowM_set {n : Nat} {g : Nat → Int} {k : Nat} {v : Int} (hk : k < n) : (rowM n g).set k v = rowM n (updV g k v) := by
  apply List.ext_getElem?
  intro j
  simp only [rowM, List.getElem?_set, List.length_map, List.length_range, List.getElem?_map, List.getElem?_range]
  by_cases h : k = j
  · subst h; simp [hk, updV]
  · by_cases hj : j < n
    · simp [h, hj, updV, Ne.symm h]
    · simp [h, hj]
theorem rowM_ext {n : Nat} {g h : Nat → Int} (e : ∀ k, k < n → g k = h k) : rowM n g = rowM n h := by
  unfold rowM
  exact List.map_congr_left fun k hk => e k (List.mem_range.1 hk)
/-- rows that are apart from each other -/
def PW (fs : List Value) : Prop := ∀ i j, i < j → j < fs.length → Apart (fs.getD i undef) (fs.getD j undef)
theorem PW.ne {fs : List Value} (h : PW fs) {i j : Nat} (hi : i < fs.length) (hj : j < fs.length) (hij : i ≠ j) : Apart (fs.getD i undef) (fs.getD j undef) := by
  rcases Nat.lt_or_ge i j with h1 | h1
  · exact h i j h1 hj
  · exact (h j i (by omega) hi).symm
/-- a matrix of one's own, of m rows so far -/
structure OwnMat (w : World) (base : Nat) (v : Value) (n m : Nat) (f : Mat) (fs : List Value) : Prop where
  own : w.ownsRow base 26 1 v m fs
  len : fs.length = m
  each : ∀ i, i < m → w.ownsRow base 3 1 (fs.getD i undef) n (ints (rowM n (f i)))
  pw : PW fs
section
variable {w w' : World} {base n m : Nat} {v : Value} {f : Mat} {fs : List Value}
theorem OwnMat.below (h : OwnMat w base v n m f fs) (hb : Below w.heap.size w w') : OwnMat w' base v n m f fs :=
  ⟨own_below h.own hb (Nat.le_refl _), h.len, fun i hi => own_below (h.each i hi) hb (Nat.le_refl _), h.pw⟩
theorem OwnMat.type {g T : Nat} {cs : Array Value} (h : OwnMat w base v n m f fs) (hq : Blk w g T cs) (h1 : Nat.beq T 26 = false) (h2 : Nat.beq T 3 = false) (hg : w.grownBy w' (some g)) : OwnMat w' base v n m f fs :=
  ⟨own_type h.own hq h1 hg, h.len, fun i hi => own_type (h.each i hi) hq h2 hg, h.pw⟩
theorem OwnMat.congr (h : OwnMat w base v n m f fs) {f' : Mat} (e : ∀ i k, i < m → k < n → f i k = f' i k) : OwnMat w base v n m f' fs :=
  ⟨h.own, h.len, fun i hi => by rw [← rowM_ext (e i · hi)]; exact h.each i hi, h.pw⟩
/-- a row is put behind -/
theorem OwnMat.push {v' u : Value} (h : OwnMat w base v n m f fs) (hu : w.ownsRow base 3 1 u n (ints (rowM n (f m)))) (hap : ∀ i, i < m → Apart (fs.getD i undef) u) (hown : w'.ownsRow base 26 1 v' (m + 1) (fs ++ [u])) (hg : w.grownBy w' v.ownBlock) : OwnMat w' base v' n (m + 1) f (fs ++ [u]) := by
  have hk : ∀ {x : Value} {ys : List Value} {k : Nat}, w.ownsRow base 3 1 x k ys → w'.ownsRow base 3 1 x k ys := fun hx => own_grown hx h.own rfl hg
  have hl := h.len
  refine ⟨hown, by simp [hl], fun i hi => ?_, fun i j hij hj => ?_⟩
  · by_cases e : i < m
    · rw [show (fs ++ [u]).getD i undef = fs.getD i undef by simp [List.getD_eq_getElem?_getD, List.getElem?_append, hl, e]]
      exact hk (h.each i e)
    · obtain rfl : i = m := by omega
      rw [show (fs ++ [u]).getD i undef = u by simp [List.getD_eq_getElem?_getD, List.getElem?_append, hl]]
      exact hk hu
  · have hj' : j < m + 1 := by simpa [hl] using hj
    rw [show (fs ++ [u]).getD i undef = fs.getD i undef by simp [List.getD_eq_getElem?_getD, List.getElem?_append, hl, show i < m by omega]]
    by_cases e : j < m
    · rw [show (fs ++ [u]).getD j undef = fs.getD j undef by simp [List.getD_eq_getElem?_getD, List.getElem?_append, hl, e]]
      exact h.pw i j hij (by omega)
    · obtain rfl : j = m := by omega
      rw [show (fs ++ [u]).getD j undef = u by simp [List.getD_eq_getElem?_getD, List.getElem?_append, hl]]
      exact hap i (by omega)
/-- one entry is set -/
theorem OwnMat.set {g c i k : Nat} {x : Int} (h : OwnMat w base v n m f fs) (hi : i < m) (hk : k < n) (hv : fs.getD i undef = .slice (some ⟨g, 0, none⟩) n c) (hown : w'.ownsRow base 3 1 (.slice (some ⟨g, 0, none⟩) n c) n (ints ((rowM n (f i)).set k x))) (hg : w.grownBy w' (some g)) {cs : Array Value} (hq : Blk w g 3 cs) : OwnMat w' base v n m (updM f i k x) fs := by
  have hl := h.len
  refine ⟨own_type h.own hq rfl hg, h.len, fun j hj => ?_, h.pw⟩
  by_cases e : j = i
  · subst e
    rw [hv]
    have e2 : rowM n (updM f j k x j) = (rowM n (f j)).set k x := by
      rw [rowM_set hk]
      exact rowM_ext fun b hb => by simp [updM, updV]
    rw [e2]
    exact hown
  · have e2 : rowM n (updM f i k x j) = rowM n (f j) := rowM_ext fun b hb => by simp [updM, e]
    rw [e2]
    have hgv : w.grownBy w' (fs.getD i undef).ownBlock := by rw [hv]; exact hg
    exact own_apart (h.each j hj) hgv (h.pw.ne (by omega) (by omega) (Ne.symm e))
end
/-! ### What Most computes -/
def farR : Int := 1000000000
def mat0 : Mat := fun i k => if i = k then 0 else farR
def linkM (f : Mat) (x : Lnk) : Mat := updM f x.fr x.to (min (f x.fr x.to) x.most)
def linksM (ls : List Lnk) : Nat → Mat
  | 0 => mat0
  | k + 1 => linkM (linksM ls k) (ls.getD k lnk0)
/-- by way of one more variable -/
def stepM (f : Mat) (b : Nat) : Mat := fun i k => min (f i k) (f i b + f b k)
def fwM (ls : List Lnk) : Nat → Mat
  | 0 => linksM ls ls.length
  | b + 1 => stepM (fwM ls b) b
theorem stepM_row {f : Mat} {b : Nat} (h : f b b = 0) (k : Nat) : stepM f b b k = f b k := by unfold stepM; rw [h]; omega
theorem stepM_col {f : Mat} {b : Nat} (h : f b b = 0) (i : Nat) : stepM f b i b = f i b := by unfold stepM; rw [h]; omega
/-- no variable is above itself, up to here -/
def posM (f : Mat) (n : Nat) : Prop := ∀ i, i < n → 0 ≤ f i i
instance (f : Mat) (n : Nat) : Decidable (posM f n) := by unfold posM; exact inferInstance
def okM (ls : List Lnk) (n : Nat) : Bool := decide (∀ b, b < n + 1 → posM (fwM ls b) n)
theorem linksM_diag {ls : List Lnk} (h : ∀ k, k < ls.length → (ls.getD k lnk0).fr ≠ (ls.getD k lnk0).to) : ∀ {k : Nat}, k ≤ ls.length → ∀ i, linksM ls k i i = 0
  | 0, _, i => by simp [linksM, mat0]
  | k + 1, hk, i => by
    have := h k (by omega)
    rw [linksM, linkM, updM, if_neg (by omega)]
    exact linksM_diag h (by omega) i
theorem fwM_diag_le {ls : List Lnk} (h : ∀ k, k < ls.length → (ls.getD k lnk0).fr ≠ (ls.getD k lnk0).to) : ∀ (b i : Nat), fwM ls b i i ≤ 0
  | 0, i => by rw [fwM, linksM_diag h (Nat.le_refl _)]; exact Int.le_refl _
  | b + 1, i => by
    have := fwM_diag_le h b i
    rw [fwM, stepM]
    omega
end Go.Proofs.Ytmaiiigijjfjfaa
set_option linter.unusedVariables false
set_option linter.unusedSimpArgs false
namespace Go.Proofs.Ytmaiiigijjfjfaa
open Go Go.RowKit
section
variable {n : Nat} {σ : Sg} {w : World} {dst : Option Tmp} {ty : TypeId} {pos : String} {af : Array Edge} {g : Option (Nat × Bool)} {x y z : Operand} {at' : Array TypeId}
theorem bs_26_0 (a : Act) (_ : Env n σ a) : (execOp a.eval ⟨dst, .buildSlice 26 0 #[], ty, pos, af, g⟩).run Try.prog w = .ok (.value (.slice (some ⟨w.heap.size, 0, none⟩) 0 0)) (w.alloc (.cells #[] 3)) := by
  simp only [execOp]
  go_simp
theorem bs_41_1 {x0 : Operand} {A0 : Option Addr} {m0 c0 : Nat} (h0 : evS σ x0 = some (.slice A0 m0 c0)) (a : Act) (ha : Env n σ a) : (execOp a.eval ⟨dst, .buildSlice 41 1 #[(0, x0)], ty, pos, af, g⟩).run Try.prog w = .ok (.value (.slice (some ⟨w.heap.size, 0, none⟩) 1 1)) (w.alloc (.cells #[.slice A0 m0 c0] 26)) := by
  simp only [execOp, List.map_toArray, List.map_cons, List.map_nil, ha.eval h0]
  go_simp
theorem ix_41 {b o m c k : Nat} (hx : evS σ x = some (.slice (some ⟨b, o, none⟩) m c)) (hy : evS σ y = some (.int .i64 (k : Int))) (hk : k < m) : Gives Try.prog n σ w ⟨dst, .indexAddr 41 x y, ty, pos, af, g⟩ (.pointer (some ⟨b, o + k, none⟩)) := fun a ha => by
  have k0 : (0 : Int) ≤ (k : Int) := Int.natCast_nonneg _
  have k1 : (k : Int) < (m : Int) := by omega
  simp only [execOp, ha.eval hx, ha.eval hy]
  simp [go_sem, k0, k1]
theorem ld_26 {b o : Nat} {v0 : Value} (hx : evS σ x = some (.pointer (some ⟨b, o, none⟩))) (c0 : w.cell? ⟨b, o, none⟩ = some v0) : Gives Try.prog n σ w ⟨dst, .load 26 x, ty, pos, af, g⟩ (v0) := fun a ha => by
  simp only [execOp, ha.eval hx]
  simp [go_sem, c0]
end
end Go.Proofs.Ytmaiiigijjfjfaa
set_option linter.unusedVariables false
set_option linter.unusedSimpArgs false
namespace Go.Proofs.Ytmaiiigijjfjfaa
open Go Go.RowKit
theorem row_info : (Try.prog.info? 26).map (fun i => (i.zero, i.size, i.bytes)) = some (some (.slice none 0 0), 1, 24) := by kernel_rfl
theorem row_elem : Elem Try.prog 41 26 1 24 := Elem.mk' Try.underlying41 row_info rfl (by omega)
theorem links_allN {c : Case} (hc : caseB c = true) {l : List Int} (hl : inCourseN c l) : ∀ x ∈ linksOf c l, (x.fr < nOf c ∧ x.to < nOf c ∧ -2000000 ≤ x.most ∧ x.most ≤ 2000000) ∧ x.fr ≠ x.to := by
  obtain ⟨hev, _, _, hck, hcu⟩ := caseB_ok hc
  intro x hx
  unfold linksOf at hx
  rw [List.mem_append, List.mem_append] at hx
  rcases hx with (hx | hx) | hx
  · refine flat_range (P := fun x => (x.fr < nOf c ∧ x.to < nOf c ∧ -2000000 ≤ x.most ∧ x.most ≤ 2000000) ∧ x.fr ≠ x.to) (g := evL) (fun i hi x hx => ?_) x hx
    simp only [evL, List.mem_cons, List.not_mem_nil, or_false] at hx
    rcases hx with rfl | rfl <;> simp only [nOf] <;> omega
  · refine flat_range (P := fun x => (x.fr < nOf c ∧ x.to < nOf c ∧ -2000000 ≤ x.most ∧ x.most ≤ 2000000) ∧ x.fr ≠ x.to) (g := clL c) (fun i hi x hx => ?_) x hx
    have hb := bdOk_iff.1 (hck i hi)
    simp only [clL, List.mem_cons, List.not_mem_nil, or_false] at hx
    rcases hx with rfl | rfl <;> simp only [nOf] <;> omega
  · refine flat_range (P := fun x => (x.fr < nOf c ∧ x.to < nOf c ∧ -2000000 ≤ x.most ∧ x.most ≤ 2000000) ∧ x.fr ≠ x.to) (g := crsL c l) (fun i hi x hx => ?_) x hx
    by_cases hn : l.getD i 0 < 0
    · rw [crsL, if_pos hn] at hx; cases hx
    · have h1 := hl.1
      have h2 := hl.2 i hi
      have ho : OptOk c (optAt c i (l.getD i 0)) := optB_ok ((hcu i (by omega)).2 _ (by omega))
      rw [crsL, if_neg hn] at hx
      have h1 := ho.event
      have h2 := ho.mins
      have h3 := ho.kind
      have hf : optFrom c (optAt c i (l.getD i 0)) < nOf c ∧ optFrom c (optAt c i (l.getD i 0)) ≠ 1 + (optAt c i (l.getD i 0)).event.toNat := by unfold optFrom nOf; split <;> omega
      have ht : 1 + (optAt c i (l.getD i 0)).event.toNat < nOf c := by unfold nOf; omega
      simp only [optL, List.mem_cons, List.not_mem_nil, or_false] at hx
      rcases hx with rfl | rfl
      · exact ⟨⟨hf.1, ht, by simp only; omega, by simp only; omega⟩, hf.2⟩
      · exact ⟨⟨ht, hf.1, by simp only; omega, by simp only; omega⟩, hf.2.symm⟩
theorem links_okN {c : Case} (hc : caseB c = true) {l : List Int} (hl : inCourseN c l) {ls : List Lnk} (e : ls = linksOf c l) : LnksOk (nOf c) ls ∧ ∀ k, k < ls.length → (ls.getD k lnk0).fr ≠ (ls.getD k lnk0).to := by
  subst e
  refine ⟨fun k hk => ?_, fun k hk => ?_⟩ <;> rw [show (linksOf c l).getD k lnk0 = (linksOf c l)[k] by simp [hk]]
  · exact (links_allN hc hl _ (List.getElem_mem hk)).1
  · exact (links_allN hc hl _ (List.getElem_mem hk)).2
end Go.Proofs.Ytmaiiigijjfjfaa
set_option linter.unusedVariables false
set_option linter.unusedSimpArgs false
namespace Go.Proofs.Ytmaiiigijjfjfaa
open Go Go.RowKit
section
variable {n : Nat} {σ : Sg} {w : World} {dst : Option Tmp} {ty : TypeId} {pos : String} {af : Array Edge} {g : Option (Nat × Bool)} {x y z : Operand} {at' : Array TypeId}
theorem bs_22_0 (a : Act) (_ : Env n σ a) : (execOp a.eval ⟨dst, .buildSlice 22 0 #[], ty, pos, af, g⟩).run Try.prog w = .ok (.value (.slice (some ⟨w.heap.size, 0, none⟩) 0 0)) (w.alloc (.cells #[] 54)) := by
  simp only [execOp]
  go_simp
end
end Go.Proofs.Ytmaiiigijjfjfaa
set_option linter.unusedVariables false
set_option linter.unusedSimpArgs false
namespace Go.Proofs.Ytmaiiigijjfjfaa
open Go Go.RowKit
/-- by how much a variable can be greater than another one -/
def dist (c : Case) (l : List Int) : Mat := fwM (linksOf c l) (nOf c)
def okC (c : Case) (l : List Int) : Bool := okM (linksOf c l) (nOf c)
end Go.Proofs.Ytmaiiigijjfjfaa
set_option linter.unusedVariables false
set_option linter.unusedSimpArgs false
namespace Go.Proofs.Ytmaiiigijjfjfaa
open Go
/-- numbers for all variables that all links allow -/
def Feas (ls : List Lnk) (π : Nat → Int) : Prop := ∀ k, k < ls.length → π (ls.getD k lnk0).to ≤ π (ls.getD k lnk0).fr + (ls.getD k lnk0).most
/-- the links that all webs have -/
structure Hub (n : Nat) (ls : List Lnk) : Prop where
  ok : LnksOk n ls
  ne : ∀ k, k < ls.length → (ls.getD k lnk0).fr ≠ (ls.getD k lnk0).to
  up : ∀ v, 0 < v → v < n → ∃ k, k < ls.length ∧ (ls.getD k lnk0).fr = 0 ∧ (ls.getD k lnk0).to = v ∧ (ls.getD k lnk0).most ≤ 1000000
  down : ∀ v, 0 < v → v < n → ∃ k, k < ls.length ∧ (ls.getD k lnk0).fr = v ∧ (ls.getD k lnk0).to = 0 ∧ (ls.getD k lnk0).most ≤ 100000
section
variable {ls : List Lnk} {n : Nat}
theorem linkM_le (f : Mat) (x : Lnk) (a b : Nat) : linkM f x a b ≤ f a b := by
  unfold linkM updM
  split
  · rename_i h; obtain ⟨rfl, rfl⟩ := h; omega
  · exact Int.le_refl _
theorem linksM_mono : ∀ (k j : Nat) (a b : Nat), linksM ls (k + j) a b ≤ linksM ls k a b
  | k, 0, a, b => Int.le_refl _
  | k, j + 1, a, b => Int.le_trans (linkM_le _ _ a b) (linksM_mono k j a b)
theorem links_le {k : Nat} (hk : k < ls.length) : fwM ls 0 (ls.getD k lnk0).fr (ls.getD k lnk0).to ≤ (ls.getD k lnk0).most := by
  have h1 := linksM_mono (ls := ls) (k + 1) (ls.length - (k + 1)) (ls.getD k lnk0).fr (ls.getD k lnk0).to
  rw [show k + 1 + (ls.length - (k + 1)) = ls.length by omega] at h1
  have h2 : linksM ls (k + 1) (ls.getD k lnk0).fr (ls.getD k lnk0).to ≤ (ls.getD k lnk0).most := by
    rw [linksM, linkM, updM, if_pos ⟨rfl, rfl⟩]
    omega
  rw [fwM]
  omega
theorem fw_mono (b : Nat) (i k : Nat) : fwM ls (b + 1) i k ≤ fwM ls b i k := by rw [fwM, stepM]; omega
theorem fw_le0 : ∀ (b i k : Nat), fwM ls b i k ≤ fwM ls 0 i k
  | 0, _, _ => Int.le_refl _
  | b + 1, i, k => Int.le_trans (fw_mono b i k) (fw_le0 b i k)
theorem fw_diag (hub : Hub n ls) {b i : Nat} (hi : i < n) (hp : posM (fwM ls b) n) : fwM ls b i i = 0 := Int.le_antisymm (fwM_diag_le hub.ne b i) (hp i hi)
/-- by way of a variable that was taken -/
theorem fw_tri (hub : Hub n ls) : ∀ {b : Nat}, b ≤ n → (∀ j, j < b + 1 → posM (fwM ls j) n) → ∀ j, j < b → ∀ i k, i < n → k < n → fwM ls b i k ≤ fwM ls b i j + fwM ls b j k
  | 0, _, _, j, hj, _, _, _, _ => absurd hj (by omega)
  | b + 1, hb, hp, j, hj, i, k, hi, hk => by
    have hbb := fw_diag hub (b := b) (i := b) (by omega) (hp b (by omega))
    have T := fw_tri hub (b := b) (by omega) (fun j hj => hp j (by omega))
    rw [fwM]
    by_cases e : j = b
    · subst e
      rw [stepM_col hbb, stepM_row hbb]
      unfold stepM
      omega
    · have t1 := T j (by omega) i k hi hk
      have t2 := T j (by omega) i b hi (by omega)
      have t3 := T j (by omega) b k (by omega) hk
      have t4 := T j (by omega) b b (by omega) (by omega)
      unfold stepM
      omega
/-- nothing feasible is further apart -/
theorem feas_far (hub : Hub n ls) {π : Nat → Int} (hf : Feas ls π) {u v : Nat} (hu : u < n) (hv : v < n) : π v - π u ≤ 1100000 := by
  have h : ∀ w, w < n → π w ≤ π 0 + 1000000 ∧ π 0 ≤ π w + 100000 := fun w hw => by
    by_cases e : w = 0
    · subst e; omega
    · obtain ⟨k, hk, e1, e2, e3⟩ := hub.up w (by omega) hw
      obtain ⟨j, hj, f1, f2, f3⟩ := hub.down w (by omega) hw
      have a := hf k hk
      have b := hf j hj
      rw [e1, e2] at a
      rw [f1, f2] at b
      omega
  have a := h u hu
  have b := h v hv
  omega
theorem feas_links (hub : Hub n ls) {π : Nat → Int} (hf : Feas ls π) : ∀ {k : Nat}, k ≤ ls.length → ∀ u v, u < n → v < n → π v - π u ≤ linksM ls k u v
  | 0, _, u, v, hu, hv => by
    have := feas_far hub hf hu hv
    unfold linksM mat0 farR
    split
    · rename_i h; subst h; omega
    · omega
  | k + 1, hk, u, v, hu, hv => by
    have h1 := feas_links hub hf (k := k) (by omega) u v hu hv
    have h2 := hf k (by omega)
    rw [linksM, linkM, updM]
    split
    · rename_i h
      obtain ⟨rfl, rfl⟩ := h
      omega
    · exact h1
theorem feas_fw (hub : Hub n ls) {π : Nat → Int} (hf : Feas ls π) : ∀ {b : Nat}, b ≤ n → ∀ u v, u < n → v < n → π v - π u ≤ fwM ls b u v
  | 0, _, u, v, hu, hv => feas_links hub hf (Nat.le_refl _) u v hu hv
  | b + 1, hb, u, v, hu, hv => by
    have h1 := feas_fw hub hf (b := b) (by omega) u v hu hv
    have h2 := feas_fw hub hf (b := b) (by omega) u b hu (by omega)
    have h3 := feas_fw hub hf (b := b) (by omega) b v (by omega) hv
    rw [fwM, stepM]
    omega
theorem okM_iff : okM ls n = true ↔ ∀ b, b < n + 1 → posM (fwM ls b) n := by unfold okM; rw [decide_eq_true_iff]
/-- where something is feasible, no variable is above itself -/
theorem ok_of_feas (hub : Hub n ls) {π : Nat → Int} (hf : Feas ls π) : okM ls n = true := okM_iff.2 fun b hb i hi => by
  have := feas_fw hub hf (b := b) (by omega) i i hi hi
  omega
/-- the distances from a variable are feasible -/
theorem feas_dist (hub : Hub n ls) (hok : okM ls n = true) {u : Nat} (hu : u < n) : Feas ls (fwM ls n u) := fun k hk => by
  have hl := hub.ok k hk
  have t := fw_tri hub (Nat.le_refl n) (okM_iff.1 hok) (ls.getD k lnk0).fr hl.1 u (ls.getD k lnk0).to hu hl.2.1
  have a := links_le hk
  have m := fw_le0 (ls := ls) n (ls.getD k lnk0).fr (ls.getD k lnk0).to
  omega
end
end Go.Proofs.Ytmaiiigijjfjfaa
set_option linter.unusedVariables false
set_option linter.unusedSimpArgs false
namespace Go.Proofs.Ytmaiiigijjfjfaa
open Go
theorem countP_range {p q : Nat → Bool} : ∀ {n : Nat}, (∀ v, v < n → p v = true → q v = true) → (List.range n).countP p ≤ (List.range n).countP q
  | 0, _ => Nat.le_refl _
  | n + 1, h => by
    have ih := countP_range (n := n) fun v hv => h v (by omega)
    have h1 := h n (by omega)
    rw [List.range_succ, List.countP_append, List.countP_append, List.countP_singleton, List.countP_singleton]
    cases e : p n with
    | false => simp only [Bool.false_eq_true, if_false]; omega
    | true => rw [h1 e]; simp only [if_true]; omega
theorem countP_lt {p q : Nat → Bool} : ∀ {n : Nat}, (∀ v, v < n → p v = true → q v = true) → (∃ v, v < n ∧ p v = false ∧ q v = true) → (List.range n).countP p < (List.range n).countP q
  | 0, _, ⟨v, hv, _⟩ => absurd hv (by omega)
  | n + 1, h, ⟨v, hv, h1, h2⟩ => by
    rw [List.range_succ, List.countP_append, List.countP_append, List.countP_singleton, List.countP_singleton]
    by_cases e : v = n
    · subst e
      have ih := countP_range (n := v) fun u hu => h u (by omega)
      rw [h1, h2]
      simp only [Bool.false_eq_true, if_false, if_true]
      omega
    · have ih := countP_lt (n := n) (fun u hu => h u (by omega)) ⟨v, by omega, h1, h2⟩
      have h3 := h n (by omega)
      cases e2 : p n with
      | false => simp only [Bool.false_eq_true, if_false]; omega
      | true => rw [h3 e2]; simp only [if_true]; omega
theorem countP_all {p : Nat → Bool} (n : Nat) : (List.range n).countP p ≤ n := by
  have := List.countP_le_length (p := p) (l := List.range n)
  simpa using this
section
variable {ls : List Lnk} {n : Nat} {d I : Nat → Int}
/-- d is the greatest of the numbers that the links and I allow -/
structure Top (ls : List Lnk) (n : Nat) (d I : Nat → Int) : Prop where
  ok : LnksOk n ls
  pos : 0 < n
  feas : Feas ls d
  le : ∀ v, v < n → d v ≤ I v
  top : ∀ π, Feas ls π → (∀ v, v < n → π v ≤ I v) → ∀ v, v < n → π v ≤ d v
  far : ∀ v, v < n → d v < farI
/-- between both -/
structure Mid (n : Nat) (d I : Nat → Int) (s : St) : Prop where
  len : s.most.length = n
  ge : ∀ v, v < n → d v ≤ s.most.getD v 0
  le : ∀ v, v < n → s.most.getD v 0 ≤ I v
theorem rlx_down {s : St} {i : Nat} {x : Lnk} (v : Nat) (hl : x.to < s.most.length) : (rlx s i x).most.getD v 0 ≤ s.most.getD v 0 := by
  unfold rlx
  split
  · rename_i h
    simp only
    rw [getD_setR hl]
    split
    · rename_i e; subst e; omega
    · exact Int.le_refl _
  · exact Int.le_refl _
theorem rlx_mid {s : St} (hs : Mid n d I s) {i : Nat} {x : Lnk} (h1 : x.fr < n) (h2 : x.to < n) (h3 : d x.to ≤ d x.fr + x.most) : Mid n d I (rlx s i x) := by
  have hl := hs.len
  refine ⟨?_, fun v hv => ?_, fun v hv => Int.le_trans (rlx_down v (by omega)) (hs.le v hv)⟩
  · unfold rlx; split <;> simp [hl]
  · have hg := hs.ge v hv
    unfold rlx
    split
    · have hf := hs.ge x.fr h1
      simp only
      rw [getD_setR (by omega)]
      split
      · rename_i e; subst e; omega
      · exact hg
    · exact hg
theorem relaxN_mid (ht : Top ls n d I) {s : St} (hs : Mid n d I s) : ∀ {k : Nat}, k ≤ ls.length → Mid n d I (relaxN ls s k)
  | 0, _ => hs
  | k + 1, hk => by
    have h := ht.ok k (by omega)
    exact rlx_mid (relaxN_mid ht hs (k := k) (by omega)) h.1 h.2.1 (ht.feas k (by omega))
theorem relaxN_down (ht : Top ls n d I) {s : St} (hs : Mid n d I s) (v : Nat) : ∀ {k : Nat}, k ≤ ls.length → (relaxN ls s k).most.getD v 0 ≤ s.most.getD v 0
  | 0, _ => Int.le_refl _
  | k + 1, hk => by
    have h := ht.ok k (by omega)
    have hm := relaxN_mid ht hs (k := k) (by omega)
    exact Int.le_trans (rlx_down v (by rw [hm.len]; exact h.2.1)) (relaxN_down ht hs v (k := k) (by omega))
/-- what is done stays done -/
theorem relaxN_done (ht : Top ls n d I) {s : St} (hs : Mid n d I s) {v : Nat} (hv : v < n) (h : s.most.getD v 0 = d v) {k : Nat} (hk : k ≤ ls.length) : (relaxN ls s k).most.getD v 0 = d v := by
  have h1 := (relaxN_mid ht hs hk).ge v hv
  have h2 := relaxN_down ht hs v hk
  omega
theorem relaxN_tight (ht : Top ls n d I) {s : St} (hs : Mid n d I s) {j : Nat} (hj : j < ls.length) (hf : s.most.getD (ls.getD j lnk0).fr 0 = d (ls.getD j lnk0).fr) (he : d (ls.getD j lnk0).to = d (ls.getD j lnk0).fr + (ls.getD j lnk0).most) : ∀ {m : Nat}, j + 1 + m ≤ ls.length → (relaxN ls s (j + 1 + m)).most.getD (ls.getD j lnk0).to 0 = d (ls.getD j lnk0).to
  | 0, hm => by
    have hl := ht.ok j hj
    have hm' := relaxN_mid ht hs (k := j) (by omega)
    have h1 := relaxN_done ht hs hl.1 hf (k := j) (by omega)
    have h2 := hm'.ge _ hl.2.1
    have h3 := ht.far _ hl.1
    have h4 := (relaxN_mid ht hs (k := j + 1) (by omega)).ge _ hl.2.1
    have h5 : (relaxN ls s (j + 1)).most.getD (ls.getD j lnk0).to 0 ≤ d (ls.getD j lnk0).to := by
      rw [relaxN, rlx]
      split
      · simp only
        rw [getD_setR (by rw [hm'.len]; exact hl.2.1), if_pos rfl, h1]
        omega
      · rename_i hn
        rw [h1] at hn
        by_cases h6 : d (ls.getD j lnk0).fr + (ls.getD j lnk0).most < (relaxN ls s j).most.getD (ls.getD j lnk0).to 0
        · exact absurd ⟨h3, h6⟩ hn
        · omega
    show (relaxN ls s (j + 1)).most.getD _ 0 = _
    omega
  | m + 1, hm => by
    have hl := ht.ok j hj
    have h1 := relaxN_tight ht hs hj hf he (m := m) (by omega)
    have h2 := (relaxN_mid ht hs (k := j + 1 + (m + 1)) hm).ge _ hl.2.1
    have h3 := ht.ok (j + 1 + m) (by omega)
    have h4 := rlx_down (s := relaxN ls s (j + 1 + m)) (i := j + 1 + m) (x := ls.getD (j + 1 + m) lnk0) (ls.getD j lnk0).to (by rw [(relaxN_mid ht hs (k := j + 1 + m) (by omega)).len]; exact h3.2.1)
    have h5 : (relaxN ls s (j + 1 + (m + 1))).most.getD (ls.getD j lnk0).to 0 ≤ (relaxN ls s (j + 1 + m)).most.getD (ls.getD j lnk0).to 0 := h4
    omega
/-- where not all is done, a link leads on that allows no more -/
theorem leads_on (ht : Top ls n d I) {s : St} (hs : Mid n d I s) {v : Nat} (hv : v < n) (hn : s.most.getD v 0 ≠ d v) : ∃ j, j < ls.length ∧ s.most.getD (ls.getD j lnk0).fr 0 = d (ls.getD j lnk0).fr ∧ s.most.getD (ls.getD j lnk0).to 0 ≠ d (ls.getD j lnk0).to ∧ d (ls.getD j lnk0).to = d (ls.getD j lnk0).fr + (ls.getD j lnk0).most := by
  apply Classical.byContradiction
  intro hc
  have key := ht.top (fun u => if s.most.getD u 0 = d u then d u else d u + 1) (fun j hj => by
    have hf := ht.feas j hj
    have h1 : ¬(s.most.getD (ls.getD j lnk0).fr 0 = d (ls.getD j lnk0).fr ∧ s.most.getD (ls.getD j lnk0).to 0 ≠ d (ls.getD j lnk0).to ∧ d (ls.getD j lnk0).to = d (ls.getD j lnk0).fr + (ls.getD j lnk0).most) := fun h => hc ⟨j, hj, h⟩
    try simp only
    split
    · split <;> omega
    · split
      · by_cases e : d (ls.getD j lnk0).to = d (ls.getD j lnk0).fr + (ls.getD j lnk0).most
        · exact absurd ⟨by assumption, by assumption, e⟩ h1
        · omega
      · omega) (fun u hu => by
    have h1 := hs.ge u hu
    have h2 := hs.le u hu
    have h3 := ht.le u hu
    try simp only
    split <;> omega) v hv
  try simp only at key
  rw [if_neg hn] at key
  omega
def doneN (n : Nat) (d : Nat → Int) (s : St) : Nat := (List.range n).countP fun v => decide (s.most.getD v 0 = d v)
theorem mid_ring {s : St} (hs : Mid n d I s) (r : Int) : Mid n d I ⟨s.most, s.via, r⟩ := ⟨hs.len, hs.ge, hs.le⟩
theorem round_mid (ht : Top ls n d I) {s : St} (hs : Mid n d I s) : Mid n d I (roundS ls s) := relaxN_mid ht (mid_ring hs _) (Nat.le_refl _)
theorem round_more (ht : Top ls n d I) {s : St} (hs : Mid n d I s) {v : Nat} (hv : v < n) (hn : s.most.getD v 0 ≠ d v) : doneN n d s < doneN n d (roundS ls s) := by
  obtain ⟨j, hj, h1, h2, h3⟩ := leads_on ht hs hv hn
  have hs' := mid_ring hs (-1)
  refine countP_lt (fun u hu h => ?_) ⟨(ls.getD j lnk0).to, (ht.ok j hj).2.1, decide_eq_false h2, decide_eq_true ?_⟩
  · exact decide_eq_true (relaxN_done ht hs' hu (of_decide_eq_true h) (Nat.le_refl _))
  · have := relaxN_tight ht hs' hj h1 h3 (m := ls.length - (j + 1)) (by omega)
    rw [show j + 1 + (ls.length - (j + 1)) = ls.length by omega] at this
    exact this
theorem first_done (ht : Top ls n d I) {s : St} (hs : Mid n d I s) (hI : ∀ v, v < n → s.most.getD v 0 = I v) : 0 < doneN n d s := by
  rcases Nat.eq_zero_or_pos (doneN n d s) with h | h
  · exfalso
    have h0 : ∀ v, v < n → s.most.getD v 0 ≠ d v := fun v hv e => by
      have := List.countP_eq_zero.1 h v (List.mem_range.2 hv)
      simp at this
      exact this (by simpa using e)
    obtain ⟨j, hj, h1, _⟩ := leads_on ht hs ht.pos (h0 0 ht.pos)
    exact h0 _ (ht.ok j hj).1 h1
  · exact h
/-- a round in which all is done changes nothing -/
theorem relaxN_same (ht : Top ls n d I) {s : St} (h : ∀ v, v < n → s.most.getD v 0 = d v) : ∀ {k : Nat}, k ≤ ls.length → relaxN ls s k = s
  | 0, _ => rfl
  | k + 1, hk => by
    have hl := ht.ok k (by omega)
    have hf := ht.feas k (by omega)
    rw [relaxN, relaxN_same ht h (k := k) (by omega), rlx, if_neg]
    rw [h _ hl.1, h _ hl.2.1]
    omega
theorem no_relax {s : St} (hr : s.ring < 0) : ∀ {k : Nat}, (relaxN ls s k).ring < 0 → relaxN ls s k = s ∧ ∀ j, j < k → ¬(s.most.getD (ls.getD j lnk0).fr 0 < farI ∧ s.most.getD (ls.getD j lnk0).fr 0 + (ls.getD j lnk0).most < s.most.getD (ls.getD j lnk0).to 0)
  | 0, _ => ⟨rfl, fun j hj => absurd hj (by omega)⟩
  | k + 1, h => by
    rw [relaxN, rlx] at h
    split at h
    · simp only at h; omega
    · rename_i hc
      obtain ⟨h1, h2⟩ := no_relax hr (k := k) h
      rw [h1] at hc
      refine ⟨by rw [relaxN, h1, rlx, if_neg hc], fun j hj => ?_⟩
      by_cases e : j < k
      · exact h2 j e
      · rw [show j = k by omega]; exact hc
theorem ring_done (ht : Top ls n d I) {s : St} (hs : Mid n d I s) (h : (roundS ls s).ring < 0) : ∀ v, v < n → (roundS ls s).most.getD v 0 = d v := fun v hv => by
  obtain ⟨h1, h2⟩ := no_relax (ls := ls) (s := ⟨s.most, s.via, -1⟩) (by simp) (k := ls.length) h
  have e : (roundS ls s).most = s.most := by unfold roundS; rw [h1]
  rw [e]
  apply Classical.byContradiction
  intro hn
  obtain ⟨j, hj, j1, j2, j3⟩ := leads_on ht hs hv hn
  have hl := ht.ok j hj
  have g := hs.ge _ hl.2.1
  refine h2 j hj ⟨?_, ?_⟩
  · simp only; rw [j1]; exact ht.far _ hl.1
  · simp only; omega
theorem rounds_top (ht : Top ls n d I) {s : St} (hs : Mid n d I s) (hI : ∀ v, v < n → s.most.getD v 0 = I v) : ∀ k : Nat, Mid n d I (rounds ls s k) ∧ ((0 < k ∧ (rounds ls s k).ring < 0 ∧ ∀ v, v < n → (rounds ls s k).most.getD v 0 = d v) ∨ ((0 < k → 0 ≤ (rounds ls s k).ring) ∧ k < doneN n d (rounds ls s k)))
  | 0 => ⟨hs, .inr ⟨fun h => absurd h (by omega), first_done ht hs hI⟩⟩
  | k + 1 => by
    obtain ⟨hm, h⟩ := rounds_top ht hs hI k
    rw [rounds]
    split
    · rename_i hst
      refine ⟨hm, ?_⟩
      rcases h with ⟨h1, h2, h3⟩ | ⟨h, _⟩
      · exact .inl ⟨by omega, h2, h3⟩
      · have := h hst.1; omega
    · refine ⟨round_mid ht hm, ?_⟩
      by_cases hr : (roundS ls (rounds ls s k)).ring < 0
      · exact .inl ⟨by omega, hr, ring_done ht hm hr⟩
      · refine .inr ⟨fun _ => by omega, ?_⟩
        by_cases hall : ∀ v, v < n → (rounds ls s k).most.getD v 0 = d v
        · have e : roundS ls (rounds ls s k) = ⟨(rounds ls s k).most, (rounds ls s k).via, -1⟩ := relaxN_same ht (s := ⟨(rounds ls s k).most, (rounds ls s k).via, -1⟩) hall (Nat.le_refl _)
          rw [e] at hr
          simp at hr
        · obtain ⟨v, hv⟩ := Classical.not_forall.1 hall
          obtain ⟨hv1, hv2⟩ := Classical.not_imp.1 hv
          have := round_more ht hm hv1 hv2
          rcases h with ⟨_, _, h3⟩ | ⟨_, h⟩
          · exact absurd (h3 v hv1) hv2
          · omega
/-- after n rounds all is done -/
theorem rounds_done (ht : Top ls n d I) {s : St} (hs : Mid n d I s) (hI : ∀ v, v < n → s.most.getD v 0 = I v) : (rounds ls s n).ring < 0 ∧ ∀ v, v < n → (rounds ls s n).most.getD v 0 = d v := by
  rcases (rounds_top ht hs hI n).2 with ⟨_, h2, h3⟩ | ⟨_, h⟩
  · exact ⟨h2, h3⟩
  · have := countP_all (p := fun v => decide ((rounds ls s n).most.getD v 0 = d v)) n
    unfold doneN at h
    omega
end
end Go.Proofs.Ytmaiiigijjfjfaa
set_option linter.unusedVariables false
set_option linter.unusedSimpArgs false
namespace Go.Proofs.Ytmaiiigijjfjfaa
open Go
theorem mem_at {ls : List Lnk} {x : Lnk} (h : x ∈ ls) : ∃ k, k < ls.length ∧ ls.getD k lnk0 = x := by
  obtain ⟨k, hk, e⟩ := List.getElem_of_mem h
  exact ⟨k, hk, by simp [hk, e]⟩
theorem hub_of {c : Case} (hc : caseB c = true) {l : List Int} (hl : inCourseN c l) : Hub (nOf c) (linksOf c l) := by
  obtain ⟨h1, h2⟩ := links_okN hc hl rfl
  obtain ⟨hev, h8, h20, hck, _⟩ := caseB_ok hc
  have find : ∀ v, 0 < v → v < nOf c → ∃ a b : Lnk, (a ∈ linksOf c l ∧ b ∈ linksOf c l) ∧ (a.fr = 0 ∧ a.to = v ∧ a.most ≤ 1000000) ∧ b.fr = v ∧ b.to = 0 ∧ b.most ≤ 100000 := fun v hv hn => by
    unfold nOf at hn
    by_cases e : v < 1 + c.events.toNat
    · have m : ∀ x ∈ evL (v - 1), x ∈ linksOf c l := fun x hx => by
        unfold linksOf
        rw [List.mem_append, List.mem_append]
        exact .inl (.inl (List.mem_flatMap.2 ⟨v - 1, List.mem_range.2 (by omega), hx⟩))
      exact ⟨⟨0, 1 + (v - 1), 1000000⟩, ⟨1 + (v - 1), 0, 0⟩, ⟨m _ (by simp [evL]), m _ (by simp [evL])⟩, ⟨rfl, by simp only; omega, by simp only; omega⟩, by simp only; omega, rfl, by simp only; omega⟩
    · obtain ⟨k, rfl⟩ : ∃ k, v = 1 + c.events.toNat + k := ⟨v - (1 + c.events.toNat), by omega⟩
      have hb := bdOk_iff.1 (hck k (by omega))
      have m : ∀ x ∈ clL c k, x ∈ linksOf c l := fun x hx => by
        unfold linksOf
        rw [List.mem_append, List.mem_append]
        exact .inl (.inr (List.mem_flatMap.2 ⟨k, List.mem_range.2 (by omega), hx⟩))
      exact ⟨⟨0, 1 + c.events.toNat + k, -(c.clocks.getD k bd0).lo⟩, ⟨1 + c.events.toNat + k, 0, (c.clocks.getD k bd0).hi⟩, ⟨m _ (by simp [clL]), m _ (by simp [clL])⟩, ⟨rfl, rfl, by simp only; omega⟩, rfl, rfl, by simp only; omega⟩
  refine ⟨h1, h2, fun v hv hn => ?_, fun v hv hn => ?_⟩
  · obtain ⟨a, b, ⟨ha, hb⟩, ⟨e1, e2, e3⟩, _⟩ := find v hv hn
    obtain ⟨k, hk, ek⟩ := mem_at ha
    exact ⟨k, hk, by rw [ek]; exact ⟨e1, e2, e3⟩⟩
  · obtain ⟨a, b, ⟨ha, hb⟩, _, e1, e2, e3⟩ := find v hv hn
    obtain ⟨k, hk, ek⟩ := mem_at hb
    exact ⟨k, hk, by rw [ek]; exact ⟨e1, e2, e3⟩⟩
section
variable {ls : List Lnk} {n : Nat}
theorem init_mid {d : Nat → Int} {fr : Int} (h : ∀ v, v < n → d v ≤ initI fr v) : Mid n d (initI fr) ⟨initM n fr, initB n, 0⟩ ∧ ∀ v, v < n → (⟨initM n fr, initB n, 0⟩ : St).most.getD v 0 = initI fr v := by
  have e : ∀ v, v < n → (initM n fr).getD v 0 = initI fr v := fun v hv => by simp [initM, hv]
  exact ⟨⟨initM_len n fr, fun v hv => by simp only; rw [e v hv]; exact h v hv, fun v hv => by simp only; rw [e v hv]; exact Int.le_refl _⟩, fun v hv => by simp only; exact e v hv⟩
/-- the least of the first rows -/
def minD (f : Mat) : Nat → Nat → Int
  | 0, v => f 0 v
  | m + 1, v => min (minD f m v) (f m v)
theorem minD_le (f : Mat) : ∀ {m u : Nat} (v : Nat), u < m → minD f m v ≤ f u v
  | 0, u, v, h => absurd h (by omega)
  | m + 1, u, v, h => by
    rw [minD]
    by_cases e : u = m
    · subst e; omega
    · have := minD_le f (m := m) (u := u) v (by omega)
      omega
theorem minD_at (f : Mat) (v : Nat) : ∀ {m : Nat}, 0 < m → ∃ u, u < m ∧ minD f m v = f u v
  | 0, h => absurd h (by omega)
  | m + 1, _ => by
    rw [minD]
    by_cases e : f m v ≤ minD f m v
    · exact ⟨m, by omega, by omega⟩
    · rcases Nat.eq_zero_or_pos m with h | h
      · subst h
        exact ⟨0, by omega, by rw [minD]; omega⟩
      · obtain ⟨u, hu, e2⟩ := minD_at f v h
        exact ⟨u, by omega, by omega⟩
theorem top_all (hub : Hub n ls) (hok : okM ls n = true) (hn : 0 < n) : Top ls n (minD (fwM ls n) n) (initI (-1)) := by
  refine ⟨hub.ok, hn, fun k hk => ?_, fun v hv => ?_, fun π hf hI v hv => ?_, fun v hv => ?_⟩
  · obtain ⟨u, hu, e⟩ := minD_at (fwM ls n) (ls.getD k lnk0).fr hn
    have a := feas_dist hub hok hu k hk
    have b := minD_le (fwM ls n) (ls.getD k lnk0).to hu
    omega
  · have hd := fw_diag hub hv (okM_iff.1 hok n (by omega))
    have b := minD_le (fwM ls n) v hv
    unfold initI
    rw [if_pos (.inr (by omega))]
    omega
  · obtain ⟨u, hu, e⟩ := minD_at (fwM ls n) v hn
    have a := feas_fw hub hf (Nat.le_refl n) u v hu hv
    have b := hI u hu
    unfold initI at b
    rw [if_pos (.inr (by omega))] at b
    omega
  · have hd := fw_diag hub hv (okM_iff.1 hok n (by omega))
    have b := minD_le (fwM ls n) v hv
    unfold farI
    omega
theorem rounds_last (s : St) : ∀ k : Nat, 0 < k → ∃ j, rounds ls s k = roundS ls (rounds ls s j)
  | 0, h => absurd h (by omega)
  | k + 1, _ => by
    rw [rounds]
    split
    · rename_i h; exact rounds_last s k h.1
    · exact ⟨k, rfl⟩
theorem low_all (hl : LnksOk n ls) {s : St} (hs : s.most.length = n ∧ ∀ v, v < n → s.most.getD v 0 ≤ 0) : ∀ {k : Nat}, k ≤ ls.length → (relaxN ls s k).most.length = n ∧ ∀ v, v < n → (relaxN ls s k).most.getD v 0 ≤ 0
  | 0, _ => hs
  | k + 1, hk => by
    have ih := low_all hl hs (k := k) (by omega)
    have h := hl k (by omega)
    refine ⟨?_, fun v hv => Int.le_trans (rlx_down v (by rw [ih.1]; exact h.2.1)) (ih.2 v hv)⟩
    rw [relaxN, rlx]
    split <;> simp [ih.1]
theorem low_rounds (hl : LnksOk n ls) {s : St} (hs : s.most.length = n ∧ ∀ v, v < n → s.most.getD v 0 ≤ 0) : ∀ k : Nat, (rounds ls s k).most.length = n ∧ ∀ v, v < n → (rounds ls s k).most.getD v 0 ≤ 0
  | 0 => hs
  | k + 1 => by
    have ih := low_rounds hl hs k
    rw [rounds]
    split
    · exact ih
    · exact low_all hl (s := ⟨(rounds ls s k).most, (rounds ls s k).via, -1⟩) ih (Nat.le_refl _)
end
/-- a course is possible for the program just if it is for the reference -/
theorem fits_okC {c : Case} (hc : caseB c = true) {l : List Int} (hl : inCourseN c l) : fitsS c l = okC c l := by
  have hub := hub_of hc hl
  have hn : 0 < nOf c := by unfold nOf; omega
  cases hok : okC c l with
  | true =>
    have ht := top_all hub hok hn
    obtain ⟨h1, h2⟩ := init_mid (n := nOf c) (fr := -1) (d := minD (fwM (linksOf c l) (nOf c)) (nOf c)) ht.le
    exact decide_eq_true (rounds_done ht h1 h2).1
  | false =>
    refine decide_eq_false fun h => ?_
    unfold rch reachS at h
    obtain ⟨j, e⟩ := rounds_last (ls := linksOf c l) ⟨initM (nOf c) (-1), initB (nOf c), 0⟩ (nOf c) hn
    rw [e] at h
    have hz : ∀ v, v < nOf c → (initM (nOf c) (-1)).getD v 0 ≤ 0 := fun v hv => by
      rw [show (initM (nOf c) (-1)).getD v 0 = initI (-1) v by simp [initM, hv], initI, if_pos (.inr (by omega))]
      exact Int.le_refl _
    have low := low_rounds hub.ok (s := ⟨initM (nOf c) (-1), initB (nOf c), 0⟩) ⟨initM_len _ _, hz⟩ j
    obtain ⟨_, h2⟩ := no_relax (ls := linksOf c l) (s := ⟨(rounds (linksOf c l) ⟨initM (nOf c) (-1), initB (nOf c), 0⟩ j).most, (rounds (linksOf c l) ⟨initM (nOf c) (-1), initB (nOf c), 0⟩ j).via, -1⟩) (by simp) (k := (linksOf c l).length) h
    have hf : Feas (linksOf c l) fun v => (rounds (linksOf c l) ⟨initM (nOf c) (-1), initB (nOf c), 0⟩ j).most.getD v 0 := fun k hk => by
      have a := h2 k hk
      have b := low.2 _ (hub.ok k hk).1
      simp only at a
      unfold farI at a
      have : ¬((rounds (linksOf c l) ⟨initM (nOf c) (-1), initB (nOf c), 0⟩ j).most.getD ((linksOf c l).getD k lnk0).fr 0 + ((linksOf c l).getD k lnk0).most < (rounds (linksOf c l) ⟨initM (nOf c) (-1), initB (nOf c), 0⟩ j).most.getD ((linksOf c l).getD k lnk0).to 0) := fun hlt => a ⟨by omega, hlt⟩
      simp only
      omega
    have := ok_of_feas hub hf
    unfold okC at hok
    rw [this] at hok
    cases hok
end Go.Proofs.Ytmaiiigijjfjfaa
set_option linter.unusedVariables false
set_option linter.unusedSimpArgs false
namespace Go.Proofs.Ytmaiiigijjfjfaa
open Go Go.RowKit
/-- what is known of a case that is not large -/
structure Small (c : Case) : Prop where
  clues : c.clues.length ≤ 25
  clocks : c.clocks.length ≤ 12
  opts : ∀ j, j < c.clues.length → (c.clues.getD j []).length ≤ 5
theorem large_any (c : Case) (vc vl : Value) (vs : List Value) (w : World) (B : Nat) (hr : RdCase w B vc vl c vs) (hB : B ≤ w.heap.size) (hn1 : c.clocks.length ≤ 9223372036854775807) (hn2 : c.clues.length ≤ 9223372036854775807) :
    Calls Try.prog 11 #[.agg #[.int .i64 c.events, vc, vl]] w fun e w' => (∃ b, e = .returned (.bool b) ∧ (b = false → Small c)) ∧ Below w.heap.size w w' := by
  obtain ⟨Ac, cc_, rfl, _⟩ := hr.clocks.shape
  obtain ⟨Al, cl_, rfl, _⟩ := hr.clues.rd.shape
  have hbw := Below.refl w.heap.size w
  refine EC.enter 29 Try.func11 rfl rfl rfl ?_
  refine EC.seq ?_
  refine EC.region ?_
  refine EL.newP (bx_25 rfl) rfl ?_
  intro g1 w1 q1 hb1 hg1 hl1
  have bhbw_1 := Nat.le_trans hbw.size hg1
  replace hbw := Below.on hbw hb1 hbw.size
  clear hb1 hg1 hl1
  refine EL.val (x_assign rfl) rfl ?_
  refine EL.nil ?_
  refine EX.seq ?_
  refine EC.seq ?_
  refine EC.seq ?_
  refine EC.region ?_
  refine EL.val (x_assign rfl) rfl ?_
  refine EL.nil ?_
  refine EX.seq ?_
  refine EC.block ?_
  refine EC.loopD [2, 3, 4, 5, 6, 7, 8, 9, 10, 11, 12, 13, 14, 15, 16, 17, 18] (fun x : Nat => [(3, .int .i64 (x : Nat))]) (fun x W => x ≤ c.clues.length ∧ (∀ j, j < x → (c.clues.getD j []).length ≤ 5) ∧ Blk W g1 25 #[.int .i64 c.events, .slice Ac c.clocks.length cc_, .slice Al c.clues.length cl_] ∧ Below w.heap.size w W) (fun x => c.clues.length - x) 0 ⟨Nat.zero_le _, fun j hj => absurd hj (by omega), q1, hbw⟩ ⟨rfl, trivial⟩ ?_
  clear q1 hbw
  rintro k wk ⟨hk, hall, q1, hbw⟩
  by_cases hlt : k < c.clues.length
  ·
    obtain ⟨bl, ol, e_, _, hcell⟩ := rdll_cell hr.clues k hlt
    subst e_
    obtain ⟨Ao, co, eo, _⟩ := (hr.clues.row k hlt).shape
    rw [eo] at hcell
    refine EC.seq ?_
    refine EC.seq ?_
    refine EC.region ?_
    refine EL.val (x_move rfl) rfl ?_
    refine EL.val (fa_25_2 rfl) rfl ?_
    refine EL.val (ld_23 rfl (q1.at (j := 2) rfl)) rfl ?_
    refine EL.val (ln_23 rfl) rfl ?_
    refine EL.val (x_lss rfl rfl (by first | assumption | exact decide_eq_true (by omega))) rfl ?_
    refine EL.nil ?_
    refine EX.seq ?_
    refine EC.yes rfl ?_
    refine EC.skip ?_
    refine EX.seq ?_
    refine EC.seq ?_
    refine EC.block ?_
    refine EC.seq ?_
    refine EC.region ?_
    refine EL.val (fa_25_2 rfl) rfl ?_
    refine EL.val (ld_23 rfl (q1.at (j := 2) rfl)) rfl ?_
    refine EL.val (x_move rfl) rfl ?_
    refine EL.val (ix_23 rfl rfl hlt) rfl ?_
    refine EL.val (fa_74_0 rfl) rfl ?_
    refine EL.val (ld_72 rfl (below_load hbw hcell)) rfl ?_
    refine EL.val (ln_72 rfl) rfl ?_
    by_cases h5 : 5 < (c.clues.getD k []).length
    ·
      refine EL.val (x_gtr rfl rfl (by first | assumption | exact decide_eq_true (by omega))) rfl ?_
      refine EL.nil ?_
      refine EX.seq ?_
      refine EC.yes rfl ?_
      refine EC.seq ?_
      refine EC.region ?_
      refine EL.val (x_assign rfl) rfl ?_
      refine EL.nil ?_
      refine EX.seq ?_
      refine EC.ret ?_
      refine EX.blk_ret ?_
      refine EX.seq_ret ?_
      refine EX.seq_ret ?_
      refine EX.blk_ret ?_
      refine EX.seq_ret ?_
      exact EX.done (res1 rfl rfl) ⟨⟨_, rfl, fun h => by cases h⟩, hbw⟩
    ·
      refine EL.val (x_gtr rfl rfl (by first | assumption | exact decide_eq_false (by omega))) rfl ?_
      refine EL.nil ?_
      refine EX.seq ?_
      refine EC.no rfl ?_
      refine EC.skip ?_
      refine EX.blk ?_
      refine EX.seq ?_
      refine EC.region ?_
      refine EL.val (x_move rfl) rfl ?_
      refine EL.val (x_add rfl rfl (by first | assumption | exact IntWalk.i64_in _ ⟨by omega, by omega⟩)) rfl ?_
      refine EL.val (x_assign rfl) rfl ?_
      refine EL.nil ?_
      refine EX.roundD (k + 1) ⟨rfl, trivial⟩ (by repeat first | with_reducible exact Sub.refl _ | refine sub_past rfl ?_ | exact Sub.refl _ | refine sub_del rfl ?_ | refine sub_insL_nil ?_) ⟨hlt, fun j hj => by by_cases e : j < k; (exact hall j e); (rw [show j = k by omega]; omega), q1, hbw⟩ (by omega)
  ·
    obtain rfl : k = c.clues.length := by omega
    refine EC.seq ?_
    refine EC.seq ?_
    refine EC.region ?_
    refine EL.val (x_move rfl) rfl ?_
    refine EL.val (fa_25_2 rfl) rfl ?_
    refine EL.val (ld_23 rfl (q1.at (j := 2) rfl)) rfl ?_
    refine EL.val (ln_23 rfl) rfl ?_
    refine EL.val (x_lss rfl rfl (by first | assumption | exact decide_eq_false (by omega))) rfl ?_
    refine EL.nil ?_
    refine EX.seq ?_
    refine EC.no rfl ?_
    refine EC.exit ?_
    refine EX.seq_exit ?_
    refine EX.seq_exit ?_
    refine EX.blk_here ?_
    refine EX.seq ?_
    refine EC.seq ?_
    refine EC.region ?_
    refine EL.val (fa_25_2 rfl) rfl ?_
    refine EL.val (ld_23 rfl (q1.at (j := 2) rfl)) rfl ?_
    refine EL.val (ln_23 rfl) rfl ?_
    by_cases h1 : 25 < c.clues.length
    ·
      refine EL.val (x_gtr rfl rfl (by first | assumption | exact decide_eq_true (by omega))) rfl ?_
      refine EL.val (x_move rfl) rfl ?_
      refine EL.skip rfl rfl rfl rfl ?_
      refine EL.skip rfl rfl rfl rfl ?_
      refine EL.skip rfl rfl rfl rfl ?_
      refine EL.skip rfl rfl rfl rfl ?_
      refine EL.val (x_pick_t rfl rfl) rfl ?_
      refine EL.val (x_assign rfl) rfl ?_
      refine EL.nil ?_
      refine EX.seq ?_
      refine EC.ret ?_
      exact EX.done (res1 rfl rfl) ⟨⟨_, rfl, fun h => by first | (cases h; done) | exact ⟨by omega, by omega, hall⟩⟩, hbw⟩
    ·
      refine EL.val (x_gtr rfl rfl (by first | assumption | exact decide_eq_false (by omega))) rfl ?_
      refine EL.val (x_move rfl) rfl ?_
      refine EL.valg rfl rfl (fa_25_1 rfl) rfl ?_
      refine EL.valg rfl rfl (ld_22 rfl (q1.at (j := 1) rfl)) rfl ?_
      refine EL.valg rfl rfl (ln_22 rfl) rfl ?_
      by_cases h2 : 12 < c.clocks.length
      ·
        refine EL.valg rfl rfl (x_gtr rfl rfl (by first | assumption | exact decide_eq_true (by omega))) rfl ?_
        refine EL.val (x_pick_f rfl rfl) rfl ?_
        refine EL.val (x_assign rfl) rfl ?_
        refine EL.nil ?_
        refine EX.seq ?_
        refine EC.ret ?_
        exact EX.done (res1 rfl rfl) ⟨⟨_, rfl, fun h => by first | (cases h; done) | exact ⟨by omega, by omega, hall⟩⟩, hbw⟩
      ·
        refine EL.valg rfl rfl (x_gtr rfl rfl (by first | assumption | exact decide_eq_false (by omega))) rfl ?_
        refine EL.val (x_pick_f rfl rfl) rfl ?_
        refine EL.val (x_assign rfl) rfl ?_
        refine EL.nil ?_
        refine EX.seq ?_
        refine EC.ret ?_
        exact EX.done (res1 rfl rfl) ⟨⟨_, rfl, fun h => by first | (cases h; done) | exact ⟨by omega, by omega, hall⟩⟩, hbw⟩
end Go.Proofs.Ytmaiiigijjfjfaa
set_option linter.unusedVariables false
namespace Go.Proofs.Ytmaiiigijjfjfaa
open Go Go.RowKit
theorem own_empty {w : World} {g T base : Nat} (size : Nat) (h : Blk w g T #[]) (hb : base ≤ g) : w.ownsRow base T size (.slice (some ⟨g, 0, none⟩) 0 0) 0 [] :=
  ⟨by simp, .inr ⟨g, 0, #[], rfl, hb, h, Nat.le_refl _, Nat.zero_le _, by simp, by simp⟩⟩
section
variable {P : Program} {w : World}
theorem run_copy {t e : TypeId} {size bytes base B m ty g : Nat} (E : Elem P t e size bytes) {src : Value} {news : List Value} (hq : Blk w g e #[]) (hg : base ≤ g) (hr : Rd w B size src m news) (h1 : ∀ u ∈ news, u.oneCell' = true) (hm : m ≤ 1048576) (hby : bytes ≤ 1048576) (hbase : base ≤ w.heap.size) :
    ∃ v' w', (Builtin.append_ #[t, t] ty #[.slice (some ⟨g, 0, none⟩) 0 0, src]).run P w = .ok v' w' ∧ w'.ownsRow base e size v' m news ∧ Below w.heap.size w w' := by
  have hown := own_empty (base := base) size hq hg
  obtain ⟨v', w', h2, h3, h4, h5, _⟩ := run_push (ty := ty) E hown hr h1 (by omega) hby hbase
  rw [Nat.zero_add, List.nil_append] at h3
  refine ⟨v', w', h2, h3, ?_⟩
  have key : w'.heap[g]? = w.heap[g]? := by
    obtain ⟨i, z, hi, hz, hsize, hb, hzs⟩ := E.hi
    obtain ⟨hl, A, c, rfl, hnc, hr⟩ := hr
    rcases Nat.eq_zero_or_pos m with hm0 | hm0
    · subst hm0
      have hn : news = [] := List.eq_nil_of_length_eq_zero (by simpa using hl)
      subst hn
      rcases A with _ | ad
      · have h6 := run_append_of_nil (P := P) w base t ty e i size E.ht hi _ 0 [] hown c
        rw [h2] at h6
        injection h6 with _ h6
        rw [h6]
      · have h6 := run_append_room (P := P) w t ty e i E.ht hi g 0 0 #[] hq ad 0 c [] (by simp) (by simp) (by simp) (by simp) (by simp)
        rw [h2] at h6
        injection h6 with _ h6
        have h7 := setRow_blk (ds := (List.take (0 * i.size) (#[] : Array Value).toList ++ [] ++ List.drop (0 * i.size + ([] : List Value).length) (#[] : Array Value).toList).toArray) hq
        rw [← h6] at h7
        unfold Blk at h7 hq
        rw [h7, hq]
        simp
    · obtain ⟨b, off, rfl, _, hc⟩ := hr hm0
      have hmul : m * i.bytes ≤ 1048576 * i.bytes := Nat.mul_le_mul_right _ hm
      have h6 := run_append_grow (P := P) w t ty e i z E.ht hi hz ⟨g, 0, none⟩ 0 0 [] (by simp) (by simp) ⟨b, off, none⟩ m c news (by rw [hsize]; exact hl) (fun j u hu => by rw [Addr.add_lit]; exact hc j u hu) (by omega) (by omega) (by rw [Nat.zero_add, nextslicecap_zero hm0]; omega)
      rw [h2] at h6
      injection h6 with _ h6
      rw [h6]
      have hlt := hq.lt
      simp only [World.alloc, World.drew]
      rw [Array.getElem?_push_lt hlt, Array.getElem?_eq_getElem hlt]
  exact ⟨h4.os, h4.tape, h4.output, h4.size, fun k hk => by
    by_cases e : k = g
    · subst e; exact key
    · exact h4.block k hk (fun h => e (by simpa [Value.ownBlock] using h))⟩
end
section
variable {P : Program} {n : Nat} {σ : Sg} {L : List Oper} {cls : List (List Nat)} {alc : List Nat} {val : Nat → Value} {a : Act} {w1 : World} {i : Nat} {Q : Exit → Act → World → Prop}
theorem hs_copy {Φ : Nat → (Nat → Value) → World → Prop} {d ty t e size bytes base B mm g : Nat} {s x : Operand} {pos : String} {af : Array Edge} (E : Elem P t e size bytes) {src : Value} {news : List Value} (ha : Env n σ a) (ho : nthO L i = some ⟨some d, .call { callee := .builtin .append, args := #[s, x], argTypes := #[t, t] }, ty, pos, af, none⟩) (hs : evS σ s = some (.slice (some ⟨g, 0, none⟩) 0 0)) (hx : evS σ x = some src)
    (hq : Blk w1 g e #[]) (hg : base ≤ g) (hr : Rd w1 B size src mm news) (h1 : ∀ u ∈ news, u.oneCell' = true) (hm : mm ≤ 1048576) (hby : Nat.ble bytes 1048576 = true) (hbase : base ≤ w1.heap.size) (halc : memB alc i = false)
    (hΦ : ∀ v' w', w'.ownsRow base e size v' mm news → Φ i (res (upd val i v') i (clsAt cls i)) w') : wpOp P L.toArray Q i (HK L cls alc Φ i val a w1) a w1 := by
  obtain ⟨v', w', h2, h3, h4⟩ := run_copy (P := P) (ty := ty) E hq hg hr h1 hm (by simpa [Nat.ble_eq] using hby) hbase
  exact hs_run ho rfl (run_append_call rfl (ha.eval hs) (ha.eval hx) h2) h4 (hΦ v' w' h3) fun h => by rw [memB_mem.2 h] at halc; cases halc
end
/-- a world of which some blocks are turned -/
structure Touch (w w1 : World) (gs : List Nat) : Prop where
  os : w1.os = w.os
  tape : w1.tape = w.tape
  output : w1.output = w.output
  size : w.heap.size ≤ w1.heap.size
  block : ∀ k, k < w.heap.size → k ∉ gs → w1.heap[k]? = w.heap[k]?
section
variable {w w1 w2 : World} {gs : List Nat} {g T : Nat} {cs : Array Value}
theorem Touch.start (w : World) (gs : List Nat) : Touch w { w with drawn := w.drawn + 1 } gs := ⟨rfl, rfl, rfl, Nat.le_refl _, fun _ _ _ => rfl⟩
theorem Touch.below (h : Touch w w1 gs) (hb : Below w1.heap.size w1 w2) : Touch w w2 gs :=
  ⟨hb.os.trans h.os, hb.tape.trans h.tape, hb.output.trans h.output, Nat.le_trans h.size hb.size, fun k hk hn => (hb.block k (Nat.lt_of_lt_of_le hk h.size)).trans (h.block k hk hn)⟩
theorem Touch.grown (h : Touch w w1 gs) (hg : w1.grownBy w2 (some g)) (hm : g ∈ gs) : Touch w w2 gs :=
  ⟨hg.os.trans h.os, hg.tape.trans h.tape, hg.output.trans h.output, Nat.le_trans h.size hg.size, fun k hk hn => (hg.block k (Nat.lt_of_lt_of_le hk h.size) (fun e => hn (by injection e with e; rw [e]; exact hm))).trans (h.block k hk hn)⟩
end
theorem mono_row {k base e size n : Nat} {xs : List Value} : Mono fun r w => ∃ v, r k = v ∧ w.ownsRow base e size v n xs := fun _ _ _ hb ⟨v, h1, h2⟩ => ⟨v, h1, own_below h2 hb (Nat.le_refl _)⟩
end Go.Proofs.Ytmaiiigijjfjfaa
set_option linter.unusedVariables false
namespace Go.Proofs.Ytmaiiigijjfjfaa
open Go Go.RowKit
section
variable {P : Program} {w : World}
theorem run_full {t e : TypeId} {size bytes base B m k ty : Nat} {A : Option Addr} (E : Elem P t e size bytes) {src : Value} {xs news : List Value} (hown : w.ownsRow base e size (.slice A k k) k xs) (hr : Rd w B size src m news) (h1 : ∀ u ∈ news, u.oneCell' = true) (hm : k + m ≤ 1048576) (hby : bytes ≤ 1048576) (hbase : base ≤ w.heap.size) :
    ∃ v' w', (Builtin.append_ #[t, t] ty #[.slice A k k, src]).run P w = .ok v' w' ∧ w'.ownsRow base e size v' (k + m) (xs ++ news) ∧ Below w.heap.size w w' ∧ (m = 0 ∨ v'.ownBlock = some w.heap.size) := by
  obtain ⟨v', w', h2, h3, h4, h5, h6⟩ := run_push (ty := ty) E hown hr h1 hm hby hbase
  obtain ⟨i, z, hi, hz, hsize, hb, hzs⟩ := E.hi
  have hrow := hown.2
  obtain ⟨hl, X, c, rfl, hnc, hr⟩ := hr
  rcases Nat.eq_zero_or_pos m with hm0 | hm0
  · subst hm0
    refine ⟨v', w', h2, h3, ?_, .inl rfl⟩
    have hn : news = [] := List.eq_nil_of_length_eq_zero (by simpa using hl)
    subst hn
    rcases X with _ | ad
    · have h7 := run_append_of_nil (P := P) w base t ty e i size E.ht hi _ k xs hown c
      rw [h2] at h7
      injection h7 with _ h7
      rw [h7]
      exact Below.refl _ _
    · rcases hrow with ⟨h8, _⟩ | ⟨g, cap, cur, h8, _, hq, hc1, hc2, hc3, hc4⟩
      · injection h8 with h8 _ _
        subst h8
        refine ⟨h4.os, h4.tape, h4.output, h4.size, fun j hj => h4.block j hj (by simp [Value.ownBlock])⟩
      · injection h8 with h8 _ h9
        subst h8
        subst h9
        have h7 := run_append_room (P := P) w t ty e i E.ht hi g k k cur hq ad 0 c [] (by simp) (by simp) (by simp) (by omega) (by rw [hsize]; simp [hc3])
        rw [h2] at h7
        injection h7 with _ h7
        have key : w'.heap[g]? = w.heap[g]? := by
          have h10 := setRow_blk (ds := (List.take (k * i.size) cur.toList ++ [] ++ List.drop (k * i.size + ([] : List Value).length) cur.toList).toArray) hq
          rw [← h7] at h10
          unfold Blk at h10
          rw [h10, hq]
          simp
        exact ⟨h4.os, h4.tape, h4.output, h4.size, fun j hj => by
          by_cases ej : j = g
          · subst ej; exact key
          · exact h4.block j hj (fun h => ej (by simpa [Value.ownBlock] using h))⟩
  · obtain ⟨b, off, rfl, _, hc⟩ := hr hm0
    have hmul : m * i.bytes ≤ 1048576 * i.bytes := Nat.mul_le_mul_right _ (by omega)
    have hkm : (k + m) * i.bytes ≤ 1048576 * i.bytes := Nat.mul_le_mul_right _ (by omega)
    have hal : ∀ o, Below w.heap.size w (w.drew.alloc o) := fun o => ⟨rfl, rfl, rfl, by simp, fun j hj => by
      simp only [World.alloc, World.drew]
      rw [Array.getElem?_push_lt hj, Array.getElem?_eq_getElem hj]⟩
    rcases hrow with ⟨h8, _⟩ | ⟨g, cap, cur, h8, _, hq, hc1, hc2, hc3, hc4⟩
    · injection h8 with h8 h9 _
      subst h8
      subst h9
      have h7 := run_append_nil (P := P) w t ty e i z E.ht hi hz ⟨b, off, none⟩ m c news (by rw [hsize]; exact hl) (fun j u hu => by rw [Addr.add_lit]; exact hc j u hu) hm0 (by omega) (by omega)
      rw [h2] at h7
      injection h7 with h8 h7
      refine ⟨v', w', h2, h3, by rw [h7]; exact hal _, .inr (by rw [h8]; rfl)⟩
    · injection h8 with h8 _ h9
      subst h8
      subst h9
      have hfit := growslice_fits (need := k + m) (old := k) (bytes := i.bytes) (by omega) (by omega)
      have h7 := run_append_grow (P := P) w t ty e i z E.ht hi hz ⟨g, 0, none⟩ k k xs (by rw [hsize]; exact hown.1) (fun j u hu => by
        rw [Addr.add_lit]
        have hq' : Blk w g e cur := hq
        rw [hq'.cell, Nat.zero_add]
        rw [← hc4] at hu
        rw [List.getElem?_take] at hu
        split at hu
        · simpa using hu
        · cases hu) ⟨b, off, none⟩ m c news (by rw [hsize]; exact hl) (fun j u hu => by rw [Addr.add_lit]; exact hc j u hu) (by omega) (by omega) hfit
      rw [h2] at h7
      injection h7 with h8 h7
      refine ⟨v', w', h2, h3, by rw [h7]; exact hal _, .inr (by rw [h8]; rfl)⟩
end
/-- a built slice is a row of one's own without room -/
theorem own_built {w : World} {g T base k size : Nat} {l : List Value} (h : Blk w g T l.toArray) (hl : lenV l = k * size) (hk : k ≤ 1048576) (hb : base ≤ g) : w.ownsRow base T size (.slice (some ⟨g, 0, none⟩) k k) k l := by
  have hl' : l.length = k * size := by rw [← lenV_eq]; exact hl
  exact ⟨hl', .inr ⟨g, k, l.toArray, rfl, hb, h, Nat.le_refl _, by simp only [maxLen]; omega, by simpa using hl', by rw [← hl']; simp⟩⟩
section
variable {P : Program} {n : Nat} {σ : Sg} {L : List Oper} {cls : List (List Nat)} {alc : List Nat} {val : Nat → Value} {a : Act} {w1 : World} {i : Nat} {Q : Exit → Act → World → Prop}
theorem hs_full {Φ : Nat → (Nat → Value) → World → Prop} {d ty t e size bytes base B mm k : Nat} {s x : Operand} {pos : String} {af : Array Edge} {A : Option Addr} (E : Elem P t e size bytes) {src : Value} {xs news : List Value} (ha : Env n σ a) (ho : nthO L i = some ⟨some d, .call { callee := .builtin .append, args := #[s, x], argTypes := #[t, t] }, ty, pos, af, none⟩) (hs : evS σ s = some (.slice A k k)) (hx : evS σ x = some src)
    (hown : w1.ownsRow base e size (.slice A k k) k xs) (hr : Rd w1 B size src mm news) (h1 : ∀ u ∈ news, u.oneCell' = true) (hm : k + mm ≤ 1048576) (hby : Nat.ble bytes 1048576 = true) (hbase : base ≤ w1.heap.size) (halc : memB alc i = false)
    (hΦ : ∀ v' w', w'.ownsRow base e size v' (k + mm) (xs ++ news) → Φ i (res (upd val i v') i (clsAt cls i)) w') : wpOp P L.toArray Q i (HK L cls alc Φ i val a w1) a w1 := by
  obtain ⟨v', w', h2, h3, h4, _⟩ := run_full (P := P) (ty := ty) E hown hr h1 hm (by simpa [Nat.ble_eq] using hby) hbase
  exact hs_run ho rfl (run_append_call rfl (ha.eval hs) (ha.eval hx) h2) h4 (hΦ v' w' h3) fun h => by rw [memB_mem.2 h] at halc; cases halc
end
end Go.Proofs.Ytmaiiigijjfjfaa
set_option linter.unusedVariables false
set_option linter.unusedSimpArgs false
namespace Go.Proofs.Ytmaiiigijjfjfaa
open Go
def lk (ls : List Lnk) (s : St) (v : Nat) : Lnk := ls.getD (s.via.getD v 0).toNat lnk0
def back (ls : List Lnk) (s : St) (v : Nat) : Nat → Nat
  | 0 => v
  | k + 1 => (lk ls s (back ls s v k)).fr
/-- the links of so many steps back, the last step first -/
def rgL (ls : List Lnk) (s : St) (v : Nat) : Nat → List Lnk
  | 0 => []
  | k + 1 => lk ls s (back ls s v k) :: rgL ls s v k
/-- T: when each variable was last set; K: when the round began; j: how many links it has looked at -/
structure Gh (ls : List Lnk) (n K j : Nat) (s : St) (T : Nat → Nat) : Prop where
  most : s.most.length = n
  via : s.via.length = n
  low : ∀ v, v < n → s.most.getD v 0 ≤ 0
  time : ∀ v, v < n → T v ≤ K + j
  hK : K = 0 ∨ ls.length ≤ K
  at_ : ∀ v, v < n → 0 < T v → ∃ i, i < ls.length ∧ s.via.getD v 0 = (i : Nat) ∧ (ls.getD i lnk0).to = v ∧ s.most.getD (ls.getD i lnk0).fr 0 + (ls.getD i lnk0).most ≤ s.most.getD v 0 ∧ (T v ≤ T (ls.getD i lnk0).fr → s.most.getD (ls.getD i lnk0).fr 0 + (ls.getD i lnk0).most < s.most.getD v 0) ∧ T v ≤ T (ls.getD i lnk0).fr + ls.length
  done : ∀ i, i < j → T (ls.getD i lnk0).fr ≤ K + i + 1 → s.most.getD (ls.getD i lnk0).to 0 ≤ s.most.getD (ls.getD i lnk0).fr 0 + (ls.getD i lnk0).most
  old : ∀ i, j ≤ i → i < ls.length → ls.length ≤ K → T (ls.getD i lnk0).fr + ls.length ≤ K + i + 1 → s.most.getD (ls.getD i lnk0).to 0 ≤ s.most.getD (ls.getD i lnk0).fr 0 + (ls.getD i lnk0).most
  ring : 0 ≤ s.ring → ∃ v, v < n ∧ s.ring = (v : Nat) ∧ K < T v
section
variable {ls : List Lnk} {n K j : Nat} {s : St} {T : Nat → Nat}
theorem gh_step (hok : LnksOk n ls) (hne : ∀ k, k < ls.length → (ls.getD k lnk0).fr ≠ (ls.getD k lnk0).to) (hj : j < ls.length) (h : Gh ls n K j s T) : ∃ T', Gh ls n K (j + 1) (rlx s j (ls.getD j lnk0)) T' := by
  obtain ⟨hf, ht, _, _⟩ := hok j hj
  have hnj := hne j hj
  obtain ⟨x, ex⟩ : ∃ x, x = ls.getD j lnk0 := ⟨_, rfl⟩
  have hlf := h.low x.fr (by rw [ex]; exact hf)
  have hlen := h.most
  have hlen2 := h.via
  by_cases hc : s.most.getD x.fr 0 < farI ∧ s.most.getD x.fr 0 + x.most < s.most.getD x.to 0
  · rw [← ex] at hf ht hnj ⊢
    rw [rlx, if_pos hc]
    have hlt := h.low x.to ht
    have hm : ∀ v, (s.most.set x.to (s.most.getD x.fr 0 + x.most)).getD v 0 = if x.to = v then s.most.getD x.fr 0 + x.most else s.most.getD v 0 := fun v => getD_setR (by omega)
    have hv : ∀ v, (s.via.set x.to (j : Nat)).getD v 0 = if x.to = v then ((j : Nat) : Int) else s.via.getD v 0 := fun v => getD_setR (by omega)
    have hdn : ∀ v, (s.most.set x.to (s.most.getD x.fr 0 + x.most)).getD v 0 ≤ s.most.getD v 0 := fun v => by
      rw [hm]
      split
      · rename_i e; rw [← e]; omega
      · exact Int.le_refl _
    refine ⟨fun v => if x.to = v then K + j + 1 else T v, by simp [hlen], by simp [hlen2], fun v hv' => Int.le_trans (hdn v) (h.low v hv'), fun v hv' => ?_, h.hK, fun v hv' hT => ?_, fun i hi hT => ?_, fun i hi1 hi2 hK hT => ?_, fun _ => ⟨x.to, ht, rfl, by simp only [if_pos]; omega⟩⟩
    · try simp only
      have := h.time v hv'
      split <;> omega
    · try simp only
      by_cases e : x.to = v
      · subst e
        refine ⟨j, hj, by rw [hv, if_pos rfl], by rw [← ex], ?_⟩
        rw [← ex]
        have e1 : ¬(x.to = x.fr) := fun e => hnj e.symm
        rw [if_pos rfl, if_neg e1, hm, hm, if_pos rfl, if_neg e1]
        have h3 := h.time x.fr hf
        refine ⟨Int.le_refl _, fun h1 => absurd h1 (by omega), ?_⟩
        rcases h.hK with h0 | h0
        · omega
        · by_cases h4 : T x.fr + ls.length ≤ K + j + 1
          · have := h.old j (Nat.le_refl _) hj h0 (by rw [← ex]; exact h4)
            rw [← ex] at this
            omega
          · omega
      · rw [if_neg e] at hT ⊢
        obtain ⟨i, hi, h1, h2, h3, h4, h5⟩ := h.at_ v hv' hT
        refine ⟨i, hi, by rw [hv, if_neg e]; exact h1, h2, ?_⟩
        rw [hm, hm, if_neg e]
        by_cases e2 : x.to = (ls.getD i lnk0).fr
        · rw [if_pos e2, if_pos e2]
          rw [← e2] at h3 h4 h5
          have h6 := h.time x.to ht
          exact ⟨by omega, fun _ => by omega, by omega⟩
        · rw [if_neg e2, if_neg e2]
          exact ⟨h3, h4, h5⟩
    · try simp only at hT ⊢
      rw [hm (ls.getD i lnk0).fr]
      by_cases e : i = j
      · subst e
        rw [← ex] at hT ⊢
        rw [hm, if_pos rfl, if_neg (fun e => hnj e.symm)]
        exact Int.le_refl _
      · by_cases e2 : x.to = (ls.getD i lnk0).fr
        · rw [if_pos e2] at hT; omega
        · rw [if_neg e2] at hT ⊢
          exact Int.le_trans (hdn _) (h.done i (by omega) hT)
    · try simp only at hT ⊢
      rw [hm (ls.getD i lnk0).fr]
      by_cases e2 : x.to = (ls.getD i lnk0).fr
      · rw [if_pos e2] at hT; omega
      · rw [if_neg e2] at hT ⊢
        exact Int.le_trans (hdn _) (h.old i (by omega) hi2 hK hT)
  · rw [rlx, if_neg (by rw [← ex]; exact hc)]
    refine ⟨T, hlen, hlen2, h.low, fun v hv => Nat.le_succ_of_le (h.time v hv), h.hK, h.at_, fun i hi hT => ?_, fun i hi1 hi2 hK hT => h.old i (by omega) hi2 hK hT, h.ring⟩
    by_cases e : i = j
    · subst e
      rw [← ex]
      have : ¬(s.most.getD x.fr 0 + x.most < s.most.getD x.to 0) := fun h2 => hc ⟨by unfold farI; omega, h2⟩
      omega
    · exact h.done i (by omega) hT
theorem gh_relax (hok : LnksOk n ls) (hne : ∀ k, k < ls.length → (ls.getD k lnk0).fr ≠ (ls.getD k lnk0).to) (h : Gh ls n K 0 s T) : ∀ j, j ≤ ls.length → ∃ T', Gh ls n K j (relaxN ls s j) T'
  | 0, _ => ⟨T, h⟩
  | j + 1, hj => by
    obtain ⟨T1, h1⟩ := gh_relax hok hne h j (by omega)
    exact gh_step hok hne (by omega) h1
theorem gh_next (h : Gh ls n K ls.length s T) : Gh ls n (K + ls.length) 0 ⟨s.most, s.via, -1⟩ T :=
  ⟨h.most, h.via, h.low, fun v hv => h.time v hv, .inr (by omega), h.at_, fun i hi => absurd hi (by omega), fun i _ hi _ hT => h.done i hi (by omega), fun h0 => absurd h0 (by simp)⟩
theorem gh_init (n : Nat) : Gh ls n 0 0 ⟨initM n (-1), initB n, -1⟩ fun _ => 0 :=
  ⟨initM_len _ _, initB_len _, fun v hv => by rw [show (initM n (-1)).getD v 0 = initI (-1) v by simp [initM, hv], initI, if_pos (.inr (by omega))]; exact Int.le_refl _, fun _ _ => Nat.le_refl _, .inl rfl, fun _ _ h => absurd h (by omega), fun i hi => absurd hi (by omega), fun i _ hi hK => absurd hi (by omega), fun h0 => absurd h0 (by simp)⟩
/-- where the last round has found a ring, no round before was the last one -/
theorem ring_all {s : St} {m : Nat} (h : 0 ≤ (rounds ls s m).ring) : ∀ k, 0 < k → k ≤ m → 0 ≤ (rounds ls s k).ring := fun k hk hm => by
  by_cases e : (rounds ls s k).ring < 0
  · have := rounds_stop hk e (m - k)
    rw [show k + (m - k) = m by omega] at this
    rw [this] at h
    exact h
  · omega
theorem gh_rounds (hok : LnksOk n ls) (hne : ∀ k, k < ls.length → (ls.getD k lnk0).fr ≠ (ls.getD k lnk0).to) {m : Nat} (h : 0 ≤ (rounds ls ⟨initM n (-1), initB n, 0⟩ (m + 1)).ring) : ∀ k, k ≤ m → ∃ T, Gh ls n (k * ls.length) ls.length (rounds ls ⟨initM n (-1), initB n, 0⟩ (k + 1)) T
  | 0, _ => by
    rw [rounds, if_neg (by omega), Nat.zero_mul]
    exact gh_relax hok hne (gh_init n) _ (Nat.le_refl _)
  | k + 1, hk => by
    obtain ⟨T, h1⟩ := gh_rounds hok hne h k (by omega)
    have hr := ring_all h (k + 1) (by omega) (by omega)
    rw [rounds, if_neg (by omega), Nat.succ_mul]
    exact gh_relax hok hne (gh_next h1) _ (Nat.le_refl _)
theorem gh_lk (h : Gh ls n K j s T) {v : Nat} (hv : v < n) (hT : 0 < T v) : 0 ≤ s.via.getD v 0 ∧ (s.via.getD v 0).toNat < ls.length ∧ (lk ls s v).to = v ∧ s.most.getD (lk ls s v).fr 0 + (lk ls s v).most ≤ s.most.getD v 0 ∧ (T v ≤ T (lk ls s v).fr → s.most.getD (lk ls s v).fr 0 + (lk ls s v).most < s.most.getD v 0) ∧ T v ≤ T (lk ls s v).fr + ls.length := by
  obtain ⟨i, hi, h1, h2⟩ := h.at_ v hv hT
  have e : lk ls s v = ls.getD i lnk0 := by unfold lk; rw [h1]; simp
  rw [e, h1]
  exact ⟨by omega, by simpa using hi, h2⟩
theorem lk_mem {v : Nat} (h : (s.via.getD v 0).toNat < ls.length) : lk ls s v ∈ ls := by
  unfold lk
  obtain ⟨k, ek⟩ : ∃ k, k = (s.via.getD v 0).toNat := ⟨_, rfl⟩
  rw [← ek] at h ⊢
  rw [show ls.getD k lnk0 = ls[k] by simp [h]]
  exact List.getElem_mem h
theorem back_add (v : Nat) (i : Nat) : ∀ k, back ls s v (i + k) = back ls s (back ls s v i) k
  | 0 => rfl
  | k + 1 => by rw [← Nat.add_assoc, back, back_add v i k, back]
end
/-- more things than places -/
theorem pigeon : ∀ (n : Nat) (f : Nat → Nat), (∀ i, i ≤ n → f i < n) → ∃ a b, a < b ∧ b ≤ n ∧ f a = f b
  | 0, f, h => absurd (h 0 (Nat.le_refl _)) (by omega)
  | n + 1, f, h => by
    by_cases hx : ∃ i, i ≤ n ∧ f i = f (n + 1)
    · obtain ⟨i, hi, e⟩ := hx
      exact ⟨i, n + 1, by omega, Nat.le_refl _, e⟩
    · have hx' : ∀ i, i ≤ n → f i ≠ f (n + 1) := fun i hi e => hx ⟨i, hi, e⟩
      obtain ⟨a, b, h1, h2, h3⟩ := pigeon n (fun i => if f i < f (n + 1) then f i else f i - 1) fun i hi => by
        have a := h i (by omega)
        have b := h (n + 1) (Nat.le_refl _)
        have c := hx' i hi
        try simp only
        split <;> omega
      refine ⟨a, b, h1, by omega, ?_⟩
      have a1 := hx' a (by omega)
      have b1 := hx' b (by omega)
      try simp only at h3
      split at h3 <;> split at h3 <;> omega
theorem least_of {p : Nat → Prop} : ∀ (k : Nat), 0 < k → p k → ∃ K, 0 < K ∧ K ≤ k ∧ p K ∧ ∀ j, 0 < j → j < K → ¬p j := by
  intro k
  induction k using Nat.strongRecOn with
  | _ k ih =>
    intro hk hp
    by_cases h : ∃ j, 0 < j ∧ j < k ∧ p j
    · obtain ⟨j, h1, h2, h3⟩ := h
      obtain ⟨K, k1, k2, k3⟩ := ih j h2 h1 h3
      exact ⟨K, k1, by omega, k3⟩
    · exact ⟨k, hk, Nat.le_refl _, hp, fun j h1 h2 h3 => h ⟨j, h1, h2, h3⟩⟩
/-- the ring that reach has found: v its variable, z n steps before, K its length -/
structure Rg (ls : List Lnk) (n : Nat) (s : St) (v z K : Nat) : Prop where
  vn : v < n
  ring : s.ring = (v : Nat)
  ez : z = back ls s v n
  pos : 0 < K
  le : K ≤ n
  lt : ∀ i, back ls s v i < n
  ok : ∀ i, 0 ≤ s.via.getD (back ls s v i) 0 ∧ (s.via.getD (back ls s v i) 0).toNat < ls.length ∧ (lk ls s (back ls s v i)).to = back ls s v i
  hK : back ls s z K = z
  least : ∀ j, 0 < j → j < K → back ls s z j ≠ z
  neg : ((rgL ls s z K).map (·.most)).sum < 0
theorem rg_of {ls : List Lnk} {n : Nat} (hn : 0 < n) (hok : LnksOk n ls) (hne : ∀ k, k < ls.length → (ls.getD k lnk0).fr ≠ (ls.getD k lnk0).to) {s : St} (es : s = reachS ls n (-1)) (h : 0 ≤ s.ring) : ∃ v z K, Rg ls n s v z K := by
  obtain ⟨m, rfl⟩ : ∃ m, n = m + 1 := ⟨n - 1, by omega⟩
  rw [es, reachS] at h
  obtain ⟨T, hG⟩ := gh_rounds hok hne h m (Nat.le_refl _)
  rw [reachS] at es
  rw [← es] at hG h
  obtain ⟨v, hv, hr, hT⟩ := hG.ring h
  have hlt1 : ∀ u, u < m + 1 → 0 < T u → (lk ls s u).fr < m + 1 := fun u hu hT => (hok _ (gh_lk hG hu hT).2.1).1
  have first : ∀ i, i ≤ m → back ls s v i < m + 1 ∧ (m - i) * ls.length < T (back ls s v i) := by
    intro i
    induction i with
    | zero => intro _; exact ⟨hv, hT⟩
    | succ i ih =>
      intro hi
      obtain ⟨h1, h2⟩ := ih (by omega)
      have h3 := gh_lk hG h1 (by omega)
      refine ⟨hlt1 _ h1 (by omega), ?_⟩
      have h4 := h3.2.2.2.2.2
      rw [show m - i = m - (i + 1) + 1 by omega, Nat.succ_mul] at h2
      show _ < T (lk ls s (back ls s v i)).fr
      omega
  have fst : ∀ i, i ≤ m + 1 → back ls s v i < m + 1 := fun i hi => by
    by_cases e : i ≤ m
    · exact (first i e).1
    · rw [show i = m + 1 by omega]
      obtain ⟨h1, h2⟩ := first m (Nat.le_refl _)
      exact hlt1 _ h1 (by omega)
  obtain ⟨a, b, hab, hb, e⟩ := pigeon (m + 1) (back ls s v) fst
  have per : ∀ i, a ≤ i → back ls s v (i + (b - a)) = back ls s v i := fun i hi => by
    have h1 := back_add (ls := ls) (s := s) v a (i - a)
    have h2 := back_add (ls := ls) (s := s) v b (i - a)
    rw [← e, ← h1] at h2
    rw [show a + (i - a) = i by omega] at h2
    rw [← h2]
    congr 1
    omega
  have all : ∀ i, back ls s v i < m + 1 ∧ 0 < T (back ls s v i) := by
    intro i
    induction i using Nat.strongRecOn with
    | _ i ih =>
      by_cases hi : i ≤ m
      · have := first i hi
        exact ⟨this.1, by omega⟩
      · have := per (i - (b - a)) (by omega)
        rw [show i - (b - a) + (b - a) = i by omega] at this
        rw [this]
        exact ih _ (by omega)
  obtain ⟨z, ez⟩ : ∃ z, z = back ls s v (m + 1) := ⟨_, rfl⟩
  have hzb : ∀ i, back ls s z i = back ls s v (m + 1 + i) := fun i => by rw [ez, ← back_add]
  obtain ⟨K, k1, k2, k3, k4⟩ := least_of (p := fun K => back ls s z K = z) (b - a) (by omega) (by rw [hzb, ez]; exact per _ (by omega))
  refine ⟨v, z, K, hv, hr, ez, k1, by omega, fun i => (all i).1, fun i => ?_, k3, k4, ?_⟩
  · have := gh_lk hG (all i).1 (all i).2
    exact ⟨this.1, this.2.1, this.2.2.1⟩
  · have key : ∀ i, ((rgL ls s z i).map (·.most)).sum ≤ s.most.getD z 0 - s.most.getD (back ls s z i) 0 ∧ (((rgL ls s z i).map (·.most)).sum < s.most.getD z 0 - s.most.getD (back ls s z i) 0 ∨ i = 0 ∨ T (back ls s z i) < T z) := by
      intro i
      induction i with
      | zero => exact ⟨by simp [rgL, back], .inr (.inl rfl)⟩
      | succ i ih =>
        have hi := all (m + 1 + i)
        rw [← hzb] at hi
        obtain ⟨_, _, _, g1, g2, _⟩ := gh_lk hG hi.1 hi.2
        have e1 : ((rgL ls s z (i + 1)).map (·.most)).sum = (lk ls s (back ls s z i)).most + ((rgL ls s z i).map (·.most)).sum := by simp [rgL]
        have e2 : back ls s z (i + 1) = (lk ls s (back ls s z i)).fr := rfl
        rw [e1, e2]
        obtain ⟨h1, h2⟩ := ih
        refine ⟨by omega, ?_⟩
        rcases h2 with h2 | h2 | h2
        · exact .inl (by omega)
        · subst h2
          by_cases h5 : T (back ls s z 0) ≤ T (lk ls s (back ls s z 0)).fr
          · have := g2 h5; exact .inl (by omega)
          · exact .inr (.inr (by simp only [back] at h5 ⊢; omega))
        · by_cases h5 : T (back ls s z i) ≤ T (lk ls s (back ls s z i)).fr
          · have := g2 h5; exact .inl (by omega)
          · exact .inr (.inr (by omega))
    obtain ⟨h1, h2⟩ := key K
    rw [k3] at h1 h2
    omega
/-- what a ring is -/
structure RingOk (ls : List Lnk) (n : Nat) (r : List Lnk) : Prop where
  two : 2 ≤ r.length
  le : r.length ≤ n
  mem : ∀ i, i < r.length → r.getD i lnk0 ∈ ls
  next : ∀ i, i < r.length → (r.getD i lnk0).to = (r.getD ((i + 1) % r.length) lnk0).fr
  once : ∀ i k, k < i → i < r.length → (r.getD k lnk0).fr ≠ (r.getD i lnk0).fr
  neg : (r.map (·.most)).sum < 0
theorem rgL_len (ls : List Lnk) (s : St) (v : Nat) : ∀ k, (rgL ls s v k).length = k
  | 0 => rfl
  | k + 1 => by simp [rgL, rgL_len ls s v k]
theorem rgL_get (ls : List Lnk) (s : St) (v : Nat) : ∀ {k i : Nat}, i < k → (rgL ls s v k).getD i lnk0 = lk ls s (back ls s v (k - 1 - i))
  | 0, i, h => absurd h (by omega)
  | k + 1, 0, _ => rfl
  | k + 1, i + 1, h => by
    show (rgL ls s v k).getD i lnk0 = _
    rw [rgL_get ls s v (by omega), show k + 1 - 1 - (i + 1) = k - 1 - i by omega]
theorem ring_ok {ls : List Lnk} {n : Nat} (hne : ∀ k, k < ls.length → (ls.getD k lnk0).fr ≠ (ls.getD k lnk0).to) {s : St} {v z K : Nat} (h : Rg ls n s v z K) : RingOk ls n (rgL ls s z K) := by
  have hz : ∀ i, back ls s z i = back ls s v (n + i) := fun i => by rw [h.ez, ← back_add]
  have ok : ∀ i, (s.via.getD (back ls s z i) 0).toNat < ls.length ∧ (lk ls s (back ls s z i)).to = back ls s z i := fun i => by rw [hz]; exact (h.ok _).2
  have inj : ∀ i j, i < j → j < K → back ls s z i ≠ back ls s z j := fun i j h1 h2 e => by
    have a := back_add (ls := ls) (s := s) z i (K - j)
    have b := back_add (ls := ls) (s := s) z j (K - j)
    rw [e, ← b, show j + (K - j) = K by omega, h.hK] at a
    exact h.least (i + (K - j)) (by omega) (by omega) a
  have len := rgL_len ls s z K
  have fr : ∀ i, i < K → ((rgL ls s z K).getD i lnk0).fr = back ls s z (K - i) := fun i hi => by
    rw [rgL_get ls s z hi, show K - i = K - 1 - i + 1 by omega]
    rfl
  have hp := h.pos
  refine ⟨?_, by rw [len]; exact h.le, fun i hi => ?_, fun i hi => ?_, fun i k hk hi => ?_, h.neg⟩
  · rw [len]
    by_cases e : K = 1
    · exfalso
      subst e
      have h1 := h.hK
      have h2 := ok 0
      exact hne _ h2.1 (h1.trans h2.2.symm)
    · omega
  · rw [len] at hi
    rw [rgL_get ls s z hi]
    exact lk_mem (ok _).1
  · rw [len] at hi ⊢
    rw [rgL_get ls s z hi, (ok _).2]
    by_cases e : i + 1 = K
    · rw [e, Nat.mod_self, fr 0 hp, show K - 0 = K by omega, h.hK, show K - 1 - i = 0 by omega]
      rfl
    · rw [Nat.mod_eq_of_lt (by omega), fr (i + 1) (by omega), show K - (i + 1) = K - 1 - i by omega]
  · rw [len] at hi
    rw [fr k (by omega), fr i hi]
    by_cases e : k = 0
    · subst e
      rw [show K - 0 = K by omega, h.hK]
      exact fun e => h.least (K - i) (by omega) (by omega) e.symm
    · exact fun e => inj (K - i) (K - k) (by omega) (by omega) e.symm
end Go.Proofs.Ytmaiiigijjfjfaa
set_option linter.unusedVariables false
set_option linter.unusedSimpArgs false
namespace Go.Proofs.Ytmaiiigijjfjfaa
open Go Go.RowKit
section
variable {n : Nat} {σ : Sg} {w : World} {dst : Option Tmp} {ty : TypeId} {pos : String} {af : Array Edge} {g : Option (Nat × Bool)} {x y z : Operand} {at' : Array TypeId}
theorem bs_29_1 {x0 : Operand} {v0_0 v0_1 v0_2 : Value} (h0 : evS σ x0 = some (.agg #[v0_0, v0_1, v0_2]))  (a : Act) (ha : Env n σ a) : (execOp a.eval ⟨dst, .buildSlice 29 1 #[(0, x0)], ty, pos, af, g⟩).run Try.prog w = .ok (.value (.slice (some ⟨w.heap.size, 0, none⟩) 1 1)) (w.alloc (.cells #[v0_0, v0_1, v0_2] 39)) := by
  simp only [execOp, List.map_toArray, List.map_cons, List.map_nil, ha.eval h0]
  go_simp
theorem cl_40 {x0 : Operand} {v0 : Value} (h0 : evS σ x0 = some v0) (a : Act) (ha : Env n σ a) : (execOp a.eval ⟨dst, .call { callee := .value (.func 40), args := #[x0], argTypes := at' }, ty, pos, af, g⟩).run Try.prog w = .ok (.enter 40 #[v0]) w := by
  simp only [execOp, resolve, List.map_toArray, List.map_cons, List.map_nil, ha.eval h0]
  simp [go_sem, Act.eval]
end
end Go.Proofs.Ytmaiiigijjfjfaa
set_option linter.unusedVariables false
set_option linter.unusedSimpArgs false
namespace Go.Proofs.Ytmaiiigijjfjfaa
open Go Go.RowKit
theorem agree_nat {σ : Sg} {t : Nat} {a b : Nat} (h : a = b) (hs : σ t = some (.int .i64 (a : Nat))) : σ t = some (.int .i64 (b : Nat)) := by rw [hs, h]
theorem own_old {w w' : World} {base e size n g : Nat} {v : Value} {xs : List Value} (h : w.ownsRow base e size v n xs) (hg : w.grownBy w' (some g)) (hne : ∀ k, v.ownBlock = some k → k ≠ g) : w'.ownsRow base e size v n xs :=
  h.kept hg (by
    rcases hv : v.ownBlock with _ | k
    · exact .inl rfl
    · exact .inr fun h' => hne k hv (Option.some.inj h'))
/-- what ring answers -/
def RingAns (c : Case) (l : List Int) (r : List Lnk) : Prop := ((rch c l (-1)).ring < 0 ∧ r = []) ∨ (0 ≤ (rch c l (-1)).ring ∧ ∃ v z K, Rg (linksOf c l) (nOf c) (rch c l (-1)) v z K ∧ r = rgL (linksOf c l) (rch c l (-1)) z K)
set_option maxHeartbeats 2000000 in
set_option maxRecDepth 100000 in
theorem ring_web {g : Nat} {c : Case} {l : List Int} (w : World) (hweb : WebAt w g c l) (hc : caseB c = true) (hcr : inCourse c l) :
    Calls Try.prog 40 #[.pointer (some ⟨g, 0, none⟩)] w fun e w' => (∃ v r, e = .returned v ∧ Rd w' w'.heap.size 3 v r.length (lnksC r) ∧ RingAns c l r) ∧ Below w.heap.size w w' := by
  have hub := hub_of hc hcr.neg
  have hox := rch_ok hc hcr (-1)
  have hnE := n_eq hc
  have hn29 : nOf c ≤ 29 := by have := caseB_ok hc; unfold nOf; omega
  have hn1 : 0 < nOf c := by unfold nOf; omega
  obtain ⟨hev, h8, _⟩ := caseB_ok hc
  obtain ⟨Ac, cc, vl_, AL, cL, hq, hrl⟩ := id hweb
  have hbw := Below.refl w.heap.size w
  refine EC.enter 58 Try.func40 rfl rfl rfl ?_
  refine EC.seq ?_
  refine EC.region ?_
  refine EL.val (x_assign rfl) rfl ?_
  refine EL.nil ?_
  refine EX.seq ?_
  refine EC.seq ?_
  refine EC.region ?_
  refine EL.val (x_move rfl) rfl ?_
  refine EL.call (cl_65 rfl rfl) rfl (reach_web (-1) _ hweb hc hcr) ?_
  rintro e w1_ ⟨⟨vM, vB, rfl, hM, hV⟩, hc1⟩
  refine ⟨_, rfl, ?_⟩
  replace hbw := Below.on hbw hc1 hbw.size
  clear hc1 hM
  obtain ⟨AV, cV, rfl, _⟩ := hV.shape
  have hb1 := Below.refl w1_.heap.size w1_
  refine EL.val (x_move rfl) rfl ?_
  refine EL.val (x_extract rfl rfl) rfl ?_
  refine EL.val (x_extract rfl rfl) rfl ?_
  refine EL.val (x_extract rfl rfl) rfl ?_
  refine EL.val (x_assign rfl) rfl ?_
  refine EL.val (x_assign rfl) rfl ?_
  refine EL.val (x_assign rfl) rfl ?_
  refine EL.nil ?_
  refine EX.seq ?_
  refine EC.seq ?_
  refine EC.seq ?_
  refine EC.region ?_
  refine EL.val (x_move rfl) rfl ?_
  by_cases hneg : (rch c l (-1)).ring < 0
  ·
    refine EL.val (x_lss rfl rfl (decide_eq_true hneg)) rfl ?_
    refine EL.nil ?_
    refine EX.seq ?_
    refine EC.yes rfl ?_
    refine EC.seq ?_
    refine EC.region ?_
    refine EL.val (x_assign rfl) rfl ?_
    refine EL.nil ?_
    refine EX.seq ?_
    refine EC.ret ?_
    refine EX.seq_ret ?_
    exact EX.done (res1 rfl rfl) ⟨⟨_, [], rfl, rd_nil, .inl ⟨hneg, rfl⟩⟩, hbw⟩
  ·
    obtain ⟨sR, esR⟩ : ∃ z, z = rch c l (-1) := ⟨_, rfl⟩
    rw [← esR] at hneg hV ⊢
    obtain ⟨v0, zz, K, hR⟩ := rg_of (by omega) (links_ok hc hcr) hub.ne (esR.trans rfl) (Int.not_lt.1 hneg)
    have hlv := hox.via
    rw [← esR] at hlv
    refine EL.val (x_lss rfl rfl (decide_eq_false hneg)) rfl ?_
    refine EL.nil ?_
    refine EX.seq ?_
    refine EC.no rfl ?_
    refine EC.skip ?_
    refine EX.seq ?_
    refine EC.seq ?_
    refine EC.seq ?_
    refine EC.region ?_
    refine EL.val (x_move rfl) rfl ?_
    refine EL.call (cl_66 rfl) rfl (many_as g _ (hq.below hbw hq.lt) (by omega) (by omega) hnE) ?_
    rintro e w2 ⟨rfl, hc2⟩
    refine ⟨_, rfl, ?_⟩
    replace hbw := Below.on hbw hc2 hbw.size
    replace hb1 := Below.on hb1 hc2 hb1.size
    clear hc2
    refine EL.val (x_move rfl) rfl ?_
    refine EL.nil ?_
    refine EX.seq ?_
    refine EC.block ?_
    refine EC.loopD [5, 18, 19, 20, 21, 22, 23, 24, 25, 26, 27, 28, 29, 30, 31] (fun x : Nat => [(5, .int .i64 ((back (linksOf c l) sR v0 x) : Nat)), (18, .int .i64 (x : Nat))]) (fun x W => x ≤ nOf c ∧ Below w.heap.size w W ∧ Below w1_.heap.size w1_ W) (fun x => nOf c - x) 0 ⟨Nat.zero_le _, hbw, hb1⟩ ⟨agree_of hR.ring rfl, rfl, trivial⟩ ?_
    clear hbw hb1
    rintro x wx ⟨hx, hbw, hb1⟩
    by_cases hxl : x < nOf c
    ·
      obtain ⟨u, eu⟩ : ∃ z, z = back (linksOf c l) sR v0 x := ⟨_, rfl⟩
      have hun : u < nOf c := by rw [eu, show back (linksOf c l) sR v0 x = back (linksOf c l) sR v0 x from rfl]; exact hR.lt _
      obtain ⟨hv0, hvm, hvt⟩ := (show 0 ≤ sR.via.getD u 0 ∧ (sR.via.getD u 0).toNat < (linksOf c l).length ∧ (lk (linksOf c l) sR u).to = u by rw [eu, show back (linksOf c l) sR v0 x = back (linksOf c l) sR v0 x from rfl]; exact hR.ok _)
      obtain ⟨m, em⟩ : ∃ m : Nat, sR.via.getD u 0 = m := ⟨(sR.via.getD u 0).toNat, by omega⟩
      rw [em, Int.toNat_natCast] at hvm
      obtain ⟨bv, ov, e_, _, cv⟩ := ints_cells sR.via u (by omega) _ _ _ _ _ hV
      subst e_
      rw [em] at cv
      obtain ⟨bl, ol, e_, _, l0, l1, l2⟩ := lnks_cells (linksOf c l) m hvm _ _ _ _ _ hrl
      subst e_
      have ey : lk (linksOf c l) sR u = (linksOf c l).getD m lnk0 := by rw [lk, em, Int.toNat_natCast]
      rw [← ey] at l0 l1 l2
      obtain ⟨y, ey2⟩ : ∃ y, y = lk (linksOf c l) sR u := ⟨_, rfl⟩
      rw [← ey2] at l0 l1 l2 hvt
      have hnx : back (linksOf c l) sR v0 (x + 1) = y.fr := by rw [ey2, eu]; rfl
      rw [← eu]
      refine EC.seq ?_
      refine EC.region ?_
      refine EL.val (x_lss rfl rfl (decide_eq_true (show ((x : Nat) : Int) < (nOf c : Nat) by omega))) rfl ?_
      refine EL.nil ?_
      refine EX.seq ?_
      refine EC.seq ?_
      refine EC.yes rfl ?_
      refine EC.skip ?_
      refine EX.seq ?_
      refine EC.seq ?_
      refine EC.block ?_
      refine EC.regionQ (by kernel_rfl) (by kernel_rfl) ?_
      refine EQ.val (fun _ hw => (x_move rfl)) rfl ?_
      refine EQ.val (fun _ hw => (x_nilCheck rfl)) rfl ?_
      refine EQ.val (fun _ hw => (fa_106_1 rfl)) rfl ?_
      refine EQ.val (fun _ hw => (ld_29 rfl (below_load hw (below_load hbw (hq.at (j := 3) rfl))))) rfl ?_
      refine EQ.val (fun _ hw => (x_move rfl)) rfl ?_
      refine EQ.val (fun _ hw => (x_move rfl)) rfl ?_
      refine EQ.val (fun _ hw => (ix_26 rfl rfl hun)) rfl ?_
      refine EQ.val (fun _ hw => (ld_3 rfl (below_load hw (below_load hb1 cv)))) rfl ?_
      refine EQ.val (fun _ hw => (ix_29 rfl rfl hvm)) rfl ?_
      refine EQ.val (fun _ hw => (fa_39_0 rfl)) rfl ?_
      refine EQ.val (fun _ hw => (ld_3 rfl (below_load hw (below_load hbw l0)))) rfl ?_
      refine EQ.val (fun _ hw => (x_assign rfl)) rfl ?_
      refine EQ.fin (fun w3 hw_ => ?_)
      replace hbw := Below.on hbw hw_ hbw.size
      replace hb1 := Below.on hb1 hw_ hb1.size
      clear hw_
      refine EX.blk ?_
      refine EX.seq ?_
      refine EC.region ?_
      refine EL.val (x_add rfl rfl (c := ((x + 1 : Nat) : Int)) ((IntWalk.i64_in _ ⟨by first | omega | (simp only; omega), by first | omega | (simp only; omega)⟩).trans (by first | omega | (simp only; omega)))) rfl ?_
      refine EL.val (x_move rfl) rfl ?_
      refine EL.nil ?_
      refine EX.roundD (x + 1) ⟨agree_nat hnx.symm rfl, rfl, trivial⟩ (by repeat first | with_reducible exact Sub.refl _ | refine sub_past rfl ?_ | exact Sub.refl _ | refine sub_del rfl ?_ | refine sub_insL_nil ?_) ⟨hxl, hbw, hb1⟩ (by omega)
    ·
      obtain rfl : x = nOf c := by omega
      refine EC.seq ?_
      refine EC.region ?_
      refine EL.val (x_lss rfl rfl (decide_eq_false (Int.lt_irrefl _))) rfl ?_
      refine EL.nil ?_
      refine EX.seq ?_
      refine EC.seq ?_
      refine EC.no rfl ?_
      refine EC.exit ?_
      refine EX.seq_exit ?_
      refine EX.seq_exit ?_
      refine EX.blk_here ?_
      refine EX.seq ?_
      refine EC.seq ?_
      refine EC.seq ?_
      refine EC.region ?_
      refine EL.val (x_move rfl) rfl ?_
      refine EL.val (x_assign rfl) rfl ?_
      refine EL.nil ?_
      refine EX.seq ?_
      refine EC.block ?_
      refine EC.loopD [2, 6, 7, 33, 34, 35, 36, 37, 38, 39, 40, 41, 42, 43, 44, 45, 46, 47, 48, 49, 50, 51, 52, 53, 54, 55, 56] (fun x : Nat × Value => [(2, x.2), (6, .int .i64 ((back (linksOf c l) sR zz x.1) : Nat))]) (fun x W => x.1 ≤ K ∧ W.ownsRow w1_.heap.size 39 3 x.2 x.1 (lnksC (rgL (linksOf c l) sR zz x.1)) ∧ Below w.heap.size w W ∧ Below w1_.heap.size w1_ W) (fun x => K - x.1) (0, .slice none 0 0) ⟨Nat.zero_le _, ⟨rfl, .inl ⟨rfl, rfl⟩⟩, hbw, hb1⟩ ⟨rfl, agree_nat hR.ez.symm rfl, trivial⟩ ?_
      clear hbw hb1
      rintro ⟨x, vl⟩ wx ⟨hx, ho, hbw, hb1⟩
      dsimp only at hx ho
      by_cases hxl : x < K
      ·
        have hzx : back (linksOf c l) sR zz x = back (linksOf c l) sR v0 (nOf c + x) := by rw [hR.ez, ← back_add]
        obtain ⟨AX, cX, rfl, _⟩ := (Rd.of_own ho).shape
        have htest : 0 < x → ¬back (linksOf c l) sR zz x = zz := fun h => hR.least x h hxl
        have hKn := hR.le
        obtain ⟨u, eu⟩ : ∃ z, z = back (linksOf c l) sR zz x := ⟨_, rfl⟩
        have hun : u < nOf c := by rw [eu, hzx]; exact hR.lt _
        obtain ⟨hv0, hvm, hvt⟩ := (show 0 ≤ sR.via.getD u 0 ∧ (sR.via.getD u 0).toNat < (linksOf c l).length ∧ (lk (linksOf c l) sR u).to = u by rw [eu, hzx]; exact hR.ok _)
        obtain ⟨m, em⟩ : ∃ m : Nat, sR.via.getD u 0 = m := ⟨(sR.via.getD u 0).toNat, by omega⟩
        rw [em, Int.toNat_natCast] at hvm
        obtain ⟨bv, ov, e_, _, cv⟩ := ints_cells sR.via u (by omega) _ _ _ _ _ hV
        subst e_
        rw [em] at cv
        obtain ⟨bl, ol, e_, _, l0, l1, l2⟩ := lnks_cells (linksOf c l) m hvm _ _ _ _ _ hrl
        subst e_
        have ey : lk (linksOf c l) sR u = (linksOf c l).getD m lnk0 := by rw [lk, em, Int.toNat_natCast]
        rw [← ey] at l0 l1 l2
        obtain ⟨y, ey2⟩ : ∃ y, y = lk (linksOf c l) sR u := ⟨_, rfl⟩
        rw [← ey2] at l0 l1 l2 hvt
        have hnx : back (linksOf c l) sR zz (x + 1) = y.fr := by rw [ey2, eu]; rfl
        have hrg : rgL (linksOf c l) sR zz (x + 1) = y :: rgL (linksOf c l) sR zz x := by rw [rgL, ← eu, ← ey2]
        rw [← eu] at htest ⊢
        refine EC.seq ?_
        refine EC.seq ?_
        refine EC.region ?_
        refine EL.val (x_move rfl) rfl ?_
        refine EL.val (ln_29 rfl) rfl ?_
        by_cases hx0 : x = 0
        ·
          refine EL.val (x_eql rfl rfl (decide_eq_true (show ((x : Nat) : Int) = 0 by omega))) rfl ?_
          refine EL.val (x_move rfl) rfl ?_
          refine EL.skip rfl rfl rfl rfl ?_
          refine EL.skip rfl rfl rfl rfl ?_
          refine EL.skip rfl rfl rfl rfl ?_
          refine EL.val (x_pick_t rfl rfl) rfl ?_
          refine EL.nil ?_
          refine EX.seq ?_
          refine EC.yes rfl ?_
          refine EC.skip ?_
          refine EX.seq ?_
          refine EC.block ?_
          refine EC.seq ?_
          have hol := fun k hk => (ho.lt k hk).2
          refine EC.regionP [[], [0], [0, 1], [0, 1, 2], [], [], [4, 5], [4, 5, 6], [0, 1, 2, 3, 4, 5, 6, 7], [0, 1, 2, 3, 4, 5, 6, 7, 8], [], [0, 1, 2, 3, 4, 5, 6, 7, 8, 9, 10]] 11 [10] (phi (fun i_ r => match i_ with | 0 => r 0 = .pointer (some ⟨g, 0, none⟩) | 1 => r 1 = .pointer (some ⟨g, 0, none⟩) | 2 => r 2 = .pointer (some ⟨g, 3, none⟩) | 3 => r 3 = .slice (some ⟨bl, ol, none⟩) (linksOf c l).length cL | 4 => r 4 = .slice (some ⟨bv, ov, none⟩) (nOf c) cV | 5 => r 5 = .int .i64 (u : Nat) | 6 => r 6 = .pointer (some ⟨bv, ov + u, none⟩) | 7 => r 7 = .int .i64 (m : Nat) | 8 => r 8 = .pointer (some ⟨bl, ol + m * 3, none⟩) | 9 => r 9 = .agg #[.int .i64 (y.fr : Nat), .int .i64 (y.to : Nat), .int .i64 y.most] | _ => True) [(10, fun r w_ => ∃ g_, r 10 = .pointer (some ⟨g_, 0, none⟩) ∧ Blk w_ g_ 39 #[.int .i64 0, .int .i64 0, .int .i64 0])]) (by kernel_rfl) rfl rfl (phi_cons mono_alloc (phi_nil)) (fun i_ hi_ => ?_) ?_
          · match i_, hi_ with
            | 0, _ =>
              intro val w1 a hb ha hd
              have ha := ha.sub (Sub.ins (d := 0) (Sub.nil _) rfl)
              exact hs_val ha rfl rfl (x_move rfl) rfl rfl
            | 1, _ =>
              intro val w1 a hb ha hd
              have e0 : val 0 = .pointer (some ⟨g, 0, none⟩) := hd 0 (memB_mem.1 rfl)
              have ha := ha.sub (Sub.ins (d := 41) (Sub.nil _) (dep_get rfl e0))
              exact hs_val ha rfl rfl (x_nilCheck rfl) rfl rfl
            | 2, _ =>
              intro val w1 a hb ha hd
              have e1 : val 1 = .pointer (some ⟨g, 0, none⟩) := hd 1 (memB_mem.1 rfl)
              have ha := ha.sub (Sub.ins (d := 42) (Sub.nil _) (dep_get rfl e1))
              exact hs_val ha rfl rfl (fa_106_1 rfl) rfl rfl
            | 3, _ =>
              intro val w1 a hb ha hd
              have e2 : val 2 = .pointer (some ⟨g, 3, none⟩) := hd 2 (memB_mem.1 rfl)
              have ha := ha.sub (Sub.ins (d := 43) (Sub.nil _) (dep_get rfl e2))
              exact hs_val ha rfl rfl (ld_29 rfl (below_load (Below.on hbw hb hbw.size) (hq.at (j := 3) rfl))) rfl rfl
            | 4, _ =>
              intro val w1 a hb ha hd
              have ha := ha.sub (Sub.ins (d := 4) (Sub.nil _) rfl)
              exact hs_val ha rfl rfl (x_move rfl) rfl rfl
            | 5, _ =>
              intro val w1 a hb ha hd
              have ha := ha.sub (Sub.ins (d := 6) (Sub.nil _) rfl)
              exact hs_val ha rfl rfl (x_move rfl) rfl rfl
            | 6, _ =>
              intro val w1 a hb ha hd
              have e4 : val 4 = .slice (some ⟨bv, ov, none⟩) (nOf c) cV := hd 4 (memB_mem.1 rfl)
              have e5 : val 5 = .int .i64 (u : Nat) := hd 5 (memB_mem.1 rfl)
              have ha := ha.sub (Sub.ins (d := 46) (Sub.ins (d := 45) (Sub.nil _) (dep_get rfl e4)) (dep_get rfl e5))
              exact hs_val ha rfl rfl (ix_26 rfl rfl hun) rfl rfl
            | 7, _ =>
              intro val w1 a hb ha hd
              have e6 : val 6 = .pointer (some ⟨bv, ov + u, none⟩) := hd 6 (memB_mem.1 rfl)
              have ha := ha.sub (Sub.ins (d := 47) (Sub.nil _) (dep_get rfl e6))
              exact hs_val ha rfl rfl (ld_3 rfl (below_load (Below.on hb1 hb hb1.size) cv)) rfl rfl
            | 8, _ =>
              intro val w1 a hb ha hd
              have e3 : val 3 = .slice (some ⟨bl, ol, none⟩) (linksOf c l).length cL := hd 3 (memB_mem.1 rfl)
              have e7 : val 7 = .int .i64 (m : Nat) := hd 7 (memB_mem.1 rfl)
              have ha := ha.sub (Sub.ins (d := 48) (Sub.ins (d := 44) (Sub.nil _) (dep_get rfl e3)) (dep_get rfl e7))
              exact hs_val ha rfl rfl (ix_29 rfl rfl hvm) rfl rfl
            | 9, _ =>
              intro val w1 a hb ha hd
              have e8 : val 8 = .pointer (some ⟨bl, ol + m * 3, none⟩) := hd 8 (memB_mem.1 rfl)
              have ha := ha.sub (Sub.ins (d := 49) (Sub.nil _) (dep_get rfl e8))
              exact hs_val ha rfl rfl (ld_39 rfl (below_load (Below.on hbw hb hbw.size) l0) (below_load (Below.on hbw hb hbw.size) l1) (below_load (Below.on hbw hb hbw.size) l2)) rfl rfl
            | 10, _ =>
              intro val w1 a hb ha hd
              have ha := ha.sub (Sub.nil _)
              exact hs_newP ha rfl rfl al_39 (fun g w' hq _ _ => ⟨g, rfl, hq⟩)
            | k + 11, h => exact absurd h (by omega)
          · intro val wR10 hb halc hd
            have e0 : val 0 = .pointer (some ⟨g, 0, none⟩) := hd 0 (by omega)
            have e1 : val 1 = .pointer (some ⟨g, 0, none⟩) := hd 1 (by omega)
            have e2 : val 2 = .pointer (some ⟨g, 3, none⟩) := hd 2 (by omega)
            have e3 : val 3 = .slice (some ⟨bl, ol, none⟩) (linksOf c l).length cL := hd 3 (by omega)
            have e4 : val 4 = .slice (some ⟨bv, ov, none⟩) (nOf c) cV := hd 4 (by omega)
            have e5 : val 5 = .int .i64 (u : Nat) := hd 5 (by omega)
            have e6 : val 6 = .pointer (some ⟨bv, ov + u, none⟩) := hd 6 (by omega)
            have e7 : val 7 = .int .i64 (m : Nat) := hd 7 (by omega)
            have e8 : val 8 = .pointer (some ⟨bl, ol + m * 3, none⟩) := hd 8 (by omega)
            have e9 : val 9 = .agg #[.int .i64 (y.fr : Nat), .int .i64 (y.to : Nat), .int .i64 y.most] := hd 9 (by omega)
            obtain ⟨ga10_10, e10, qa10_10⟩ := hd 10 (by omega)
            refine EL.ends (cs := [.pointer (some ⟨g, 0, none⟩), .pointer (some ⟨g, 0, none⟩), .pointer (some ⟨g, 3, none⟩), .slice (some ⟨bl, ol, none⟩) (linksOf c l).length cL, .slice (some ⟨bv, ov, none⟩) (nOf c) cV, .int .i64 (u : Nat), .pointer (some ⟨bv, ov + u, none⟩), .int .i64 (m : Nat), .pointer (some ⟨bl, ol + m * 3, none⟩), .agg #[.int .i64 (y.fr : Nat), .int .i64 (y.to : Nat), .int .i64 y.most], .pointer (some ⟨ga10_10, 0, none⟩)]) ⟨e0, e1, e2, e3, e4, e5, e6, e7, e8, e9, e10, trivial⟩ rfl ?_
            replace ho := own_below ho hb (Nat.le_refl _)
            have bge4 := alc_ge halc (i := 10) rfl rfl e10
            have bhbw_4 := Nat.le_trans hbw.size bge4
            have bhb1_4 := Nat.le_trans hb1.size bge4
            replace hbw := Below.on hbw hb hbw.size
            replace hb1 := Below.on hb1 hb hb1.size
            clear hb
            refine EL.store rfl rfl qa10_10 sz_39 rfl rfl rfl rfl ?_
            intro w5 hq5 hg5
            replace ho := own_old ho hg5 (fun k hk => by have h1 := hol k hk; have h2 := bge4; omega)
            replace hbw := below_store hbw hg5 bhbw_4
            replace hb1 := below_store hb1 hg5 bhb1_4
            replace qa10_10 := hq5
            clear hg5 hq5
            refine EL.nil ?_
            refine EX.seq ?_
            have lt_4 := qa10_10.lt
            refine EC.regionP [[], [0], [], [0, 1, 2], [], [4], [0, 1, 2, 3], [0, 1, 2, 3, 4, 5, 6]] 7 [] (phi (fun i_ r => match i_ with | 0 => r 0 = .agg #[.int .i64 (y.fr : Nat), .int .i64 (y.to : Nat), .int .i64 y.most] | 2 => r 2 = .slice AX x cX | 4 => r 4 = .pointer (some ⟨ga10_10, 0, none⟩) | 5 => r 5 = .int .i64 (y.fr : Nat) | _ => True) [(1, fun r w_ => ∃ g_, r 1 = .slice (some ⟨g_, 0, none⟩) 1 1 ∧ Blk w_ g_ 39 #[.int .i64 (y.fr : Nat), .int .i64 (y.to : Nat), .int .i64 y.most] ∧ w5.heap.size ≤ g_), (3, fun r w_ => ∃ v, r 3 = v ∧ w_.ownsRow w1_.heap.size 39 3 v (x + 1) ([.int .i64 (y.fr : Nat), .int .i64 (y.to : Nat), .int .i64 y.most] ++ lnksC (rgL (linksOf c l) sR zz x))), (6, fun r w_ => ∃ v, r 6 = v ∧ w_.ownsRow w1_.heap.size 39 3 v (x + 1) ([.int .i64 (y.fr : Nat), .int .i64 (y.to : Nat), .int .i64 y.most] ++ lnksC (rgL (linksOf c l) sR zz x)))]) (by kernel_rfl) rfl rfl (phi_cons mono_bs (phi_cons mono_row (phi_cons mono_row (phi_nil)))) (fun i_ hi_ => ?_) ?_
            · match i_, hi_ with
              | 0, _ =>
                intro val w1 a hb ha hd
                have ha := ha.sub (Sub.ins (d := 7) (Sub.nil _) rfl)
                exact hs_val ha rfl rfl (ld_39 rfl ((qa10_10.below hb qa10_10.lt).at (j := 0) rfl) ((qa10_10.below hb qa10_10.lt).at (j := 1) rfl) ((qa10_10.below hb qa10_10.lt).at (j := 2) rfl)) rfl rfl
              | 1, _ =>
                intro val w1 a hb ha hd
                have e0 : val 0 = .agg #[.int .i64 (y.fr : Nat), .int .i64 (y.to : Nat), .int .i64 y.most] := hd 0 (memB_mem.1 rfl)
                have ha := ha.sub (Sub.ins (d := 51) (Sub.nil _) (dep_get rfl e0))
                exact hs_newS ha rfl rfl (bs_29_1 rfl) rfl (fun g w' hq _ hge => ⟨g, rfl, hq, Nat.le_trans hb.size hge⟩)
              | 2, _ =>
                intro val w1 a hb ha hd
                have ha := ha.sub (Sub.ins (d := 2) (Sub.nil _) rfl)
                exact hs_val ha rfl rfl (x_move rfl) rfl rfl
              | 3, _ =>
                intro val w1 a hb ha hd
                obtain ⟨g1_, e1, q1_, h1_⟩ := hd 1 (memB_mem.1 rfl)
                change val 1 = _ at e1
                have e2 : val 2 = .slice AX x cX := hd 2 (memB_mem.1 rfl)
                have ha := ha.sub (Sub.ins (d := 53) (Sub.ins (d := 52) (Sub.nil _) (dep_get rfl e1)) (dep_get rfl e2))
                refine hs_full lnk_elem ha rfl rfl rfl (own_built (base := w1_.heap.size) (k := 1) (size := 3) q1_ rfl (by omega) (Nat.le_trans hb1.size h1_)) (Rd.of_own (own_below ho hb (Nat.le_refl _))) (lnksC_one _) (by have := hn29; omega) rfl (Nat.le_trans hb1.size hb.size) rfl ?_
                intro v' w' ho'
                exact ⟨v', rfl, by rw [Nat.add_comm] at ho'; exact ho'⟩
              | 4, _ =>
                intro val w1 a hb ha hd
                have ha := ha.sub (Sub.ins (d := 7) (Sub.nil _) rfl)
                exact hs_val ha rfl rfl (fa_39_0 rfl) rfl rfl
              | 5, _ =>
                intro val w1 a hb ha hd
                have e4 : val 4 = .pointer (some ⟨ga10_10, 0, none⟩) := hd 4 (memB_mem.1 rfl)
                have ha := ha.sub (Sub.ins (d := 55) (Sub.nil _) (dep_get rfl e4))
                exact hs_val ha rfl rfl (ld_3 rfl ((qa10_10.below hb qa10_10.lt).at (j := 0) rfl)) rfl rfl
              | 6, _ =>
                intro val w1 a hb ha hd
                obtain ⟨v3_, e3, ho3_⟩ := hd 3 (memB_mem.1 rfl)
                have ha := ha.sub (Sub.ins (d := 54) (Sub.nil _) (dep_get rfl e3))
                exact hs_val ha rfl rfl (x_assign rfl) ⟨_, rfl, ho3_⟩ rfl
              | k + 7, h => exact absurd h (by omega)
            · intro val wR11 hb halc hd
              have e0 : val 0 = .agg #[.int .i64 (y.fr : Nat), .int .i64 (y.to : Nat), .int .i64 y.most] := hd 0 (by omega)
              obtain ⟨ga1_11, e1, qa1_11, hga1_11⟩ := hd 1 (by omega)
              change val 1 = _ at e1
              change Blk wR11 ga1_11 39 #[.int .i64 (y.fr : Nat), .int .i64 (y.to : Nat), .int .i64 y.most] at qa1_11
              have e2 : val 2 = .slice AX x cX := hd 2 (by omega)
              obtain ⟨v3_, e3, ho3_⟩ := hd 3 (by omega)
              have e4 : val 4 = .pointer (some ⟨ga10_10, 0, none⟩) := hd 4 (by omega)
              have e5 : val 5 = .int .i64 (y.fr : Nat) := hd 5 (by omega)
              obtain ⟨v6_, e6, ho6_⟩ := hd 6 (by omega)
              refine EL.ends (cs := [.agg #[.int .i64 (y.fr : Nat), .int .i64 (y.to : Nat), .int .i64 y.most], .slice (some ⟨ga1_11, 0, none⟩) 1 1, .slice AX x cX, v3_, .pointer (some ⟨ga10_10, 0, none⟩), .int .i64 (y.fr : Nat), v6_]) ⟨e0, e1, e2, e3, e4, e5, e6, trivial⟩ rfl ?_
              replace qa10_10 := qa10_10.below hb qa10_10.lt
              replace ho := own_below ho hb (Nat.le_refl _)
              have n4_6 : ga10_10 ≠ ga1_11 := Nat.ne_of_lt (Nat.lt_of_lt_of_le lt_4 hga1_11)
              have bhbw_6 := Nat.le_trans hbw.size hga1_11
              have bhb1_6 := Nat.le_trans hb1.size hga1_11
              replace hbw := Below.on hbw hb hbw.size
              replace hb1 := Below.on hb1 hb hb1.size
              clear hb
              refine EL.val (x_assign rfl) rfl ?_
              refine EL.nil ?_
              refine EX.blk ?_
              refine EX.roundD (x + 1, _) ⟨rfl, agree_nat hnx.symm rfl, trivial⟩ (by repeat first | with_reducible exact Sub.refl _ | refine sub_past rfl ?_ | exact Sub.refl _ | refine sub_del rfl ?_ | refine sub_insL_nil ?_) ⟨hxl, by rw [hrg]; exact ho6_, hbw, hb1⟩ (by simp only; omega)
        ·
          refine EL.val (x_eql rfl rfl (decide_eq_false (show ¬((x : Nat) : Int) = 0 by omega))) rfl ?_
          refine EL.val (x_move rfl) rfl ?_
          refine EL.valg rfl rfl (x_move rfl) rfl ?_
          refine EL.valg rfl rfl (x_move rfl) rfl ?_
          refine EL.valg rfl rfl (x_neq rfl rfl (decide_eq_true (by rw [← hR.ez]; exact fun h => htest (by omega) (by omega)))) rfl ?_
          refine EL.val (x_pick_f rfl rfl) rfl ?_
          refine EL.nil ?_
          refine EX.seq ?_
          refine EC.yes rfl ?_
          refine EC.skip ?_
          refine EX.seq ?_
          refine EC.block ?_
          refine EC.seq ?_
          have hol := fun k hk => (ho.lt k hk).2
          refine EC.regionP [[], [0], [0, 1], [0, 1, 2], [], [], [4, 5], [4, 5, 6], [0, 1, 2, 3, 4, 5, 6, 7], [0, 1, 2, 3, 4, 5, 6, 7, 8], [], [0, 1, 2, 3, 4, 5, 6, 7, 8, 9, 10]] 11 [10] (phi (fun i_ r => match i_ with | 0 => r 0 = .pointer (some ⟨g, 0, none⟩) | 1 => r 1 = .pointer (some ⟨g, 0, none⟩) | 2 => r 2 = .pointer (some ⟨g, 3, none⟩) | 3 => r 3 = .slice (some ⟨bl, ol, none⟩) (linksOf c l).length cL | 4 => r 4 = .slice (some ⟨bv, ov, none⟩) (nOf c) cV | 5 => r 5 = .int .i64 (u : Nat) | 6 => r 6 = .pointer (some ⟨bv, ov + u, none⟩) | 7 => r 7 = .int .i64 (m : Nat) | 8 => r 8 = .pointer (some ⟨bl, ol + m * 3, none⟩) | 9 => r 9 = .agg #[.int .i64 (y.fr : Nat), .int .i64 (y.to : Nat), .int .i64 y.most] | _ => True) [(10, fun r w_ => ∃ g_, r 10 = .pointer (some ⟨g_, 0, none⟩) ∧ Blk w_ g_ 39 #[.int .i64 0, .int .i64 0, .int .i64 0])]) (by kernel_rfl) rfl rfl (phi_cons mono_alloc (phi_nil)) (fun i_ hi_ => ?_) ?_
          · match i_, hi_ with
            | 0, _ =>
              intro val w1 a hb ha hd
              have ha := ha.sub (Sub.ins (d := 0) (Sub.nil _) rfl)
              exact hs_val ha rfl rfl (x_move rfl) rfl rfl
            | 1, _ =>
              intro val w1 a hb ha hd
              have e0 : val 0 = .pointer (some ⟨g, 0, none⟩) := hd 0 (memB_mem.1 rfl)
              have ha := ha.sub (Sub.ins (d := 41) (Sub.nil _) (dep_get rfl e0))
              exact hs_val ha rfl rfl (x_nilCheck rfl) rfl rfl
            | 2, _ =>
              intro val w1 a hb ha hd
              have e1 : val 1 = .pointer (some ⟨g, 0, none⟩) := hd 1 (memB_mem.1 rfl)
              have ha := ha.sub (Sub.ins (d := 42) (Sub.nil _) (dep_get rfl e1))
              exact hs_val ha rfl rfl (fa_106_1 rfl) rfl rfl
            | 3, _ =>
              intro val w1 a hb ha hd
              have e2 : val 2 = .pointer (some ⟨g, 3, none⟩) := hd 2 (memB_mem.1 rfl)
              have ha := ha.sub (Sub.ins (d := 43) (Sub.nil _) (dep_get rfl e2))
              exact hs_val ha rfl rfl (ld_29 rfl (below_load (Below.on hbw hb hbw.size) (hq.at (j := 3) rfl))) rfl rfl
            | 4, _ =>
              intro val w1 a hb ha hd
              have ha := ha.sub (Sub.ins (d := 4) (Sub.nil _) rfl)
              exact hs_val ha rfl rfl (x_move rfl) rfl rfl
            | 5, _ =>
              intro val w1 a hb ha hd
              have ha := ha.sub (Sub.ins (d := 6) (Sub.nil _) rfl)
              exact hs_val ha rfl rfl (x_move rfl) rfl rfl
            | 6, _ =>
              intro val w1 a hb ha hd
              have e4 : val 4 = .slice (some ⟨bv, ov, none⟩) (nOf c) cV := hd 4 (memB_mem.1 rfl)
              have e5 : val 5 = .int .i64 (u : Nat) := hd 5 (memB_mem.1 rfl)
              have ha := ha.sub (Sub.ins (d := 46) (Sub.ins (d := 45) (Sub.nil _) (dep_get rfl e4)) (dep_get rfl e5))
              exact hs_val ha rfl rfl (ix_26 rfl rfl hun) rfl rfl
            | 7, _ =>
              intro val w1 a hb ha hd
              have e6 : val 6 = .pointer (some ⟨bv, ov + u, none⟩) := hd 6 (memB_mem.1 rfl)
              have ha := ha.sub (Sub.ins (d := 47) (Sub.nil _) (dep_get rfl e6))
              exact hs_val ha rfl rfl (ld_3 rfl (below_load (Below.on hb1 hb hb1.size) cv)) rfl rfl
            | 8, _ =>
              intro val w1 a hb ha hd
              have e3 : val 3 = .slice (some ⟨bl, ol, none⟩) (linksOf c l).length cL := hd 3 (memB_mem.1 rfl)
              have e7 : val 7 = .int .i64 (m : Nat) := hd 7 (memB_mem.1 rfl)
              have ha := ha.sub (Sub.ins (d := 48) (Sub.ins (d := 44) (Sub.nil _) (dep_get rfl e3)) (dep_get rfl e7))
              exact hs_val ha rfl rfl (ix_29 rfl rfl hvm) rfl rfl
            | 9, _ =>
              intro val w1 a hb ha hd
              have e8 : val 8 = .pointer (some ⟨bl, ol + m * 3, none⟩) := hd 8 (memB_mem.1 rfl)
              have ha := ha.sub (Sub.ins (d := 49) (Sub.nil _) (dep_get rfl e8))
              exact hs_val ha rfl rfl (ld_39 rfl (below_load (Below.on hbw hb hbw.size) l0) (below_load (Below.on hbw hb hbw.size) l1) (below_load (Below.on hbw hb hbw.size) l2)) rfl rfl
            | 10, _ =>
              intro val w1 a hb ha hd
              have ha := ha.sub (Sub.nil _)
              exact hs_newP ha rfl rfl al_39 (fun g w' hq _ _ => ⟨g, rfl, hq⟩)
            | k + 11, h => exact absurd h (by omega)
          · intro val wR10 hb halc hd
            have e0 : val 0 = .pointer (some ⟨g, 0, none⟩) := hd 0 (by omega)
            have e1 : val 1 = .pointer (some ⟨g, 0, none⟩) := hd 1 (by omega)
            have e2 : val 2 = .pointer (some ⟨g, 3, none⟩) := hd 2 (by omega)
            have e3 : val 3 = .slice (some ⟨bl, ol, none⟩) (linksOf c l).length cL := hd 3 (by omega)
            have e4 : val 4 = .slice (some ⟨bv, ov, none⟩) (nOf c) cV := hd 4 (by omega)
            have e5 : val 5 = .int .i64 (u : Nat) := hd 5 (by omega)
            have e6 : val 6 = .pointer (some ⟨bv, ov + u, none⟩) := hd 6 (by omega)
            have e7 : val 7 = .int .i64 (m : Nat) := hd 7 (by omega)
            have e8 : val 8 = .pointer (some ⟨bl, ol + m * 3, none⟩) := hd 8 (by omega)
            have e9 : val 9 = .agg #[.int .i64 (y.fr : Nat), .int .i64 (y.to : Nat), .int .i64 y.most] := hd 9 (by omega)
            obtain ⟨ga10_10, e10, qa10_10⟩ := hd 10 (by omega)
            refine EL.ends (cs := [.pointer (some ⟨g, 0, none⟩), .pointer (some ⟨g, 0, none⟩), .pointer (some ⟨g, 3, none⟩), .slice (some ⟨bl, ol, none⟩) (linksOf c l).length cL, .slice (some ⟨bv, ov, none⟩) (nOf c) cV, .int .i64 (u : Nat), .pointer (some ⟨bv, ov + u, none⟩), .int .i64 (m : Nat), .pointer (some ⟨bl, ol + m * 3, none⟩), .agg #[.int .i64 (y.fr : Nat), .int .i64 (y.to : Nat), .int .i64 y.most], .pointer (some ⟨ga10_10, 0, none⟩)]) ⟨e0, e1, e2, e3, e4, e5, e6, e7, e8, e9, e10, trivial⟩ rfl ?_
            replace ho := own_below ho hb (Nat.le_refl _)
            have bge7 := alc_ge halc (i := 10) rfl rfl e10
            have bhbw_7 := Nat.le_trans hbw.size bge7
            have bhb1_7 := Nat.le_trans hb1.size bge7
            replace hbw := Below.on hbw hb hbw.size
            replace hb1 := Below.on hb1 hb hb1.size
            clear hb
            refine EL.store rfl rfl qa10_10 sz_39 rfl rfl rfl rfl ?_
            intro w8 hq8 hg8
            replace ho := own_old ho hg8 (fun k hk => by have h1 := hol k hk; have h2 := bge7; omega)
            replace hbw := below_store hbw hg8 bhbw_7
            replace hb1 := below_store hb1 hg8 bhb1_7
            replace qa10_10 := hq8
            clear hg8 hq8
            refine EL.nil ?_
            refine EX.seq ?_
            have lt_7 := qa10_10.lt
            refine EC.regionP [[], [0], [], [0, 1, 2], [], [4], [0, 1, 2, 3], [0, 1, 2, 3, 4, 5, 6]] 7 [] (phi (fun i_ r => match i_ with | 0 => r 0 = .agg #[.int .i64 (y.fr : Nat), .int .i64 (y.to : Nat), .int .i64 y.most] | 2 => r 2 = .slice AX x cX | 4 => r 4 = .pointer (some ⟨ga10_10, 0, none⟩) | 5 => r 5 = .int .i64 (y.fr : Nat) | _ => True) [(1, fun r w_ => ∃ g_, r 1 = .slice (some ⟨g_, 0, none⟩) 1 1 ∧ Blk w_ g_ 39 #[.int .i64 (y.fr : Nat), .int .i64 (y.to : Nat), .int .i64 y.most] ∧ w8.heap.size ≤ g_), (3, fun r w_ => ∃ v, r 3 = v ∧ w_.ownsRow w1_.heap.size 39 3 v (x + 1) ([.int .i64 (y.fr : Nat), .int .i64 (y.to : Nat), .int .i64 y.most] ++ lnksC (rgL (linksOf c l) sR zz x))), (6, fun r w_ => ∃ v, r 6 = v ∧ w_.ownsRow w1_.heap.size 39 3 v (x + 1) ([.int .i64 (y.fr : Nat), .int .i64 (y.to : Nat), .int .i64 y.most] ++ lnksC (rgL (linksOf c l) sR zz x)))]) (by kernel_rfl) rfl rfl (phi_cons mono_bs (phi_cons mono_row (phi_cons mono_row (phi_nil)))) (fun i_ hi_ => ?_) ?_
            · match i_, hi_ with
              | 0, _ =>
                intro val w1 a hb ha hd
                have ha := ha.sub (Sub.ins (d := 7) (Sub.nil _) rfl)
                exact hs_val ha rfl rfl (ld_39 rfl ((qa10_10.below hb qa10_10.lt).at (j := 0) rfl) ((qa10_10.below hb qa10_10.lt).at (j := 1) rfl) ((qa10_10.below hb qa10_10.lt).at (j := 2) rfl)) rfl rfl
              | 1, _ =>
                intro val w1 a hb ha hd
                have e0 : val 0 = .agg #[.int .i64 (y.fr : Nat), .int .i64 (y.to : Nat), .int .i64 y.most] := hd 0 (memB_mem.1 rfl)
                have ha := ha.sub (Sub.ins (d := 51) (Sub.nil _) (dep_get rfl e0))
                exact hs_newS ha rfl rfl (bs_29_1 rfl) rfl (fun g w' hq _ hge => ⟨g, rfl, hq, Nat.le_trans hb.size hge⟩)
              | 2, _ =>
                intro val w1 a hb ha hd
                have ha := ha.sub (Sub.ins (d := 2) (Sub.nil _) rfl)
                exact hs_val ha rfl rfl (x_move rfl) rfl rfl
              | 3, _ =>
                intro val w1 a hb ha hd
                obtain ⟨g1_, e1, q1_, h1_⟩ := hd 1 (memB_mem.1 rfl)
                change val 1 = _ at e1
                have e2 : val 2 = .slice AX x cX := hd 2 (memB_mem.1 rfl)
                have ha := ha.sub (Sub.ins (d := 53) (Sub.ins (d := 52) (Sub.nil _) (dep_get rfl e1)) (dep_get rfl e2))
                refine hs_full lnk_elem ha rfl rfl rfl (own_built (base := w1_.heap.size) (k := 1) (size := 3) q1_ rfl (by omega) (Nat.le_trans hb1.size h1_)) (Rd.of_own (own_below ho hb (Nat.le_refl _))) (lnksC_one _) (by have := hn29; omega) rfl (Nat.le_trans hb1.size hb.size) rfl ?_
                intro v' w' ho'
                exact ⟨v', rfl, by rw [Nat.add_comm] at ho'; exact ho'⟩
              | 4, _ =>
                intro val w1 a hb ha hd
                have ha := ha.sub (Sub.ins (d := 7) (Sub.nil _) rfl)
                exact hs_val ha rfl rfl (fa_39_0 rfl) rfl rfl
              | 5, _ =>
                intro val w1 a hb ha hd
                have e4 : val 4 = .pointer (some ⟨ga10_10, 0, none⟩) := hd 4 (memB_mem.1 rfl)
                have ha := ha.sub (Sub.ins (d := 55) (Sub.nil _) (dep_get rfl e4))
                exact hs_val ha rfl rfl (ld_3 rfl ((qa10_10.below hb qa10_10.lt).at (j := 0) rfl)) rfl rfl
              | 6, _ =>
                intro val w1 a hb ha hd
                obtain ⟨v3_, e3, ho3_⟩ := hd 3 (memB_mem.1 rfl)
                have ha := ha.sub (Sub.ins (d := 54) (Sub.nil _) (dep_get rfl e3))
                exact hs_val ha rfl rfl (x_assign rfl) ⟨_, rfl, ho3_⟩ rfl
              | k + 7, h => exact absurd h (by omega)
            · intro val wR11 hb halc hd
              have e0 : val 0 = .agg #[.int .i64 (y.fr : Nat), .int .i64 (y.to : Nat), .int .i64 y.most] := hd 0 (by omega)
              obtain ⟨ga1_11, e1, qa1_11, hga1_11⟩ := hd 1 (by omega)
              change val 1 = _ at e1
              change Blk wR11 ga1_11 39 #[.int .i64 (y.fr : Nat), .int .i64 (y.to : Nat), .int .i64 y.most] at qa1_11
              have e2 : val 2 = .slice AX x cX := hd 2 (by omega)
              obtain ⟨v3_, e3, ho3_⟩ := hd 3 (by omega)
              have e4 : val 4 = .pointer (some ⟨ga10_10, 0, none⟩) := hd 4 (by omega)
              have e5 : val 5 = .int .i64 (y.fr : Nat) := hd 5 (by omega)
              obtain ⟨v6_, e6, ho6_⟩ := hd 6 (by omega)
              refine EL.ends (cs := [.agg #[.int .i64 (y.fr : Nat), .int .i64 (y.to : Nat), .int .i64 y.most], .slice (some ⟨ga1_11, 0, none⟩) 1 1, .slice AX x cX, v3_, .pointer (some ⟨ga10_10, 0, none⟩), .int .i64 (y.fr : Nat), v6_]) ⟨e0, e1, e2, e3, e4, e5, e6, trivial⟩ rfl ?_
              replace qa10_10 := qa10_10.below hb qa10_10.lt
              replace ho := own_below ho hb (Nat.le_refl _)
              have n7_9 : ga10_10 ≠ ga1_11 := Nat.ne_of_lt (Nat.lt_of_lt_of_le lt_7 hga1_11)
              have bhbw_9 := Nat.le_trans hbw.size hga1_11
              have bhb1_9 := Nat.le_trans hb1.size hga1_11
              replace hbw := Below.on hbw hb hbw.size
              replace hb1 := Below.on hb1 hb hb1.size
              clear hb
              refine EL.val (x_assign rfl) rfl ?_
              refine EL.nil ?_
              refine EX.blk ?_
              refine EX.roundD (x + 1, _) ⟨rfl, agree_nat hnx.symm rfl, trivial⟩ (by repeat first | with_reducible exact Sub.refl _ | refine sub_past rfl ?_ | exact Sub.refl _ | refine sub_del rfl ?_ | refine sub_insL_nil ?_) ⟨hxl, by rw [hrg]; exact ho6_, hbw, hb1⟩ (by simp only; omega)
      ·
        obtain rfl : x = K := by omega
        have hp := hR.pos
        obtain ⟨AX, cX, rfl, _⟩ := (Rd.of_own ho).shape
        have hzz := hR.hK
        refine EC.seq ?_
        refine EC.seq ?_
        refine EC.region ?_
        refine EL.val (x_move rfl) rfl ?_
        refine EL.val (ln_29 rfl) rfl ?_
        refine EL.val (x_eql rfl rfl (decide_eq_false (show ¬((x : Nat) : Int) = 0 by omega))) rfl ?_
        refine EL.val (x_move rfl) rfl ?_
        refine EL.valg rfl rfl (x_move rfl) rfl ?_
        refine EL.valg rfl rfl (x_move rfl) rfl ?_
        refine EL.valg rfl rfl (x_neq (r := false) rfl rfl (by rw [hzz, ← hR.ez]; simp)) rfl ?_
        refine EL.val (x_pick_f rfl rfl) rfl ?_
        refine EL.nil ?_
        refine EX.seq ?_
        refine EC.no rfl ?_
        refine EC.exit ?_
        refine EX.seq_exit ?_
        refine EX.seq_exit ?_
        refine EX.blk_here ?_
        refine EX.seq ?_
        refine EC.seq ?_
        refine EC.region ?_
        refine EL.val (x_move rfl) rfl ?_
        refine EL.val (x_assign rfl) rfl ?_
        refine EL.nil ?_
        refine EX.seq ?_
        refine EC.ret ?_
        exact EX.done (res1 rfl rfl) ⟨⟨_, _, rfl, by rw [rgL_len]; exact Rd.of_own ho, .inr ⟨esR ▸ Int.not_lt.1 hneg, v0, zz, x, esR ▸ hR, by rw [esR]⟩⟩, hbw⟩
def proofErr (c : Case) (l : List Int) : Int := if startErr c l ≠ 0 then startErr c l else if (rch c l (-1)).ring < 0 then 9 else 0
theorem proof_start {c : Case} {l : List Int} (h : startErr c l ≠ 0) : proofErr c l = startErr c l := if_pos h
theorem proof_fit {c : Case} {l : List Int} (h : startErr c l = 0) (hn : (rch c l (-1)).ring < 0) : proofErr c l = 9 := by rw [proofErr, if_neg (by omega), if_pos hn]
theorem proof_ok {c : Case} {l : List Int} (h : startErr c l = 0) (hn : ¬(rch c l (-1)).ring < 0) : proofErr c l = 0 := by rw [proofErr, if_neg (by omega), if_neg hn]
theorem RingAns.resolve_right_nil {c : Case} {l : List Int} {r : List Lnk} (h : RingAns c l r) (hn : (rch c l (-1)).ring < 0) : r = [] := by
  rcases h with ⟨_, h⟩ | ⟨h, _⟩
  · exact h
  · omega
theorem RingAns.ok {c : Case} {l : List Int} {r : List Lnk} (h : RingAns c l r) (hne : ∀ k, k < (linksOf c l).length → ((linksOf c l).getD k lnk0).fr ≠ ((linksOf c l).getD k lnk0).to) (hn : ¬(rch c l (-1)).ring < 0) : RingOk (linksOf c l) (nOf c) r := by
  rcases h with ⟨h, _⟩ | ⟨_, v, z, K, h, rfl⟩
  · exact absurd h hn
  · exact ring_ok hne h
theorem RingAns.pos {c : Case} {l : List Int} {r : List Lnk} (h : RingAns c l r) (hne : ∀ k, k < (linksOf c l).length → ((linksOf c l).getD k lnk0).fr ≠ ((linksOf c l).getD k lnk0).to) (hn : ¬(rch c l (-1)).ring < 0) : 0 < r.length := by
  have := (h.ok hne hn).two
  omega
set_option maxHeartbeats 2000000 in
theorem proof_any (c : Case) (vc vl : Value) (vs : List Value) (w : World) (B : Nat) (hr : RdCase w B vc vl c vs) (hB : B ≤ w.heap.size) (hn1 : c.clocks.length ≤ 1073741824) (hn2 : c.clues.length ≤ 1073741824) (l : List Int) (vi : Value) (hrl : Rd w B 1 vi l.length (ints l)) (hnl : l.length ≤ 1073741824) :
    Calls Try.prog 13 #[.agg #[.int .i64 c.events, vc, vl], vi] w fun e w' => (∃ v r, e = .returned (.tuple #[v, .int .i64 (proofErr c l)]) ∧ Rd w' w'.heap.size 3 v r.length (lnksC r) ∧ (proofErr c l ≠ 0 → r = []) ∧ (proofErr c l = 0 → ¬(rch c l (-1)).ring < 0 ∧ RingAns c l r)) ∧ Below w.heap.size w w' := by
  obtain ⟨Ac, cc_, rfl, _⟩ := hr.clocks.shape
  obtain ⟨Al, cl_, rfl, _⟩ := hr.clues.rd.shape
  obtain ⟨Ai, ci_, rfl, _⟩ := hrl.shape
  have hbw := Below.refl w.heap.size w
  refine EC.enter 22 Try.func13 rfl rfl rfl ?_
  refine EC.seq ?_
  refine EC.region ?_
  refine EL.newP (bx_25 rfl) rfl ?_
  intro g1 w1 q1 hb1 hg1 hl1
  have bhbw_1 := Nat.le_trans hbw.size hg1
  replace hbw := Below.on hbw hb1 hbw.size
  clear hb1 hg1 hl1
  refine EL.val (x_assign rfl) rfl ?_
  refine EL.val (x_assign rfl) rfl ?_
  refine EL.nil ?_
  refine EX.seq ?_
  refine EC.seq ?_
  refine EC.seq ?_
  refine EC.region ?_
  refine EL.val (ld_25 rfl (q1.at (j := 0) rfl) (q1.at (j := 1) rfl) (q1.at (j := 2) rfl)) rfl ?_
  refine EL.val (x_move rfl) rfl ?_
  refine EL.call (cl_38 rfl rfl) rfl (checkCourse_any c _ _ vs _ B (hr.below (hbw.mono hB)) (Nat.le_trans hB hbw.size) hn1 hn2 l _ (hrl.below (hbw.mono hB)) hnl) ?_
  rintro e w2 ⟨rfl, hc2⟩
  refine ⟨_, rfl, ?_⟩
  replace q1 := q1.below hc2 q1.lt
  replace hbw := Below.on hbw hc2 hbw.size
  clear hc2
  refine EL.val (x_assign rfl) rfl ?_
  refine EL.nil ?_
  refine EX.seq ?_
  refine EC.seq ?_
  refine EC.region ?_
  refine EL.val (x_move rfl) rfl ?_
  by_cases hst : startErr c l = 0
  ·
    obtain ⟨hc, hlen, _, hcr⟩ := start_ok hst
    refine EL.val (x_neq (r := false) rfl rfl (by simp [hst])) rfl ?_
    refine EL.nil ?_
    refine EX.seq ?_
    refine EC.no rfl ?_
    refine EC.skip ?_
    refine EX.seq ?_
    refine EC.seq ?_
    refine EC.region ?_
    refine EL.val (ld_25 rfl (q1.at (j := 0) rfl) (q1.at (j := 1) rfl) (q1.at (j := 2) rfl)) rfl ?_
    refine EL.val (x_move rfl) rfl ?_
    refine EL.call (cl_39 rfl rfl) rfl (open_web c _ _ vs _ B (hr.below (hbw.mono hB)) (Nat.le_trans hB hbw.size) hn1 hn2 l _ (hrl.below (hbw.mono hB)) hnl hc hcr) ?_
    rintro e w3 ⟨⟨gw, rfl, hweb⟩, hc3⟩
    refine ⟨_, rfl, ?_⟩
    replace q1 := q1.below hc3 q1.lt
    replace hbw := Below.on hbw hc3 hbw.size
    clear hc3
    refine EL.call (cl_40 rfl) rfl (ring_web _ hweb hc hcr) ?_
    rintro e w4 ⟨⟨vR, rr, rfl, hRd, hAns⟩, hc4⟩
    refine ⟨_, rfl, ?_⟩
    replace q1 := q1.below hc4 q1.lt
    replace hbw := Below.on hbw hc4 hbw.size
    clear hc4 hweb
    obtain ⟨AR, cR, rfl, _⟩ := hRd.shape
    refine EL.val (x_assign rfl) rfl ?_
    refine EL.nil ?_
    refine EX.seq ?_
    refine EC.seq ?_
    refine EC.seq ?_
    refine EC.region ?_
    refine EL.val (x_move rfl) rfl ?_
    refine EL.val (ln_29 rfl) rfl ?_
    by_cases hneg : (rch c l (-1)).ring < 0
    ·
      have hrr : rr = [] := hAns.resolve_right_nil hneg
      subst hrr
      refine EL.val (x_eql rfl rfl (decide_eq_true (by rfl))) rfl ?_
      refine EL.nil ?_
      refine EX.seq ?_
      refine EC.yes rfl ?_
      refine EC.seq ?_
      refine EC.region ?_
      refine EL.val (x_assign rfl) rfl ?_
      refine EL.val (x_assign rfl) rfl ?_
      refine EL.nil ?_
      refine EX.seq ?_
      refine EC.ret ?_
      refine EX.seq_ret ?_
      exact EX.done (res2 rfl rfl rfl) ⟨⟨_, [], by rw [proof_fit hst hneg], rd_nil, fun _ => rfl, fun h => absurd (proof_fit hst hneg ▸ h) (by decide)⟩, hbw⟩
    ·
      have hpos := hAns.pos (hub_of hc hcr.neg).ne hneg
      refine EL.val (x_eql rfl rfl (decide_eq_false (show ¬((rr.length : Nat) : Int) = 0 by omega))) rfl ?_
      refine EL.nil ?_
      refine EX.seq ?_
      refine EC.no rfl ?_
      refine EC.skip ?_
      refine EX.seq ?_
      refine EC.seq ?_
      refine EC.region ?_
      refine EL.val (x_move rfl) rfl ?_
      refine EL.val (x_assign rfl) rfl ?_
      refine EL.val (x_assign rfl) rfl ?_
      refine EL.nil ?_
      refine EX.seq ?_
      refine EC.ret ?_
      exact EX.done (res2 rfl rfl rfl) ⟨⟨_, rr, by rw [proof_ok hst hneg], hRd, fun h => absurd (proof_ok hst hneg) h, fun _ => ⟨hneg, hAns⟩⟩, hbw⟩
  ·
    refine EL.val (x_neq (r := true) rfl rfl (decide_eq_true hst)) rfl ?_
    refine EL.nil ?_
    refine EX.seq ?_
    refine EC.yes rfl ?_
    refine EC.seq ?_
    refine EC.region ?_
    refine EL.val (x_move rfl) rfl ?_
    refine EL.val (x_assign rfl) rfl ?_
    refine EL.val (x_assign rfl) rfl ?_
    refine EL.nil ?_
    refine EX.seq ?_
    refine EC.ret ?_
    refine EX.seq_ret ?_
    exact EX.done (res2 rfl rfl rfl) ⟨⟨_, [], by rw [(proof_start hst)], rd_nil, fun _ => rfl, fun h => absurd (proof_start hst ▸ h) hst⟩, hbw⟩
end Go.Proofs.Ytmaiiigijjfjfaa
