/- W32, TruthWay, W17, W26, W29, W9: what RiverTruthsProof needs of them (merged by trimpack.py). -/
import Derived.Test.YtncnlhkmdljgpaaTruthsT1
set_option linter.unusedVariables false
set_option linter.unusedSimpArgs false
namespace Go.Proofs.Ytncnlhkmdljgpaa
open Go Go.RowKit
/-- the flow of a reach in an hour of a truth -/
def trF (l : List Reach) (sides : List (List Bd)) (bs ss : List Int) : Nat → Int → Int
  | 0, h => if h < 0 then pickI (l.getD 0 reach0).base (partI bs 0) else pickI ((sides.getD 0 []).getD h.toNat bd0) (partI ss h.toNat)
  | i + 1, h => if h < 0 then pickI (l.getD (i + 1) reach0).base (partI bs (i + 1)) else pickI ((sides.getD (i + 1) []).getD h.toNat bd0) (partI ss (7 * (i + 1) + h.toNat)) + trF l sides bs ss i (h - (l.getD i reach0).delay)
theorem trF_neg (l : List Reach) (sides : List (List Bd)) (bs ss : List Int) (i : Nat) {h : Int} (hh : h < 0) : trF l sides bs ss i h = pickI (l.getD i reach0).base (partI bs i) := by
  cases i <;> rw [trF, if_pos hh]
theorem trF_zero (l : List Reach) (sides : List (List Bd)) (bs ss : List Int) (h : Nat) : trF l sides bs ss 0 (h : Int) = pickI ((sides.getD 0 []).getD h bd0) (partI ss (7 * 0 + h)) := by
  rw [trF, if_neg (by omega)]; simp
theorem trF_step (l : List Reach) (sides : List (List Bd)) (bs ss : List Int) (i h : Nat) : trF l sides bs ss (i + 1) (h : Int) = pickI ((sides.getD (i + 1) []).getD h bd0) (partI ss (7 * (i + 1) + h)) + trF l sides bs ss i ((h : Int) - (l.getD i reach0).delay) := by
  rw [trF, if_neg (by omega)]; simp
theorem trF_bd {r : River} {sides : List (List Bd)} {bs ss : List Int} (hS : StartOk r sides) (h1 : ∀ y ∈ bs, 0 ≤ y ∧ y ≤ 255) (h2 : ∀ y ∈ ss, 0 ≤ y ∧ y ≤ 255) : ∀ (i : Nat) (t : Int), i < r.reaches.length → t < (sides.getD 0 []).length → (flowIn r.reaches sides i t).lo ≤ trF r.reaches sides bs ss i t ∧ trF r.reaches sides bs ss i t ≤ (flowIn r.reaches sides i t).hi
  | 0, t, hi, ht => by
    have hm := hS.many
    by_cases hn : t < 0
    · rw [flowIn_neg _ _ _ hn, trF_neg _ _ _ _ _ hn]
      have := (hS.river.reach 0 hi).base
      have hp := part_bd h1 0
      exact pick_bd this.2.1 hp.1 hp.2
    · obtain ⟨n, rfl⟩ : ∃ n : Nat, t = n := ⟨t.toNat, (Int.toNat_of_nonneg (by omega)).symm⟩
      rw [flowIn_zero, trF_zero]
      have := hS.side 0 n (by omega) (by omega)
      have hp := part_bd h2 (7 * 0 + n)
      exact pick_bd this.2.1 hp.1 hp.2
  | i + 1, t, hi, ht => by
    have hm := hS.many
    by_cases hn : t < 0
    · rw [flowIn_neg _ _ _ hn, trF_neg _ _ _ _ _ hn]
      have := (hS.river.reach (i + 1) hi).base
      have hp := part_bd h1 (i + 1)
      exact pick_bd this.2.1 hp.1 hp.2
    · obtain ⟨n, rfl⟩ : ∃ n : Nat, t = n := ⟨t.toNat, (Int.toNat_of_nonneg (by omega)).symm⟩
      rw [flowIn_step, trF_step]
      have h3 := hS.side (i + 1) n (by omega) (by omega)
      have hp := part_bd h2 (7 * (i + 1) + n)
      have h4 := pick_bd (b := (sides.getD (i + 1) []).getD n bd0) h3.2.1 hp.1 hp.2
      have hd := (hS.river.reach i (by omega)).delay
      have ih := trF_bd hS h1 h2 i ((n : Int) - (r.reaches.getD i reach0).delay) (by omega) (by omega)
      show (_ : Int) + _ ≤ _ ∧ _ ≤ (_ : Int) + _
      omega
set_option maxHeartbeats 8000000 in
set_option maxRecDepth 100000 in
theorem truly_any (rv : River) (sides : List (List Bd)) (v u s : Value) (vs ss : List Value) (bs zs es gs : List Int) (vb v2 ve vg : Value) (x : Int) (i : Nat) (k : Int) (w : World) (B : Nat) (hr : RdRiver w B v u rv vs) (hs : RdSides w B s sides ss) (hB : B ≤ w.heap.size) (hw1 : Rd w B 1 vb bs.length (u8s bs)) (hw2 : Rd w B 1 v2 zs.length (u8s zs)) (hw3 : Rd w B 1 ve es.length (u8s es)) (hw4 : Rd w B 1 vg gs.length (u8s gs)) (hv1 : ∀ y ∈ bs, 0 ≤ y ∧ y ≤ 255) (hv2 : ∀ y ∈ zs, 0 ≤ y ∧ y ≤ 255) (hn1 : bs.length ≤ 9223372036854775807) (hn2 : zs.length ≤ 9223372036854775807) (hS : StartOk rv sides) (hi : i < rv.reaches.length) (hk0 : 0 ≤ k) (hk : k < (((sides.getD 0 []).length : Nat) : Int)) :
    Calls Try.prog 55 #[.agg #[v, u, s], .agg #[vb, v2, ve, vg, .int .u8 x], .int .i64 (i : Nat), .int .i64 k] w fun e w' => e = .returned (.int .i64 (trF rv.reaches sides bs zs i k)) ∧ Below w.heap.size w w' := by
  have hhr := hS.hours
  have hmany := hS.many
  have hsm := hS.river.some
  obtain ⟨A, c, rfl, _⟩ := hr.reaches.shape
  obtain ⟨A', c', rfl, _⟩ := hr.shoals.shape
  obtain ⟨D, d, rfl, _⟩ := hs.rd.shape
  have hbw := Below.refl w.heap.size w
  obtain ⟨bS, oS, rfl, _, hsa⟩ := sides_all hs (by omega)
  obtain ⟨bR, oR, rfl, _, _⟩ := reaches_cells hr.reaches 0 (by omega)
  obtain ⟨Ab, cb, rfl, _⟩ := hw1.shape
  obtain ⟨As2, cs2, rfl, _⟩ := hw2.shape
  obtain ⟨Ae, ce, rfl, _⟩ := hw3.shape
  obtain ⟨Ag, cg, rfl, _⟩ := hw4.shape
  refine EC.enter 58 Try.func55 rfl rfl rfl ?_
  refine EC.seq ?_
  refine EC.region ?_
  refine EL.newP (bx_54 rfl) rfl ?_
  intro g1 w1 q1 hb1 hg1 hl1
  have bhbw_1 := Nat.le_trans hbw.size hg1
  replace hbw := Below.on hbw hb1 hbw.size
  clear hb1 hg1 hl1
  refine EL.newP (bx_40 rfl) rfl ?_
  intro g2 w2 q2 hb2 hg2 hl2
  have n1_2 : g1 ≠ g2 := Nat.ne_of_lt (Nat.lt_of_lt_of_le q1.lt hg2)
  have bhbw_2 := Nat.le_trans hbw.size hg2
  replace q1 := q1.below hb2 q1.lt
  replace hbw := Below.on hbw hb2 hbw.size
  clear hb2 hg2 hl2
  refine EL.val (x_assign rfl) rfl ?_
  refine EL.nil ?_
  refine EX.seq ?_
  refine EC.seq ?_
  refine EC.region ?_
  refine EL.val (x_assign rfl) rfl ?_
  refine EL.nil ?_
  refine EX.seq ?_
  refine EC.block ?_
  refine EC.loopD [2, 3, 8, 9, 10, 11, 12, 13, 14, 15, 16, 17, 18, 19, 20, 21, 22, 23, 24, 25, 26, 27, 28, 29, 30, 31, 32, 33, 34, 35, 36, 37, 38, 39, 40, 41, 42, 43, 44, 45, 46, 47, 48, 49, 50, 51, 52, 53, 54, 55, 56, 57] (fun y : Nat × Int × Int => [(2, .int .i64 (y.1 : Nat)), (3, .int .i64 y.2.1), (9, .int .i64 y.2.2)]) (fun y W => y.1 ≤ i ∧ y.2.1 < (((sides.getD 0 []).length : Nat) : Int) ∧ -100000 ≤ y.2.1 + 200 * (i : Int) - 200 * (y.1 : Int) + 100000 ∧ 0 ≤ y.2.2 ∧ y.2.2 ≤ ((i : Int) - (y.1 : Int)) * 10000000000 ∧ y.2.2 + (trF rv.reaches sides bs zs y.1 y.2.1) = (trF rv.reaches sides bs zs i k) ∧ Blk W g1 54 #[.slice (some ⟨bR, oR, none⟩) rv.reaches.length c, .slice A' rv.shoals.length c', .slice (some ⟨bS, oS, none⟩) sides.length d] ∧ Blk W g2 40 #[.slice Ab bs.length cb, .slice As2 zs.length cs2, .slice Ae es.length ce, .slice Ag gs.length cg, .int .u8 x] ∧ Below w.heap.size w W) (fun y => y.1) (i, k, 0) ⟨Nat.le_refl _, by simp only; omega, by simp only; omega, by simp only; omega, by simp only; omega, by simp only; omega, q1, q2, hbw⟩ ⟨rfl, rfl, rfl, trivial⟩ ?_
  clear q1 q2 hbw
  rintro ⟨j, h, m⟩ wr ⟨hj, hh, hlow, hm0, hm1, hsum, q1, q2, hbw⟩
  simp only at hj hh hlow hm0 hm1 hsum
  obtain ⟨br_, or_, eo_, _, cc⟩ := reaches_cells hr.reaches j (by omega)
  injection eo_ with eo_
  injection eo_ with eo1 eo2
  subst eo1
  subst eo2
  have hrj := hS.river.reach j (by omega)
  have hb0 := hrj.base
  have hdl := hrj.delay
  by_cases hneg : h < 0
  ·
    rw [trF_neg _ _ _ _ _ hneg] at hsum
    have pp := part_bd hv1 j
    have pk := pick_bd (b := (rv.reaches.getD j reach0).base) hb0.2.1 pp.1 pp.2
    refine EC.block ?_
    refine EC.seq ?_
    refine EC.seq ?_
    refine EC.region ?_
    refine EL.val (x_move rfl) rfl ?_
    refine EL.val (x_lss rfl rfl (by first | assumption | exact decide_eq_true (by omega))) rfl ?_
    refine EL.nil ?_
    refine EX.seq ?_
    refine EC.yes rfl ?_
    refine EC.seq ?_
    refine EC.regionQ (by kernel_rfl) (by kernel_rfl) ?_
    refine EQ.val (fun _ hw => (x_move rfl)) rfl ?_
    refine EQ.val (fun _ hw => (fa_54_0 rfl)) rfl ?_
    refine EQ.val (fun _ hw => (fa_47_0 rfl)) rfl ?_
    refine EQ.val (fun _ hw => (ld_44 rfl (below_load hw (q1.at (j := 0) rfl)))) rfl ?_
    refine EQ.val (fun _ hw => (x_move rfl)) rfl ?_
    refine EQ.val (fun _ hw => (ix_44 rfl rfl (by omega))) rfl ?_
    refine EQ.val (fun _ hw => (fa_50_2 rfl)) rfl ?_
    refine EQ.val (fun _ hw => (ld_23 rfl (below_load hw (below_load hbw cc.c2)) (below_load hw (below_load hbw cc.c3)))) rfl ?_
    refine EQ.val (fun _ hw => (fa_40_0 rfl)) rfl ?_
    refine EQ.val (fun _ hw => (ld_38 rfl (below_load hw (q2.at (j := 0) rfl)))) rfl ?_
    refine EQ.val (fun _ hw => (x_move rfl)) rfl ?_
    refine EQ.call (fun _ _ _ ha => cl_22 rfl rfl _ ha) rfl (fun W hw => (part_any bs _ j W B (hw1.below ((hbw.trans (hw.mono hbw.size)).mono hB)) (by omega)).mono fun e w' h => ⟨h.1, hw.trans (h.2.mono hw.size)⟩) ?_
    refine EQ.call (fun _ _ _ ha => cl_21 rfl rfl _ ha) rfl (fun W hw => (pick_any (rv.reaches.getD j reach0).base _ W (by omega) (by omega) (by omega) pp).mono fun e w' h => ⟨h.1, hw.trans (h.2.mono hw.size)⟩) ?_
    refine EQ.val (fun _ hw => (x_add rfl rfl (IntWalk.i64_in _ ⟨by first | omega | (simp only; omega), by first | omega | (simp only; omega)⟩))) rfl ?_
    refine EQ.val (fun _ hw => (x_assign rfl)) rfl ?_
    refine EQ.fin (fun w3 hw_ => ?_)
    replace q1 := q1.below hw_ q1.lt
    replace q2 := q2.below hw_ q2.lt
    replace hbw := Below.on hbw hw_ hbw.size
    clear hw_
    refine EX.seq ?_
    refine EC.ret ?_
    refine EX.seq_ret ?_
    refine EX.blk_ret ?_
    refine EX.seq_ret ?_
    refine EX.blk_ret ?_
    exact EX.done (res1 rfl rfl) ⟨by rw [← hsum], hbw⟩
  ·
    obtain ⟨t, rfl⟩ : ∃ t : Nat, h = t := ⟨h.toNat, (Int.toNat_of_nonneg (by omega)).symm⟩
    have hsd := hS.side j t (by omega) (by omega)
    have pp := part_bd hv2 (7 * j + t)
    have pk := pick_bd (b := (sides.getD j []).getD t bd0) hsd.2.1 pp.1 pp.2
    obtain ⟨bS0, oS0, eo_, _, xS⟩ := sides_cell hs j (by omega)
    injection eo_ with eo_
    injection eo_ with eo1 eo2
    subst eo1
    subst eo2
    have rS := hs.side j (by omega)
    rw [hS.same j (by omega)] at rS
    obtain ⟨AS1, cS1, eS1, _⟩ := rS.shape
    rw [eS1] at xS rS
    obtain ⟨bS1, oS1, rfl, _, yS, zS⟩ := bds_cells _ t (by rw [hS.same j (by omega)]; omega) _ _ _ _ _ rS
    refine EC.block ?_
    refine EC.seq ?_
    refine EC.seq ?_
    refine EC.region ?_
    refine EL.val (x_move rfl) rfl ?_
    refine EL.val (x_lss rfl rfl (by first | assumption | exact decide_eq_false (by omega))) rfl ?_
    refine EL.nil ?_
    refine EX.seq ?_
    refine EC.no rfl ?_
    refine EC.skip ?_
    refine EX.seq ?_
    refine EC.seq ?_
    refine EC.regionQ (by kernel_rfl) (by kernel_rfl) ?_
    refine EQ.val (fun _ hw => (x_move rfl)) rfl ?_
    refine EQ.val (fun _ hw => (fa_54_1 rfl)) rfl ?_
    refine EQ.val (fun _ hw => (ld_52 rfl (below_load hw (q1.at (j := 2) rfl)))) rfl ?_
    refine EQ.val (fun _ hw => (x_move rfl)) rfl ?_
    refine EQ.val (fun _ hw => (ix_52 rfl rfl (by omega))) rfl ?_
    refine EQ.val (fun _ hw => (ld_28 rfl (below_load hw (below_load hbw xS)))) rfl ?_
    refine EQ.val (fun _ hw => (x_move rfl)) rfl ?_
    refine EQ.val (fun _ hw => (ix_28 rfl rfl (by omega))) rfl ?_
    refine EQ.val (fun _ hw => (ld_23 rfl (below_load hw (below_load hbw yS)) (below_load hw (below_load hbw zS)))) rfl ?_
    refine EQ.val (fun _ hw => (fa_40_1 rfl)) rfl ?_
    refine EQ.val (fun _ hw => (ld_38 rfl (below_load hw (q2.at (j := 1) rfl)))) rfl ?_
    refine EQ.val (fun _ hw => (x_move rfl)) rfl ?_
    refine EQ.val (fun _ hw => (x_mul rfl rfl (c := ((7 * j : Nat) : Int)) ((IntWalk.i64_in _ ⟨by first | omega | (simp only; omega), by first | omega | (simp only; omega)⟩).trans (by first | omega | (simp only; omega))))) rfl ?_
    refine EQ.val (fun _ hw => (x_move rfl)) rfl ?_
    refine EQ.val (fun _ hw => (x_add rfl rfl (c := ((7 * j + t : Nat) : Int)) ((IntWalk.i64_in _ ⟨by first | omega | (simp only; omega), by first | omega | (simp only; omega)⟩).trans (by first | omega | (simp only; omega))))) rfl ?_
    refine EQ.call (fun _ _ _ ha => cl_22 rfl rfl _ ha) rfl (fun W hw => (part_any zs _ (7 * j + t) W B (hw2.below ((hbw.trans (hw.mono hbw.size)).mono hB)) (by omega)).mono fun e w' h => ⟨h.1, hw.trans (h.2.mono hw.size)⟩) ?_
    refine EQ.call (fun _ _ _ ha => cl_21 rfl rfl _ ha) rfl (fun W hw => (pick_any ((sides.getD j []).getD t bd0) _ W (by omega) (by omega) (by omega) pp).mono fun e w' h => ⟨h.1, hw.trans (h.2.mono hw.size)⟩) ?_
    refine EQ.val (fun _ hw => (x_add rfl rfl (IntWalk.i64_in _ ⟨by first | omega | (simp only; omega), by first | omega | (simp only; omega)⟩))) rfl ?_
    refine EQ.val (fun _ hw => (x_assign rfl)) rfl ?_
    refine EQ.fin (fun w4 hw_ => ?_)
    replace q1 := q1.below hw_ q1.lt
    replace q2 := q2.below hw_ q2.lt
    replace hbw := Below.on hbw hw_ hbw.size
    clear hw_
    refine EX.seq ?_
    refine EC.seq ?_
    refine EC.seq ?_
    refine EC.region ?_
    refine EL.val (x_move rfl) rfl ?_
    by_cases hj0 : j = 0
    ·
      subst hj0
      rw [trF_zero] at hsum
      refine EL.val (x_eql rfl rfl (by first | assumption | exact decide_eq_true (by omega))) rfl ?_
      refine EL.nil ?_
      refine EX.seq ?_
      refine EC.yes rfl ?_
      refine EC.seq ?_
      refine EC.region ?_
      refine EL.val (x_move rfl) rfl ?_
      refine EL.val (x_assign rfl) rfl ?_
      refine EL.nil ?_
      refine EX.seq ?_
      refine EC.ret ?_
      refine EX.seq_ret ?_
      refine EX.blk_ret ?_
      refine EX.seq_ret ?_
      refine EX.blk_ret ?_
      exact EX.done (res1 rfl rfl) ⟨by rw [← hsum], hbw⟩
    ·
      obtain ⟨j, rfl⟩ : ∃ j0, j = j0 + 1 := ⟨j - 1, by omega⟩
      rw [trF_step] at hsum
      obtain ⟨br_, or_, eo_, _, cd⟩ := reaches_cells hr.reaches j (by omega)
      injection eo_ with eo_
      injection eo_ with eo1 eo2
      subst eo1
      subst eo2
      have hdj := (hS.river.reach j (by omega)).delay
      refine EL.val (x_eql rfl rfl (by first | assumption | exact decide_eq_false (by omega))) rfl ?_
      refine EL.nil ?_
      refine EX.seq ?_
      refine EC.no rfl ?_
      refine EC.skip ?_
      refine EX.seq ?_
      refine EC.seq ?_
      refine EC.region ?_
      refine EL.val (x_move rfl) rfl ?_
      refine EL.val (x_sub rfl rfl (c := (j : Int)) ((IntWalk.i64_in _ ⟨by first | omega | (simp only; omega), by first | omega | (simp only; omega)⟩).trans (by first | omega | (simp only; omega)))) rfl ?_
      refine EL.val (x_assign rfl) rfl ?_
      refine EL.nil ?_
      refine EX.seq ?_
      refine EC.region ?_
      refine EL.val (x_move rfl) rfl ?_
      refine EL.val (fa_54_0 rfl) rfl ?_
      refine EL.val (fa_47_0 rfl) rfl ?_
      refine EL.val (ld_44 rfl (q1.at (j := 0) rfl)) rfl ?_
      refine EL.val (x_move rfl) rfl ?_
      refine EL.val (ix_44 rfl rfl (by omega)) rfl ?_
      refine EL.val (fa_50_1 rfl) rfl ?_
      refine EL.val (ld_3 rfl (below_load hbw cd.c1)) rfl ?_
      refine EL.val (x_sub rfl rfl (IntWalk.i64_in _ ⟨by first | omega | (simp only; omega), by first | omega | (simp only; omega)⟩)) rfl ?_
      refine EL.val (x_assign rfl) rfl ?_
      refine EL.nil ?_
      refine EX.blk ?_
      refine EX.roundD (j, (t : Int) - (rv.reaches.getD j reach0).delay, m + pickI ((sides.getD (j + 1) []).getD t bd0) (partI zs (7 * (j + 1) + t))) ⟨rfl, rfl, rfl, trivial⟩ (by repeat first | exact Sub.refl _ | refine sub_past rfl ?_ | refine sub_del rfl ?_ | refine sub_insL_nil ?_) ⟨by simp only; omega, by simp only; omega, by simp only; omega, by simp only; omega, by simp only; omega, by simp only; omega, q1, q2, hbw⟩ (by simp only; omega)
end Go.Proofs.Ytncnlhkmdljgpaa
set_option linter.unusedVariables false
set_option linter.unusedSimpArgs false
namespace Go.Proofs.Ytncnlhkmdljgpaa
open Go Go.RowKit
/-- the least so far, -1 at first -/
def mnF (f : Nat → Int) : Nat → Int
  | 0 => -1
  | n + 1 => if mnF f n < 0 ∨ f n < mnF f n then f n else mnF f n
theorem mnF_all {f : Nat → Int} {N : Nat} (hf : ∀ j, j < N → 0 ≤ f j) : ∀ {n : Nat}, n ≤ N → (n = 0 ∧ mnF f n = -1) ∨ (0 ≤ mnF f n ∧ (∃ j, j < n ∧ mnF f n = f j) ∧ ∀ j, j < n → mnF f n ≤ f j)
  | 0, _ => .inl ⟨rfl, rfl⟩
  | n + 1, hn => by
    have hfn := hf n (by omega)
    right
    rw [mnF]
    rcases mnF_all hf (n := n) (by omega) with ⟨h1, h2⟩ | ⟨h1, ⟨j, h2, h3⟩, h4⟩
    · rw [if_pos (by omega)]
      exact ⟨hfn, ⟨n, by omega, rfl⟩, fun j hj => by obtain rfl : j = n := by omega
                                                     exact Int.le_refl _⟩
    · by_cases hc : f n < mnF f n
      · rw [if_pos (.inr hc)]
        refine ⟨hfn, ⟨n, by omega, rfl⟩, fun j hj => ?_⟩
        by_cases e : j = n
        · subst e; exact Int.le_refl _
        · have := h4 j (by omega); omega
      · rw [if_neg (by omega)]
        refine ⟨h1, ⟨j, by omega, h3⟩, fun j hj => ?_⟩
        by_cases e : j = n
        · subst e; omega
        · exact h4 j (by omega)
section
variable {rv : River} {sides : List (List Bd)} {l : List Pass} {bs zs es gs : List Int}
/-- the hour of a pass in a truth -/
def tHour (zs : List Int) (l : List Pass) (j : Nat) : Int := pickI (l.getD j pass0).hours (partI zs j)
def tReach (rv : River) (l : List Pass) (j : Nat) : Nat := reachOf rv.reaches (l.getD j pass0).place
def tFlow (rv : River) (sides : List (List Bd)) (bs zs : List Int) (l : List Pass) (j : Nat) : Int := trF rv.reaches sides bs zs (tReach rv l j) (tHour zs l j)
def tLevel (rv : River) (sides : List (List Bd)) (bs zs : List Int) (l : List Pass) (j : Nat) : Bd := levelAt (rv.reaches.getD (tReach rv l j) reach0) ⟨tFlow rv sides bs zs l j, tFlow rv sides bs zs l j⟩
def tTop (rv : River) (zs es gs : List Int) (l : List Pass) (j : Nat) : Int := trTop rv es gs (l.getD j pass0).place (tHour zs l j) rv.shoals.length
def upF (rv : River) (sides : List (List Bd)) (bs zs es gs : List Int) (l : List Pass) (j : Nat) : Int := max 0 (24 * (tLevel rv sides bs zs l j).hi - tTop rv zs es gs l j)
def loF (rv : River) (sides : List (List Bd)) (bs zs es gs : List Int) (l : List Pass) (j : Nat) : Int := max 0 (24 * (tLevel rv sides bs zs l j).lo - tTop rv zs es gs l j)
theorem tHour_in (hS : StartOk rv sides) (hw : WayOk rv sides l) (hv2 : ∀ y ∈ zs, 0 ≤ y ∧ y ≤ 255) {j : Nat} (hj : j < l.length) : ∃ m : Nat, m < hoursN (l.getD j pass0).hours ∧ tHour zs l j = (l.getD j pass0).hours.lo + (m : Nat) ∧ 0 ≤ tHour zs l j ∧ tHour zs l j < (((sides.getD 0 []).length : Nat) : Int) ∧ inB 0 (placesOf rv.reaches - 1) (l.getD j pass0).place = true := by
  obtain ⟨h1, h2⟩ := hw.ok j hj
  have h2 := bdOk_iff.1 h2
  have h3 := hoursN_eq h2.2.1
  have p := part_bd hv2 j
  have hb := pick_bd (b := (l.getD j pass0).hours) h2.2.1 p.1 p.2
  unfold tHour
  refine ⟨(pickI (l.getD j pass0).hours (partI zs j) - (l.getD j pass0).hours.lo).toNat, by omega, by omega, by omega, by omega, h1⟩
theorem truth_pass (hS : StartOk rv sides) (hw : WayOk rv sides l) (hv1 : ∀ y ∈ bs, 0 ≤ y ∧ y ≤ 255) (hv2 : ∀ y ∈ zs, 0 ≤ y ∧ y ≤ 255) (hv3 : ∀ y ∈ es, 0 ≤ y ∧ y ≤ 255) (hv4 : ∀ y ∈ gs, 0 ≤ y ∧ y ≤ 255) {j : Nat} (hj : j < l.length) :
    24 * (depthAt rv sides (l.getD j pass0).place (tHour zs l j)).lo ≤ upF rv sides bs zs es gs l j ∧ loF rv sides bs zs es gs l j ≤ 24 * (depthAt rv sides (l.getD j pass0).place (tHour zs l j)).hi := by
  obtain ⟨m, _, _, h3, h4, h5⟩ := tHour_in (zs := zs) hS hw hv2 hj
  have hp := inB_iff.1 h5
  have hlt := reachOf_lt rv.reaches (l.getD j pass0).place (by omega) (by omega)
  have hf := trF_bd hS hv1 hv2 (tReach rv l j) (tHour zs l j) hlt h4
  have h := truth_depth hS hv3 hv4 (by omega) (by omega) h4 hf.1 hf.2
  have hd := depth_bd hS (p := (l.getD j pass0).place) (t := tHour zs l j) (by omega) (by omega) h3 h4
  unfold upF loF tLevel tTop tFlow
  refine ⟨h.1, ?_⟩
  have h2 := h.2
  unfold tReach at h2 ⊢
  omega
/-- where the way's High comes from -/
theorem shUp_from (hS : StartOk rv sides) (hw : WayOk rv sides l) : ∀ {j : Nat}, j ≤ l.length → (j = 0 ∧ (shUp rv sides l j).hi = 1000000) ∨ ∃ i, i < j ∧ ∀ m, m < hoursN (l.getD i pass0).hours → (depthAt rv sides (l.getD i pass0).place ((l.getD i pass0).hours.lo + (m : Nat))).hi ≤ (shUp rv sides l j).hi
  | 0, _ => .inl ⟨rfl, rfl⟩
  | j + 1, hj => by
    right
    have hge := (mxN_ge (D := depthAt rv sides (l.getD j pass0).place) (k0 := (l.getD j pass0).hours.lo) (a := 0) (n := hoursN (l.getD j pass0).hours)).2
    have hb : ∀ m, m < hoursN (l.getD j pass0).hours → (depthAt rv sides (l.getD j pass0).place ((l.getD j pass0).hours.lo + (m : Nat))).hi ≤ 30000 := fun m hm => by
      obtain ⟨h1, h2⟩ := hw.ok j (by omega)
      have h1 := inB_iff.1 h1
      have h2 := bdOk_iff.1 h2
      have h3 := hoursN_eq h2.2.1
      exact (depth_bd hS (by omega) (by omega) (by omega) (by omega)).2.2
    rw [shUp_hi]
    rcases shUp_from hS hw (j := j) (by omega) with ⟨h1, h2⟩ | ⟨i, h1, h2⟩
    · refine ⟨j, by omega, fun m hm => ?_⟩
      have a1 := hge m hm
      have a2 := hb m hm
      omega
    · rcases Int.le_total (shUp rv sides l j).hi (mxN (depthAt rv sides (l.getD j pass0).place) (l.getD j pass0).hours.lo 0 (hoursN (l.getD j pass0).hours)) with hle | hle
      · exact ⟨i, by omega, fun m hm => by have := h2 m hm; omega⟩
      · exact ⟨j, by omega, fun m hm => by have := hge m hm; omega⟩
theorem truth_way (hS : StartOk rv sides) (hw : WayOk rv sides l) (hv1 : ∀ y ∈ bs, 0 ≤ y ∧ y ≤ 255) (hv2 : ∀ y ∈ zs, 0 ≤ y ∧ y ≤ 255) (hv3 : ∀ y ∈ es, 0 ≤ y ∧ y ≤ 255) (hv4 : ∀ y ∈ gs, 0 ≤ y ∧ y ≤ 255) :
    24 * (shUp rv sides l l.length).lo ≤ mnF (upF rv sides bs zs es gs l) l.length ∧ mnF (loF rv sides bs zs es gs l) l.length ≤ 24 * (shUp rv sides l l.length).hi := by
  have hs := hw.some
  have hu := mnF_all (f := upF rv sides bs zs es gs l) (N := l.length) (fun j _ => by unfold upF; omega) (Nat.le_refl _)
  have hl := mnF_all (f := loF rv sides bs zs es gs l) (N := l.length) (fun j _ => by unfold loF; omega) (Nat.le_refl _)
  constructor
  · rcases hu with ⟨h, _⟩ | ⟨_, ⟨j, hj, e⟩, _⟩
    · omega
    · obtain ⟨m, hm, e2, _⟩ := tHour_in (zs := zs) hS hw hv2 hj
      obtain ⟨_, _, _, _, _, _, hall⟩ := way_best hS hw
      have h1 := (hall j m ⟨hj, hm⟩).1
      have h2 := (truth_pass hS hw hv1 hv2 hv3 hv4 hj).1
      rw [e2] at h2
      omega
  · rcases hl with ⟨h, _⟩ | ⟨_, _, hall⟩
    · omega
    · rcases shUp_from hS hw (Nat.le_refl _) with ⟨h, _⟩ | ⟨i, hi, h⟩
      · omega
      · obtain ⟨m, hm, e2, _⟩ := tHour_in (zs := zs) hS hw hv2 hi
        have h1 := h m hm
        have h2 := (truth_pass hS hw hv1 hv2 hv3 hv4 hi).2
        have h3 := hall i hi
        rw [e2] at h2
        omega
end
end Go.Proofs.Ytncnlhkmdljgpaa
set_option linter.unusedVariables false
set_option linter.unusedSimpArgs false
namespace Go.Proofs.Ytncnlhkmdljgpaa
open Go Go.RowKit
section
variable {rv : River} {sides : List (List Bd)} {i a b : Int}
end
theorem hours_bel {w : World} {B g : Nat} {r : River} {sides : List (List Bd)} {v u vf : Value} {vs fs : List Value} (h : StreamOk w B g r sides v u vf vs fs) :
    Calls Try.prog 77 #[.pointer (some ⟨g, 0, none⟩)] w fun e w' => e = .returned (.int .i64 (sides.getD 0 []).length) ∧ Below w.heap.size w w' :=
  (hours_any h).mono fun e w' h => ⟨h.1, by rw [← h.2]; exact Below.refl _ _⟩
end Go.Proofs.Ytncnlhkmdljgpaa
set_option linter.unusedVariables false
set_option linter.unusedSimpArgs false
namespace Go.Proofs.Ytncnlhkmdljgpaa
open Go Go.RowKit
section
variable {n : Nat} {σ : Sg} {w : World} {P : Program}
theorem resc3 {fn : Func} {c s r q : Tmp} {t : TypeId} {p : Addr} {v u x y : Value} (h : fn.results = #[.cell c t, .tmp s, .tmp r, .tmp q]) (hc : σ c = some (.pointer (some p))) (hs : σ s = some u) (hr : σ r = some x) (hq : σ q = some y) (hl : (loadVar t p).run P w = .ok v w) (a : Act) (ha : Env n σ a) : (results fn a.tmps).run P w = .ok (.tuple #[v, u, x, y]) w := by
  have h1 : a.tmps.getD c undef = .pointer (some p) := ha.eval (x := .tmp c) hc
  have h2 : a.tmps.getD s undef = u := ha.eval (x := .tmp s) hs
  have h3 : a.tmps.getD r undef = x := ha.eval (x := .tmp r) hr
  have h4 : a.tmps.getD q undef = y := ha.eval (x := .tmp q) hq
  rw [Array.getD_eq_getD_getElem?] at h1 h2 h3 h4
  simp [results, h, h1, h2, h3, h4, asAddr, hl]
end
theorem place_info : (Try.prog.info? 129).map (fun i => (i.zero, i.size, i.bytes)) = some (some (.agg #[.int .i64 0, .int .i64 0, .int .i64 0, .int .i64 0, .slice none 0 0, .int .i64 0, .int .i64 0, .int .i64 0, .int .i64 0, .int .i64 0, .slice none 0 0]), 11, 120) := by kernel_rfl
theorem place_elem : Elem Try.prog 145 129 11 120 := Elem.mk' Try.underlying145 place_info rfl (by omega)
/-- a block that rows do not use -/
def RowsOff (vf : Value) (fs : List Value) (g : Nat) : Prop := vf.ownBlock ≠ some g ∧ ∀ v ∈ fs, v.ownBlock ≠ some g
section
variable {w w' : World} {base e osize n tb size g : Nat} {vf : Value} {outer : List Value} {fs : List Value} {F : List (Nat × List Value)}
theorem Rows.off_of (h : Rows w base e osize vf n outer tb size fs F) (hg : ∀ k, (base ≤ k ∧ k < w.heap.size) → k ≠ g) : RowsOff vf fs g := by
  refine ⟨fun h1 => hg g (h.own.lt g h1) rfl, fun v hv h1 => ?_⟩
  obtain ⟨i, hi, e⟩ := List.getElem_of_mem hv
  have h2 := h.each i (by rw [← h.len]; exact hi)
  rw [show fs.getD i undef = v by simp [hi, e]] at h2
  exact hg g (h2.lt g h1) rfl
theorem Rows.off_ge (h : Rows w base e osize vf n outer tb size fs F) (hg : w.heap.size ≤ g) : RowsOff vf fs g := h.off_of fun k hk e => by omega
theorem Rows.off_lt (h : Rows w base e osize vf n outer tb size fs F) (hg : g < base) : RowsOff vf fs g := h.off_of fun k hk e => by omega
theorem Rows.keepOff (h : Rows w base e osize vf n outer tb size fs F) (ho : RowsOff vf fs g) (hg : w.grownBy w' (some g)) : Rows w' base e osize vf n outer tb size fs F := by
  have key : ∀ {u : Value} {b t s k : Nat} {ys : List Value}, w.ownsRow b t s u k ys → u.ownBlock ≠ some g → w'.ownsRow b t s u k ys := fun hu hne => hu.kept hg (.inr fun h => hne h)
  refine ⟨key h.own ho.1, h.len, fun i hi => key (h.each i hi) (ho.2 _ ?_), h.apart⟩
  rw [← h.len] at hi
  exact getD_mem hi
theorem Stream.below {v u : Value} {F : List (List Bd)} (h : Stream w base g v u vf fs F) (hb : Below w.heap.size w w') : Stream w' base g v u vf fs F := ⟨h.blk.below hb h.blk.lt, h.rows.below hb⟩
theorem Stream.keepOff {v u : Value} {F : List (List Bd)} {k : Nat} (h : Stream w base g v u vf fs F) (ho : RowsOff vf fs k ∧ g ≠ k) (hg : w.grownBy w' (some k)) : Stream w' base g v u vf fs F := ⟨h.blk.grown hg (fun e => ho.2 (Option.some.inj e)), h.rows.keepOff ho.1 hg⟩
theorem Stream.off_ge {v u : Value} {F : List (List Bd)} {k : Nat} (h : Stream w base g v u vf fs F) (hk : w.heap.size ≤ k) : RowsOff vf fs k ∧ g ≠ k := ⟨h.rows.off_ge hk, Nat.ne_of_lt (Nat.lt_of_lt_of_le h.blk.lt hk)⟩
theorem Stream.off_lt {v u : Value} {F : List (List Bd)} {k : Nat} (h : Stream w (g + 1) g v u vf fs F) (hk : k < g) : RowsOff vf fs k ∧ g ≠ k := ⟨h.rows.off_lt (by omega), by omega⟩
theorem stream_ok {rv : River} {sides : List (List Bd)} {v u : Value} {vs : List Value} {b B : Nat} (hO : StartOk rv sides) (h : Stream w b g v u vf fs (flowsUp rv.reaches sides sides.length)) (hr : RdRiver w B v u rv vs) (hB : B ≤ w.heap.size) : StreamOk w w.heap.size g rv sides v u vf vs fs :=
  ⟨hO, h.blk, h.blk.lt, hr.more hB, h.sides⟩
end
theorem place_cells {rv : River} {l : List Pass} {ps : List (Value × Value)} (hps : ps.length = l.length) (k : Nat) (hk : k < l.length) (w : World) (B : Nat) (A : Option Addr) (n c : Nat) (hr : Rd w B 11 (.slice A n c) n ((l.zip ps).flatMap (placeC rv))) :
    ∃ b off, A = some ⟨b, off, none⟩ ∧ b < B ∧ k < n ∧ ∀ j v, j < 11 → (placeC rv (l.getD k pass0, ps.getD k (undef, undef)))[j]? = some v → w.cell? ⟨b, off + k * 11 + j, none⟩ = some v := by
  have hz : (l.zip ps).length = l.length := by simp [hps]
  have hl : n * 11 = l.length * 11 := by rw [← hr.len, flat_len (placeC_len rv), hz]
  obtain ⟨b, off, rfl, hb, hc⟩ := hr.at_ (by omega)
  have e1 : l.getD k pass0 = l[k] := by simp [hk]
  have e2 : ps.getD k (undef, undef) = ps[k]'(by omega) := by simp [show k < ps.length by omega]
  refine ⟨b, off, rfl, hb, by omega, fun j v hj hv => ?_⟩
  have g := flat_get (placeC_len rv) (l.zip ps) k (by omega) j hj
  rw [List.getElem_zip, ← e1, ← e2, hv] at g
  rw [Nat.add_assoc]
  exact hc (k * 11 + j) _ g
/-- the program's state: nothing at the start -/
def plUp (rv : River) (sides : List (List Bd)) (l : List Pass) (j : Nat) : Shal := if j = 0 then ⟨0, 0, 0, 0⟩ else shUp rv sides l j
def plIn (rv : River) (sides : List (List Bd)) (l : List Pass) (j n : Nat) : Sh := if j = 0 ∧ n = 0 then ⟨0, 0, 0, 0⟩ else shIn (depthAt rv sides (l.getD j pass0).place) j (l.getD j pass0).hours.lo ⟨(shUp rv sides l j).lo, (shUp rv sides l j).pass, (shUp rv sides l j).hour, 0⟩ n
section
variable {rv : River} {sides : List (List Bd)} {l : List Pass} {j n : Nat}
theorem plIn_zero : plIn rv sides l j 0 = ⟨(plUp rv sides l j).lo, (plUp rv sides l j).pass, (plUp rv sides l j).hour, 0⟩ := by
  by_cases h : j = 0
  · simp [plIn, plUp, h]
  · simp [plIn, plUp, h, shIn]
theorem plIn_first (h : j = 0) (hd : (depthAt rv sides (l.getD j pass0).place (l.getD j pass0).hours.lo).lo < 1000000) : plIn rv sides l j (0 + 1) = ⟨(depthAt rv sides (l.getD j pass0).place (l.getD j pass0).hours.lo).lo, (j : Nat), (l.getD j pass0).hours.lo, max 0 (depthAt rv sides (l.getD j pass0).place (l.getD j pass0).hours.lo).hi⟩ := by
  subst h
  rw [plIn, if_neg (by simp), shIn, shStep]
  simp only [shIn, shUp, Int.ofNat_zero, Int.natCast_zero, Int.add_zero] at *
  rw [if_pos hd]
theorem plIn_succ (h : ¬(j = 0 ∧ n = 0)) : plIn rv sides l j (n + 1) = shStep j ((l.getD j pass0).hours.lo + n) (depthAt rv sides (l.getD j pass0).place ((l.getD j pass0).hours.lo + n)) (plIn rv sides l j n) := by
  rw [plIn, if_neg (by simp), plIn, if_neg h, shIn]
theorem plUp_succ (hn : 0 < hoursN (l.getD j pass0).hours) : plUp rv sides l (j + 1) = ⟨(plIn rv sides l j (hoursN (l.getD j pass0).hours)).lo, min (shUp rv sides l j).hi (plIn rv sides l j (hoursN (l.getD j pass0).hours)).most, (plIn rv sides l j (hoursN (l.getD j pass0).hours)).pass, (plIn rv sides l j (hoursN (l.getD j pass0).hours)).hour⟩ := by
  rw [plUp, if_neg (by simp), shUp, shNext, plIn, if_neg (by omega)]
end
theorem Stream.lt_of {w : World} {base g : Nat} {v u vf : Value} {fs : List Value} {F : List (List Bd)} (h : Stream w base g v u vf fs F) : g < w.heap.size ∧ (∀ k, vf.ownBlock = some k → k < w.heap.size) ∧ ∀ x ∈ fs, ∀ k, x.ownBlock = some k → k < w.heap.size :=
  ⟨h.blk.lt, fun k hk => (h.rows.own.lt k hk).2, fun x hx k hk => by
    obtain ⟨i, hi, e⟩ := List.getElem_of_mem hx
    have h2 := h.rows.each i (by rw [← h.rows.len]; exact hi)
    rw [show fs.getD i undef = x by simp [hi, e]] at h2
    exact (h2.lt k hk).2⟩
theorem Stream.keepB {w w' : World} {base g C : Nat} {v u vf : Value} {fs : List Value} {F : List (List Bd)} (h : Stream w base g v u vf fs F) (hb : Below C w w') (hlt : g < C ∧ (∀ k, vf.ownBlock = some k → k < C) ∧ ∀ x ∈ fs, ∀ k, x.ownBlock = some k → k < C) : Stream w' base g v u vf fs F :=
  ⟨h.blk.below hb hlt.1, h.rows.keepB hb hlt.2.1 fun j hj k hk => hlt.2.2 _ (getD_mem (by rw [h.rows.len]; exact hj)) k hk⟩
theorem plIn_bd {rv : River} {sides : List (List Bd)} {l : List Pass} (hO : StartOk rv sides) (hI : ∀ j, j < l.length → passOk (placesOf rv.reaches) ((sides.getD 0 []).length : Nat) (l.getD j pass0)) {j : Nat} (hj : j < l.length) : 0 ≤ (plIn rv sides l j (hoursN (l.getD j pass0).hours)).most ∧ (plIn rv sides l j (hoursN (l.getD j pass0).hours)).most ≤ 30000 := by
  obtain ⟨hp, hh⟩ := hI j hj
  have hp := inB_iff.1 hp
  have hh := bdOk_iff.1 hh
  have hn := hoursN_eq hh.2.1
  have hub := shUp_bd hO hI (j := j) (by omega)
  rw [plIn, if_neg (by omega)]
  exact (shIn_bd (fun m hm => by
    have := depth_bd hO (p := (l.getD j pass0).place) (t := (l.getD j pass0).hours.lo + m) (by omega) (by omega) (by omega) (by omega)
    omega) hub.1 (by simp)).2.1
set_option maxHeartbeats 8000000 in
set_option maxRecDepth 100000 in
theorem shallow_any (rv : River) (sides : List (List Bd)) (v u s : Value) (vs ss : List Value) (l : List Pass) (vl : Value) (w : World) (B : Nat) (hr : RdRiver w B v u rv vs) (hs : RdSides w B s sides ss) (hB : B ≤ w.heap.size) (hw : Rd w B 3 vl l.length (passesC l)) (hl : rv.reaches.length ≤ 1048576) (hl2 : rv.shoals.length ≤ 1048576) (hcv : CurvesB rv.reaches) (hl3 : sides.length ≤ 1048576) (hsb : SidesB sides) :
    Calls Try.prog 51 #[.agg #[v, u], s, vl] w fun e w' => e = .returned (.tuple #[.agg #[.int .i64 (shaRes rv sides l).lo, .int .i64 (shaRes rv sides l).hi], .int .i64 (shaRes rv sides l).pass, .int .i64 (shaRes rv sides l).hour, .int .i64 (shaErr rv sides l)]) ∧ Below w.heap.size w w' := by
  obtain ⟨Aw, cw, rfl, _⟩ := hw.shape
  obtain ⟨A, c, rfl, _⟩ := hr.reaches.shape
  obtain ⟨A', c', rfl, _⟩ := hr.shoals.shape
  obtain ⟨D, d, rfl, _⟩ := hs.rd.shape
  have hbw := Below.refl w.heap.size w
  refine EC.enter 137 Try.func51 rfl rfl rfl ?_
  refine EC.seq ?_
  refine EC.region ?_
  refine EL.newP (bx_47 rfl) rfl ?_
  intro g1 w1 q1 hb1 hg1 hl1
  have bhbw_1 := Nat.le_trans hbw.size hg1
  replace hbw := Below.on hbw hb1 hbw.size
  clear hb1 hg1 hl1
  refine EL.newP al_23 rfl ?_
  intro g2 w2 q2 hb2 hg2 hl2
  have n1_2 : g1 ≠ g2 := Nat.ne_of_lt (Nat.lt_of_lt_of_le q1.lt hg2)
  have bhbw_2 := Nat.le_trans hbw.size hg2
  replace q1 := q1.below hb2 q1.lt
  replace hbw := Below.on hbw hb2 hbw.size
  clear hb2 hg2 hl2
  refine EL.val (x_assign rfl) rfl ?_
  refine EL.val (x_assign rfl) rfl ?_
  refine EL.val (x_assign rfl) rfl ?_
  refine EL.nil ?_
  refine EX.seq ?_
  refine EC.seq ?_
  refine EC.region ?_
  refine EL.val (ld_47 rfl (q1.at (j := 0) rfl) (q1.at (j := 1) rfl)) rfl ?_
  refine EL.val (x_move rfl) rfl ?_
  by_cases hst : startErr rv sides = 0
  ·
    obtain ⟨hok, hO⟩ := startErr_ok hst
    have hR_ := riverB_ok hok
    have hpl := hR_.places
    have hhr := hO.hours
    have lo6 := q2.lt
    have lo3 := q1.lt
    refine EL.call (cl_73 rfl rfl) rfl (open_ok rv sides _ _ _ vs ss _ B (hr.below (hbw.mono hB)) (hs.below (hbw.mono hB)) (Nat.le_trans hB hbw.size) hl hl2 hcv hl3 hsb hst) ?_
    rintro e w3 ⟨⟨g, vf, fs, rfl, hge_, _, hT⟩, hc3⟩
    refine ⟨_, rfl, ?_⟩
    replace q1 := q1.below hc3 q1.lt
    replace q2 := q2.below hc3 q2.lt
    replace hbw := Below.on hbw hc3 hbw.size
    clear hc3
    have hT6 := hT.off_lt (k := g2) (by omega)
    have hT3 := hT.off_lt (k := g1) (by omega)
    refine EL.val (x_move rfl) rfl ?_
    refine EL.val (x_extract rfl rfl) rfl ?_
    refine EL.val (x_extract rfl rfl) rfl ?_
    refine EL.val (x_assign rfl) rfl ?_
    refine EL.val (x_assign rfl) rfl ?_
    refine EL.nil ?_
    refine EX.seq ?_
    refine EC.seq ?_
    refine EC.block ?_
    refine EC.seq ?_
    refine EC.region ?_
    refine EL.val (x_move rfl) rfl ?_
    refine EL.val (x_neq rfl rfl (by first | assumption | exact decide_eq_false (by omega))) rfl ?_
    refine EL.val (x_assign rfl) rfl ?_
    refine EL.nil ?_
    refine EX.seq ?_
    refine EC.no rfl ?_
    refine EC.seq ?_
    refine EC.region ?_
    refine EL.val (x_move rfl) rfl ?_
    refine EL.val (ln_99 rfl) rfl ?_
    by_cases h0 : l.length = 0
    ·
      obtain ⟨hve, hvr⟩ := sha_way hst (way_4 h0) (by omega)
      refine EL.val (x_eql rfl rfl (by first | assumption | exact decide_eq_true (by omega))) rfl ?_
      refine EL.val (x_assign rfl) rfl ?_
      refine EL.nil ?_
      refine EX.seq ?_
      refine EC.yes rfl ?_
      refine EC.seq ?_
      refine EC.region ?_
      refine EL.val (ld_23 rfl (q2.at (j := 0) rfl) (q2.at (j := 1) rfl)) rfl ?_
      refine EL.store rfl rfl q2 sz_23 rfl rfl rfl rfl ?_
      intro w4 hq4 hg4
      replace q1 := q1.grown hg4 (fun h => n1_2 (Option.some.inj h))
      replace hT := hT.keepOff hT6 hg4
      replace hbw := below_store hbw hg4 bhbw_2
      replace q2 := hq4
      clear hg4 hq4
      refine EL.val (x_assign rfl) rfl ?_
      refine EL.val (x_assign rfl) rfl ?_
      refine EL.val (x_assign rfl) rfl ?_
      refine EL.nil ?_
      refine EX.seq ?_
      refine EC.ret ?_
      refine EX.blk_ret ?_
      refine EX.seq_ret ?_
      exact EX.done (resc3 rfl rfl rfl rfl rfl (lv_23 (q2.at rfl) (q2.at rfl))) ⟨by rw [hve, hvr] <;> rfl, hbw⟩
    ·
      refine EL.val (x_eql rfl rfl (by first | assumption | exact decide_eq_false (by omega))) rfl ?_
      refine EL.val (x_assign rfl) rfl ?_
      refine EL.nil ?_
      refine EX.seq ?_
      refine EC.no rfl ?_
      refine EC.seq ?_
      refine EC.region ?_
      refine EL.val (x_move rfl) rfl ?_
      refine EL.val (ln_99 rfl) rfl ?_
      have lo6S := q2.lt
      have lo3S := q1.lt
      have hwS := hbw.size
      have hTlt := hT.lt_of
      by_cases h60 : 60 < l.length
      ·
        obtain ⟨hve, hvr⟩ := sha_way hst (way_5 h60) (by omega)
        refine EL.val (x_gtr rfl rfl (by first | assumption | exact decide_eq_true (by omega))) rfl ?_
        refine EL.val (x_assign rfl) rfl ?_
        refine EL.nil ?_
        refine EX.seq ?_
        refine EC.yes rfl ?_
        refine EC.seq ?_
        refine EC.region ?_
        refine EL.val (ld_23 rfl (q2.at (j := 0) rfl) (q2.at (j := 1) rfl)) rfl ?_
        refine EL.store rfl rfl q2 sz_23 rfl rfl rfl rfl ?_
        intro w5 hq5 hg5
        replace q1 := q1.grown hg5 (fun h => n1_2 (Option.some.inj h))
        replace hT := hT.keepOff hT6 hg5
        replace hbw := below_store hbw hg5 bhbw_2
        replace q2 := hq5
        clear hg5 hq5
        refine EL.val (x_assign rfl) rfl ?_
        refine EL.val (x_assign rfl) rfl ?_
        refine EL.val (x_assign rfl) rfl ?_
        refine EL.nil ?_
        refine EX.seq ?_
        refine EC.ret ?_
        refine EX.blk_ret ?_
        refine EX.seq_ret ?_
        exact EX.done (resc3 rfl rfl rfl rfl rfl (lv_23 (q2.at rfl) (q2.at rfl))) ⟨by rw [hve, hvr] <;> rfl, hbw⟩
      ·
        refine EL.val (x_gtr rfl rfl (by first | assumption | exact decide_eq_false (by omega))) rfl ?_
        refine EL.val (x_assign rfl) rfl ?_
        refine EL.nil ?_
        refine EX.seq ?_
        refine EC.no rfl ?_
        refine EC.skip ?_
        refine EX.blk ?_
        refine EX.seq ?_
        refine EC.seq ?_
        refine EC.region ?_
        refine EL.val (x_assign rfl) rfl ?_
        refine EL.nil ?_
        refine EX.seq ?_
        refine EC.seq ?_
        refine EC.seq ?_
        refine EC.region ?_
        refine EL.val (x_move rfl) rfl ?_
        refine EL.val (ln_99 rfl) rfl ?_
        refine EL.val (x_move rfl) rfl ?_
        refine EL.nil ?_
        refine EX.seq ?_
        refine EC.block ?_
        have hsz0 := hbw.size
        have hbase : w3.heap.size ≤ w3.heap.size := Nat.le_refl _
        refine EC.loopD [7, 8, 9, 11, 13, 14, 15, 44, 45, 46, 47, 48, 49, 50, 51, 52, 53, 54, 55, 56, 57, 58, 59, 60, 61, 62, 63, 64, 65, 66, 67, 68, 69, 70, 71, 72, 73] (fun x : Nat × Value × List (Value × Value) => [(44, .int .i64 (x.1 : Nat)), (11, x.2.1), (7, .int .i64 0), (8, .int .i64 0)]) (fun x W => x.1 ≤ l.length ∧ x.2.2.length = x.1 ∧ (∀ j, j < x.1 → passOk (placesOf rv.reaches) ((sides.getD 0 []).length : Nat) (l.getD j pass0)) ∧ (∀ j, j < x.1 → ∃ A n c, (x.2.2.getD j (undef, undef)).1 = .slice A n c) ∧ Rows W w3.heap.size 129 11 x.2.1 x.1 (((l.take x.1).zip x.2.2).flatMap (placeC rv)) 97 6 (x.2.2.map Prod.snd) (shoalRows rv (l.take x.1)) ∧ w3.heap.size ≤ W.heap.size ∧ Stream W (g + 1) g _ _ vf fs (flowsUp rv.reaches sides sides.length) ∧ Blk W g2 23 #[.int .i64 0, .int .i64 0] ∧ Blk W g1 47 #[.slice A rv.reaches.length c, .slice A' rv.shoals.length c'] ∧ Below w.heap.size w W) (fun x => l.length - x.1) (0, .slice none 0 0, []) ⟨Nat.zero_le _, rfl, fun j hj => absurd hj (Nat.not_lt_zero _), fun j hj => absurd hj (Nat.not_lt_zero _), Rows.start (own_nil _ _ _ _), hbase, hT, q2, q1, hbw⟩ ⟨rfl, rfl, rfl, rfl, trivial⟩ ?_
        clear hT q2 q1 hbw
        rintro ⟨i, vo, ps⟩ wr ⟨hi, hps, hI, hcf, hR, hbo, hT, q2, q1, hbw⟩
        simp only at hi hR hps hI hcf
        by_cases hlt : i < l.length
        ·
          have hbr := Below.refl wr.heap.size wr
          obtain ⟨bc, oc, rfl, _, cc⟩ := passes_cells l i hlt _ _ _ _ _ hw
          obtain ⟨y, ey⟩ : ∃ y, y = l.getD i pass0 := ⟨_, rfl⟩
          rw [← ey] at cc
          refine EC.seq ?_
          refine EC.region ?_
          refine EL.val (x_lss rfl rfl (by first | assumption | exact decide_eq_true (by omega))) rfl ?_
          refine EL.nil ?_
          refine EX.seq ?_
          refine EC.seq ?_
          refine EC.yes rfl ?_
          refine EC.skip ?_
          refine EX.seq ?_
          refine EC.seq ?_
          refine EC.block ?_
          refine EC.seq ?_
          refine EC.region ?_
          refine EL.val (ix_99 rfl rfl hlt) rfl ?_
          refine EL.val (ld_101 rfl (below_load hbw cc.c0) (below_load hbw cc.c1) (below_load hbw cc.c2)) rfl ?_
          refine EL.newP al_101 rfl ?_
          intro g6 w6 q6 hb6 hg6 hl6
          have n2_6 : g2 ≠ g6 := Nat.ne_of_lt (Nat.lt_of_lt_of_le q2.lt hg6)
          have n1_6 : g1 ≠ g6 := Nat.ne_of_lt (Nat.lt_of_lt_of_le q1.lt hg6)
          have bhbw_6 := Nat.le_trans hbw.size hg6
          have bhbr_6 := Nat.le_trans hbr.size hg6
          have hT_6 := hT.off_ge hg6
          replace q2 := q2.below hb6 q2.lt
          replace q1 := q1.below hb6 q1.lt
          replace hT := hT.below hb6
          replace hbw := Below.on hbw hb6 hbw.size
          replace hbr := Below.on hbr hb6 hbr.size
          clear hb6 hg6 hl6
          refine EL.store rfl rfl q6 sz_101 rfl rfl rfl rfl ?_
          intro w7 hq7 hg7
          replace q2 := q2.grown hg7 (fun h => n2_6 (Option.some.inj h))
          replace q1 := q1.grown hg7 (fun h => n1_6 (Option.some.inj h))
          replace hT := hT.keepOff hT_6 hg7
          replace hbw := below_store hbw hg7 bhbw_6
          replace hbr := below_store hbr hg7 bhbr_6
          replace q6 := hq7
          clear hg7 hq7
          refine EL.nil ?_
          refine EX.seq ?_
          refine EC.seq ?_
          refine EC.region ?_
          refine EL.val (ld_47 rfl (q1.at (j := 0) rfl) (q1.at (j := 1) rfl)) rfl ?_
          refine EL.val (fa_101_0 rfl) rfl ?_
          refine EL.val (ld_3 rfl (q6.at (j := 0) rfl)) rfl ?_
          cases hp : inB 0 (placesOf rv.reaches - 1) y.place
          ·
            have hce : wayErr (placesOf rv.reaches) ((sides.getD 0 []).length : Nat) l = 7 := by rw [way_in h0 h60]; exact passBad_7 hlt hI (by rw [← ey]; exact hp)
            obtain ⟨hve, hvr⟩ := sha_way hst hce (by omega)
            refine EL.call (cl_71 rfl rfl) rfl (find_bad rv _ _ vs y.place _ B (hr.below (hbw.mono hB)) (Nat.le_trans hB hbw.size) hok hp) ?_
            rintro e w8 ⟨rfl, hc8⟩
            refine ⟨_, rfl, ?_⟩
            replace q2 := q2.below hc8 q2.lt
            replace q1 := q1.below hc8 q1.lt
            replace q6 := q6.below hc8 q6.lt
            replace hT := hT.below hc8
            replace hbw := Below.on hbw hc8 hbw.size
            replace hbr := Below.on hbr hc8 hbr.size
            clear hc8
            refine EL.val (x_move rfl) rfl ?_
            refine EL.val (x_extract rfl rfl) rfl ?_
            refine EL.val (x_extract rfl rfl) rfl ?_
            refine EL.newP al_129 rfl ?_
            intro g9 w9 q9 hb9 hg9 hl9
            have n2_9 : g2 ≠ g9 := Nat.ne_of_lt (Nat.lt_of_lt_of_le q2.lt hg9)
            have n1_9 : g1 ≠ g9 := Nat.ne_of_lt (Nat.lt_of_lt_of_le q1.lt hg9)
            have n6_9 : g6 ≠ g9 := Nat.ne_of_lt (Nat.lt_of_lt_of_le q6.lt hg9)
            have bhbw_9 := Nat.le_trans hbw.size hg9
            have bhbr_9 := Nat.le_trans hbr.size hg9
            have hT_9 := hT.off_ge hg9
            replace q2 := q2.below hb9 q2.lt
            replace q1 := q1.below hb9 q1.lt
            replace q6 := q6.below hb9 q6.lt
            replace hT := hT.below hb9
            replace hbw := Below.on hbw hb9 hbw.size
            replace hbr := Below.on hbr hb9 hbr.size
            clear hb9 hg9 hl9
            refine EL.store rfl rfl q9 sz_129 rfl rfl rfl rfl ?_
            intro w10 hq10 hg10
            replace q2 := q2.grown hg10 (fun h => n2_9 (Option.some.inj h))
            replace q1 := q1.grown hg10 (fun h => n1_9 (Option.some.inj h))
            replace q6 := q6.grown hg10 (fun h => n6_9 (Option.some.inj h))
            replace hT := hT.keepOff hT_9 hg10
            replace hbw := below_store hbw hg10 bhbw_9
            replace hbr := below_store hbr hg10 bhbr_9
            replace q9 := hq10
            clear hg10 hq10
            refine EL.val (x_assign rfl) rfl ?_
            refine EL.nil ?_
            refine EX.seq ?_
            refine EC.seq ?_
            refine EC.block ?_
            refine EC.seq ?_
            refine EC.region ?_
            refine EL.val (x_move rfl) rfl ?_
            refine EL.val (x_not rfl) rfl ?_
            refine EL.val (x_assign rfl) rfl ?_
            refine EL.nil ?_
            refine EX.seq ?_
            refine EC.yes rfl ?_
            refine EC.seq ?_
            refine EC.region ?_
            refine EL.val (ld_23 rfl (q2.at (j := 0) rfl) (q2.at (j := 1) rfl)) rfl ?_
            refine EL.store rfl rfl q2 sz_23 rfl rfl rfl rfl ?_
            intro w11 hq11 hg11
            replace q1 := q1.grown hg11 (fun h => n1_2 (Option.some.inj h))
            replace q6 := q6.grown hg11 (fun h => n2_6.symm (Option.some.inj h))
            replace q9 := q9.grown hg11 (fun h => n2_9.symm (Option.some.inj h))
            replace hT := hT.keepOff hT6 hg11
            replace hbw := below_store hbw hg11 bhbw_2
            clear hbr
            replace q2 := hq11
            clear hg11 hq11
            refine EL.val (x_assign rfl) rfl ?_
            refine EL.val (x_assign rfl) rfl ?_
            refine EL.val (x_assign rfl) rfl ?_
            refine EL.nil ?_
            refine EX.seq ?_
            refine EC.ret ?_
            refine EX.blk_ret ?_
            refine EX.seq_ret ?_
            refine EX.blk_ret ?_
            refine EX.seq_ret ?_
            refine EX.seq_ret ?_
            refine EX.blk_ret ?_
            refine EX.seq_ret ?_
            exact EX.done (resc3 rfl rfl rfl rfl rfl (lv_23 (q2.at rfl) (q2.at rfl))) ⟨by rw [hve, hvr] <;> rfl, hbw⟩
          ·
            have hp_ := inB_iff.1 hp
            have hszc := hbr.size
            refine EL.call (cl_71 rfl rfl) rfl (find_ok rv _ _ vs y.place _ B (hr.below (hbw.mono hB)) (Nat.le_trans hB hbw.size) hok hp) ?_
            rintro e w12 ⟨⟨A1, n1, c1, A2, n2, c2, rfl, hsh⟩, hc12⟩
            refine ⟨_, rfl, ?_⟩
            replace q2 := q2.below hc12 q2.lt
            replace q1 := q1.below hc12 q1.lt
            replace q6 := q6.below hc12 q6.lt
            replace hT := hT.below hc12
            replace hbw := Below.on hbw hc12 hbw.size
            replace hbr := Below.on hbr hc12 hbr.size
            clear hc12
            replace hsh := own_less hsh hszc
            refine EL.val (x_move rfl) rfl ?_
            refine EL.val (x_extract rfl rfl) rfl ?_
            refine EL.val (x_extract rfl rfl) rfl ?_
            refine EL.newP al_129 rfl ?_
            intro g13 w13 q13 hb13 hg13 hl13
            have n2_13 : g2 ≠ g13 := Nat.ne_of_lt (Nat.lt_of_lt_of_le q2.lt hg13)
            have n1_13 : g1 ≠ g13 := Nat.ne_of_lt (Nat.lt_of_lt_of_le q1.lt hg13)
            have n6_13 : g6 ≠ g13 := Nat.ne_of_lt (Nat.lt_of_lt_of_le q6.lt hg13)
            have bhbw_13 := Nat.le_trans hbw.size hg13
            have bhbr_13 := Nat.le_trans hbr.size hg13
            have hT_13 := hT.off_ge hg13
            replace q2 := q2.below hb13 q2.lt
            replace q1 := q1.below hb13 q1.lt
            replace q6 := q6.below hb13 q6.lt
            replace hT := hT.below hb13
            replace hsh := own_below hsh hb13 (Nat.le_refl _)
            replace hbw := Below.on hbw hb13 hbw.size
            replace hbr := Below.on hbr hb13 hbr.size
            clear hb13 hg13 hl13
            refine EL.store rfl rfl q13 sz_129 rfl rfl rfl rfl ?_
            intro w14 hq14 hg14
            replace q2 := q2.grown hg14 (fun h => n2_13 (Option.some.inj h))
            replace q1 := q1.grown hg14 (fun h => n1_13 (Option.some.inj h))
            replace q6 := q6.grown hg14 (fun h => n6_13 (Option.some.inj h))
            replace hT := hT.keepOff hT_13 hg14
            replace hsh := own_type hsh q13 rfl hg14
            replace hbw := below_store hbw hg14 bhbw_13
            replace hbr := below_store hbr hg14 bhbr_13
            replace q13 := hq14
            clear hg14 hq14
            refine EL.val (x_assign rfl) rfl ?_
            refine EL.nil ?_
            refine EX.seq ?_
            refine EC.seq ?_
            refine EC.block ?_
            refine EC.seq ?_
            refine EC.region ?_
            refine EL.val (x_move rfl) rfl ?_
            refine EL.val (x_not rfl) rfl ?_
            refine EL.val (x_assign rfl) rfl ?_
            refine EL.nil ?_
            refine EX.seq ?_
            refine EC.no rfl ?_
            refine EC.seq ?_
            cases hv : bdOk 0 (((sides.getD 0 []).length : Nat) - 1 : Int) y.hours
            ·
              have hce : wayErr (placesOf rv.reaches) ((sides.getD 0 []).length : Nat) l = 3 := by rw [way_in h0 h60]; exact passBad_3 hlt hI (by rw [← ey]; exact hp) (by rw [← ey]; exact hv)
              obtain ⟨hve, hvr⟩ := sha_way hst hce (by omega)
              have lt_2 := q2.lt
              have lt_1 := q1.lt
              have lt_6 := q6.lt
              have lt_13 := q13.lt
              refine EC.regionP [[], [0], [0, 1], [], [3], [3, 4], [0, 1, 2, 3, 4, 5], [0, 1, 2, 3, 4, 5, 6], [0, 1, 2, 3, 4, 5, 6, 7]] 9 [] (phi (fun i_ r => match i_ with | 0 => r 0 = .pointer (some ⟨g, 0, none⟩) | 1 => r 1 = .int .i64 ((sides.getD 0 []).length : Nat) | 2 => r 2 = .int .i64 (((sides.getD 0 []).length : Nat) - 1 : Int) | 3 => r 3 = .pointer (some ⟨g6, 1, none⟩) | 4 => r 4 = .agg #[.int .i64 y.hours.lo, .int .i64 y.hours.hi] | 6 => r 6 = .bool false | 7 => r 7 = .bool true | 8 => r 8 = .bool true | _ => True) [(5, fun r w_ => ∃ g_, r 5 = .slice (some ⟨g_, 0, none⟩) 1 1 ∧ Blk w_ g_ 23 #[.int .i64 y.hours.lo, .int .i64 y.hours.hi] ∧ w14.heap.size ≤ g_)]) (by kernel_rfl) rfl rfl (phi_cons mono_bs (phi_nil)) (fun i_ hi_ => ?_) ?_
              · match i_, hi_ with
                | 0, _ =>
                  intro val w1 a hb ha hd
                  have ha := ha.sub (Sub.ins (d := 10) (Sub.nil _) rfl)
                  exact hs_val ha rfl rfl (x_move rfl) rfl rfl
                | 1, _ =>
                  intro val w1 a hb ha hd
                  have e0 : val 0 = .pointer (some ⟨g, 0, none⟩) := hd 0 (memB_mem.1 rfl)
                  have ha := ha.sub (Sub.ins (d := 60) (Sub.nil _) (dep_get rfl e0))
                  refine hs_call ha rfl rfl (cl_77 rfl) (hours_bel (stream_ok hO (hT.below hb) (hr.below ((Below.on hbw hb hbw.size).mono hB)) (Nat.le_trans hB (Below.on hbw hb hbw.size).size))) rfl ?_
                  rintro e w' ⟨rfl, hb'⟩
                  exact ⟨_, rfl, hb', rfl⟩
                | 2, _ =>
                  intro val w1 a hb ha hd
                  have e1 : val 1 = .int .i64 ((sides.getD 0 []).length : Nat) := hd 1 (memB_mem.1 rfl)
                  have ha := ha.sub (Sub.ins (d := 61) (Sub.nil _) (dep_get rfl e1))
                  exact hs_val ha rfl rfl (x_sub rfl rfl (by first | assumption | exact IntWalk.i64_in _ ⟨by omega, by omega⟩)) rfl rfl
                | 3, _ =>
                  intro val w1 a hb ha hd
                  have ha := ha.sub (Sub.ins (d := 13) (Sub.nil _) rfl)
                  exact hs_val ha rfl rfl (fa_101_1 rfl) rfl rfl
                | 4, _ =>
                  intro val w1 a hb ha hd
                  have e3 : val 3 = .pointer (some ⟨g6, 1, none⟩) := hd 3 (memB_mem.1 rfl)
                  have ha := ha.sub (Sub.ins (d := 63) (Sub.nil _) (dep_get rfl e3))
                  exact hs_val ha rfl rfl (ld_23 rfl ((q6.below hb q6.lt).at (j := 1) rfl) ((q6.below hb q6.lt).at (j := 2) rfl)) rfl rfl
                | 5, _ =>
                  intro val w1 a hb ha hd
                  have e4 : val 4 = .agg #[.int .i64 y.hours.lo, .int .i64 y.hours.hi] := hd 4 (memB_mem.1 rfl)
                  have ha := ha.sub (Sub.ins (d := 64) (Sub.nil _) (dep_get rfl e4))
                  exact hs_newS ha rfl rfl (bs_28_1 rfl) rfl (fun g w' hq _ hge => ⟨g, rfl, hq, Nat.le_trans hb.size hge⟩)
                | 6, _ =>
                  intro val w1 a hb ha hd
                  have e2 : val 2 = .int .i64 (((sides.getD 0 []).length : Nat) - 1 : Int) := hd 2 (memB_mem.1 rfl)
                  obtain ⟨g5_, e5, q5_, h5_⟩ := hd 5 (memB_mem.1 rfl)
                  change val 5 = _ at e5
                  have ha := ha.sub (Sub.ins (d := 65) (Sub.ins (d := 62) (Sub.nil _) (dep_get rfl e2)) (dep_get rfl e5))
                  refine hs_call ha rfl rfl (cl_58 rfl rfl rfl) (isv_one y.hours 0 (((sides.getD 0 []).length : Nat) - 1 : Int) false _ q5_ hv) rfl ?_
                  rintro e w' ⟨rfl, hb'⟩
                  exact ⟨_, rfl, hb', rfl⟩
                | 7, _ =>
                  intro val w1 a hb ha hd
                  have e6 : val 6 = .bool false := hd 6 (memB_mem.1 rfl)
                  have ha := ha.sub (Sub.ins (d := 66) (Sub.nil _) (dep_get rfl e6))
                  exact hs_val ha rfl rfl (x_not rfl) rfl rfl
                | 8, _ =>
                  intro val w1 a hb ha hd
                  have e7 : val 7 = .bool true := hd 7 (memB_mem.1 rfl)
                  have ha := ha.sub (Sub.ins (d := 67) (Sub.nil _) (dep_get rfl e7))
                  exact hs_val ha rfl rfl (x_assign rfl) rfl rfl
                | k + 9, h => exact absurd h (by omega)
              · intro val wR15 hb halc hd
                have e0 : val 0 = .pointer (some ⟨g, 0, none⟩) := hd 0 (by omega)
                have e1 : val 1 = .int .i64 ((sides.getD 0 []).length : Nat) := hd 1 (by omega)
                have e2 : val 2 = .int .i64 (((sides.getD 0 []).length : Nat) - 1 : Int) := hd 2 (by omega)
                have e3 : val 3 = .pointer (some ⟨g6, 1, none⟩) := hd 3 (by omega)
                have e4 : val 4 = .agg #[.int .i64 y.hours.lo, .int .i64 y.hours.hi] := hd 4 (by omega)
                obtain ⟨ga5_15, e5, qa5_15, hga5_15⟩ := hd 5 (by omega)
                change val 5 = _ at e5
                change Blk wR15 ga5_15 23 #[.int .i64 y.hours.lo, .int .i64 y.hours.hi] at qa5_15
                have e6 : val 6 = .bool false := hd 6 (by omega)
                have e7 : val 7 = .bool true := hd 7 (by omega)
                have e8 : val 8 = .bool true := hd 8 (by omega)
                refine EL.ends (cs := [.pointer (some ⟨g, 0, none⟩), .int .i64 ((sides.getD 0 []).length : Nat), .int .i64 (((sides.getD 0 []).length : Nat) - 1 : Int), .pointer (some ⟨g6, 1, none⟩), .agg #[.int .i64 y.hours.lo, .int .i64 y.hours.hi], .slice (some ⟨ga5_15, 0, none⟩) 1 1, .bool false, .bool true, .bool true]) ⟨e0, e1, e2, e3, e4, e5, e6, e7, e8, trivial⟩ rfl ?_
                replace q2 := q2.below hb q2.lt
                replace q1 := q1.below hb q1.lt
                replace q6 := q6.below hb q6.lt
                replace q13 := q13.below hb q13.lt
                replace hT := hT.below hb
                replace hsh := own_below hsh hb (Nat.le_refl _)
                have n2_15 : g2 ≠ ga5_15 := Nat.ne_of_lt (Nat.lt_of_lt_of_le lt_2 hga5_15)
                have n1_15 : g1 ≠ ga5_15 := Nat.ne_of_lt (Nat.lt_of_lt_of_le lt_1 hga5_15)
                have n6_15 : g6 ≠ ga5_15 := Nat.ne_of_lt (Nat.lt_of_lt_of_le lt_6 hga5_15)
                have n13_15 : g13 ≠ ga5_15 := Nat.ne_of_lt (Nat.lt_of_lt_of_le lt_13 hga5_15)
                have bhbw_15 := Nat.le_trans hbw.size hga5_15
                have bhbr_15 := Nat.le_trans hbr.size hga5_15
                replace hbw := Below.on hbw hb hbw.size
                replace hbr := Below.on hbr hb hbr.size
                clear hb
                refine EL.nil ?_
                refine EX.seq ?_
                refine EC.yes rfl ?_
                refine EC.seq ?_
                refine EC.region ?_
                refine EL.val (ld_23 rfl (q2.at (j := 0) rfl) (q2.at (j := 1) rfl)) rfl ?_
                refine EL.store rfl rfl q2 sz_23 rfl rfl rfl rfl ?_
                intro w16 hq16 hg16
                replace q1 := q1.grown hg16 (fun h => n1_2 (Option.some.inj h))
                replace q6 := q6.grown hg16 (fun h => n2_6.symm (Option.some.inj h))
                replace q13 := q13.grown hg16 (fun h => n2_13.symm (Option.some.inj h))
                replace qa5_15 := qa5_15.grown hg16 (fun h => n2_15.symm (Option.some.inj h))
                replace hT := hT.keepOff hT6 hg16
                replace hsh := own_type hsh q2 rfl hg16
                replace hbw := below_store hbw hg16 bhbw_2
                clear hbr
                replace q2 := hq16
                clear hg16 hq16
                refine EL.val (x_assign rfl) rfl ?_
                refine EL.val (x_assign rfl) rfl ?_
                refine EL.val (x_assign rfl) rfl ?_
                refine EL.nil ?_
                refine EX.seq ?_
                refine EC.ret ?_
                refine EX.blk_ret ?_
                refine EX.seq_ret ?_
                refine EX.blk_ret ?_
                refine EX.seq_ret ?_
                refine EX.seq_ret ?_
                refine EX.blk_ret ?_
                refine EX.seq_ret ?_
                exact EX.done (resc3 rfl rfl rfl rfl rfl (lv_23 (q2.at rfl) (q2.at rfl))) ⟨by rw [hve, hvr] <;> rfl, hbw⟩
            ·
              have hv_ := bdOk_iff.1 hv
              have lt_2 := q2.lt
              have lt_1 := q1.lt
              have lt_6 := q6.lt
              have lt_13 := q13.lt
              refine EC.regionP [[], [0], [0, 1], [], [3], [3, 4], [0, 1, 2, 3, 4, 5], [0, 1, 2, 3, 4, 5, 6], [0, 1, 2, 3, 4, 5, 6, 7]] 9 [] (phi (fun i_ r => match i_ with | 0 => r 0 = .pointer (some ⟨g, 0, none⟩) | 1 => r 1 = .int .i64 ((sides.getD 0 []).length : Nat) | 2 => r 2 = .int .i64 (((sides.getD 0 []).length : Nat) - 1 : Int) | 3 => r 3 = .pointer (some ⟨g6, 1, none⟩) | 4 => r 4 = .agg #[.int .i64 y.hours.lo, .int .i64 y.hours.hi] | 6 => r 6 = .bool true | 7 => r 7 = .bool false | 8 => r 8 = .bool false | _ => True) [(5, fun r w_ => ∃ g_, r 5 = .slice (some ⟨g_, 0, none⟩) 1 1 ∧ Blk w_ g_ 23 #[.int .i64 y.hours.lo, .int .i64 y.hours.hi] ∧ w14.heap.size ≤ g_)]) (by kernel_rfl) rfl rfl (phi_cons mono_bs (phi_nil)) (fun i_ hi_ => ?_) ?_
              · match i_, hi_ with
                | 0, _ =>
                  intro val w1 a hb ha hd
                  have ha := ha.sub (Sub.ins (d := 10) (Sub.nil _) rfl)
                  exact hs_val ha rfl rfl (x_move rfl) rfl rfl
                | 1, _ =>
                  intro val w1 a hb ha hd
                  have e0 : val 0 = .pointer (some ⟨g, 0, none⟩) := hd 0 (memB_mem.1 rfl)
                  have ha := ha.sub (Sub.ins (d := 60) (Sub.nil _) (dep_get rfl e0))
                  refine hs_call ha rfl rfl (cl_77 rfl) (hours_bel (stream_ok hO (hT.below hb) (hr.below ((Below.on hbw hb hbw.size).mono hB)) (Nat.le_trans hB (Below.on hbw hb hbw.size).size))) rfl ?_
                  rintro e w' ⟨rfl, hb'⟩
                  exact ⟨_, rfl, hb', rfl⟩
                | 2, _ =>
                  intro val w1 a hb ha hd
                  have e1 : val 1 = .int .i64 ((sides.getD 0 []).length : Nat) := hd 1 (memB_mem.1 rfl)
                  have ha := ha.sub (Sub.ins (d := 61) (Sub.nil _) (dep_get rfl e1))
                  exact hs_val ha rfl rfl (x_sub rfl rfl (by first | assumption | exact IntWalk.i64_in _ ⟨by omega, by omega⟩)) rfl rfl
                | 3, _ =>
                  intro val w1 a hb ha hd
                  have ha := ha.sub (Sub.ins (d := 13) (Sub.nil _) rfl)
                  exact hs_val ha rfl rfl (fa_101_1 rfl) rfl rfl
                | 4, _ =>
                  intro val w1 a hb ha hd
                  have e3 : val 3 = .pointer (some ⟨g6, 1, none⟩) := hd 3 (memB_mem.1 rfl)
                  have ha := ha.sub (Sub.ins (d := 63) (Sub.nil _) (dep_get rfl e3))
                  exact hs_val ha rfl rfl (ld_23 rfl ((q6.below hb q6.lt).at (j := 1) rfl) ((q6.below hb q6.lt).at (j := 2) rfl)) rfl rfl
                | 5, _ =>
                  intro val w1 a hb ha hd
                  have e4 : val 4 = .agg #[.int .i64 y.hours.lo, .int .i64 y.hours.hi] := hd 4 (memB_mem.1 rfl)
                  have ha := ha.sub (Sub.ins (d := 64) (Sub.nil _) (dep_get rfl e4))
                  exact hs_newS ha rfl rfl (bs_28_1 rfl) rfl (fun g w' hq _ hge => ⟨g, rfl, hq, Nat.le_trans hb.size hge⟩)
                | 6, _ =>
                  intro val w1 a hb ha hd
                  have e2 : val 2 = .int .i64 (((sides.getD 0 []).length : Nat) - 1 : Int) := hd 2 (memB_mem.1 rfl)
                  obtain ⟨g5_, e5, q5_, h5_⟩ := hd 5 (memB_mem.1 rfl)
                  change val 5 = _ at e5
                  have ha := ha.sub (Sub.ins (d := 65) (Sub.ins (d := 62) (Sub.nil _) (dep_get rfl e2)) (dep_get rfl e5))
                  refine hs_call ha rfl rfl (cl_58 rfl rfl rfl) (isv_one y.hours 0 (((sides.getD 0 []).length : Nat) - 1 : Int) true _ q5_ hv) rfl ?_
                  rintro e w' ⟨rfl, hb'⟩
                  exact ⟨_, rfl, hb', rfl⟩
                | 7, _ =>
                  intro val w1 a hb ha hd
                  have e6 : val 6 = .bool true := hd 6 (memB_mem.1 rfl)
                  have ha := ha.sub (Sub.ins (d := 66) (Sub.nil _) (dep_get rfl e6))
                  exact hs_val ha rfl rfl (x_not rfl) rfl rfl
                | 8, _ =>
                  intro val w1 a hb ha hd
                  have e7 : val 7 = .bool false := hd 7 (memB_mem.1 rfl)
                  have ha := ha.sub (Sub.ins (d := 67) (Sub.nil _) (dep_get rfl e7))
                  exact hs_val ha rfl rfl (x_assign rfl) rfl rfl
                | k + 9, h => exact absurd h (by omega)
              · intro val wR15 hb halc hd
                have e0 : val 0 = .pointer (some ⟨g, 0, none⟩) := hd 0 (by omega)
                have e1 : val 1 = .int .i64 ((sides.getD 0 []).length : Nat) := hd 1 (by omega)
                have e2 : val 2 = .int .i64 (((sides.getD 0 []).length : Nat) - 1 : Int) := hd 2 (by omega)
                have e3 : val 3 = .pointer (some ⟨g6, 1, none⟩) := hd 3 (by omega)
                have e4 : val 4 = .agg #[.int .i64 y.hours.lo, .int .i64 y.hours.hi] := hd 4 (by omega)
                obtain ⟨ga5_15, e5, qa5_15, hga5_15⟩ := hd 5 (by omega)
                change val 5 = _ at e5
                change Blk wR15 ga5_15 23 #[.int .i64 y.hours.lo, .int .i64 y.hours.hi] at qa5_15
                have e6 : val 6 = .bool true := hd 6 (by omega)
                have e7 : val 7 = .bool false := hd 7 (by omega)
                have e8 : val 8 = .bool false := hd 8 (by omega)
                refine EL.ends (cs := [.pointer (some ⟨g, 0, none⟩), .int .i64 ((sides.getD 0 []).length : Nat), .int .i64 (((sides.getD 0 []).length : Nat) - 1 : Int), .pointer (some ⟨g6, 1, none⟩), .agg #[.int .i64 y.hours.lo, .int .i64 y.hours.hi], .slice (some ⟨ga5_15, 0, none⟩) 1 1, .bool true, .bool false, .bool false]) ⟨e0, e1, e2, e3, e4, e5, e6, e7, e8, trivial⟩ rfl ?_
                replace q2 := q2.below hb q2.lt
                replace q1 := q1.below hb q1.lt
                replace q6 := q6.below hb q6.lt
                replace q13 := q13.below hb q13.lt
                replace hT := hT.below hb
                replace hsh := own_below hsh hb (Nat.le_refl _)
                have n2_17 : g2 ≠ ga5_15 := Nat.ne_of_lt (Nat.lt_of_lt_of_le lt_2 hga5_15)
                have n1_17 : g1 ≠ ga5_15 := Nat.ne_of_lt (Nat.lt_of_lt_of_le lt_1 hga5_15)
                have n6_17 : g6 ≠ ga5_15 := Nat.ne_of_lt (Nat.lt_of_lt_of_le lt_6 hga5_15)
                have n13_17 : g13 ≠ ga5_15 := Nat.ne_of_lt (Nat.lt_of_lt_of_le lt_13 hga5_15)
                have bhbw_17 := Nat.le_trans hbw.size hga5_15
                have bhbr_17 := Nat.le_trans hbr.size hga5_15
                replace hbw := Below.on hbw hb hbw.size
                replace hbr := Below.on hbr hb hbr.size
                clear hb
                refine EL.nil ?_
                refine EX.seq ?_
                refine EC.no rfl ?_
                refine EC.skip ?_
                refine EX.blk ?_
                refine EX.seq ?_
                refine EC.region ?_
                refine EL.val (x_move rfl) rfl ?_
                refine EL.val (ld_129 rfl (q13.at (j := 0) rfl) (q13.at (j := 1) rfl) (q13.at (j := 2) rfl) (q13.at (j := 3) rfl) (q13.at (j := 4) rfl) (q13.at (j := 5) rfl) (q13.at (j := 6) rfl) (q13.at (j := 7) rfl) (q13.at (j := 8) rfl) (q13.at (j := 9) rfl) (q13.at (j := 10) rfl)) rfl ?_
                refine EL.newS (bs_145_1 rfl) rfl ?_
                intro g18 w18 q18 hb18 hg18 hl18
                have n2_18 : g2 ≠ g18 := Nat.ne_of_lt (Nat.lt_of_lt_of_le q2.lt hg18)
                have n1_18 : g1 ≠ g18 := Nat.ne_of_lt (Nat.lt_of_lt_of_le q1.lt hg18)
                have n6_18 : g6 ≠ g18 := Nat.ne_of_lt (Nat.lt_of_lt_of_le q6.lt hg18)
                have n13_18 : g13 ≠ g18 := Nat.ne_of_lt (Nat.lt_of_lt_of_le q13.lt hg18)
                have n17_18 : ga5_15 ≠ g18 := Nat.ne_of_lt (Nat.lt_of_lt_of_le qa5_15.lt hg18)
                have bhbw_18 := Nat.le_trans hbw.size hg18
                have bhbr_18 := Nat.le_trans hbr.size hg18
                have hT_18 := hT.off_ge hg18
                replace q2 := q2.below hb18 q2.lt
                replace q1 := q1.below hb18 q1.lt
                replace q6 := q6.below hb18 q6.lt
                replace q13 := q13.below hb18 q13.lt
                replace qa5_15 := qa5_15.below hb18 qa5_15.lt
                replace hT := hT.below hb18
                replace hsh := own_below hsh hb18 (Nat.le_refl _)
                replace hbw := Below.on hbw hb18 hbw.size
                replace hbr := Below.on hbr hb18 hbr.size
                clear hb18 hg18 hl18
                have lo_2 := q2.lt
                have lo_1 := q1.lt
                have hR2 := hR.below hbr
                have hap := apart_fresh hR.own (fun g h => (hsh.lt g h).1)
                have ho3 := own_less hsh hbo
                have hsz_ := hbr.size
                refine EL.push place_elem rfl rfl hR2.own (rd_one (l := placeC rv (y, .slice A1 n1 c1, .slice A2 n2 c2)) q18 rfl) (by simp [placeC, placeV, Value.oneCell']) (by omega) rfl (Nat.le_trans hbo hsz_) rfl ?_
                intro v' w19 ho4 hgr19 hb19 hat19
                have hR3 := hR2.push0 ho3 hap ho4 hgr19 hat19
                have hbo2 := Nat.le_trans (Nat.le_trans hbo hsz_) hb19.size
                replace q2 := q2.below hb19 (by omega)
                replace q1 := q1.below hb19 (by omega)
                replace hbw := hbw.trans (hb19.mono hwS)
                have hT2 : Stream w19 (g + 1) g _ _ vf fs (flowsUp rv.reaches sides sides.length) := hT.keepB hb19 hTlt
                refine EL.val (x_assign rfl) rfl ?_
                refine EL.nil ?_
                refine EX.blk ?_
                refine EX.seq ?_
                refine EC.region ?_
                refine EL.val (x_add rfl rfl (by first | assumption | exact IntWalk.i64_in _ ⟨by omega, by omega⟩)) rfl ?_
                refine EL.val (x_move rfl) rfl ?_
                refine EL.nil ?_
                refine EX.roundD (i + 1, v', ps ++ [(.slice A1 n1 c1, .slice A2 n2 c2)]) ⟨rfl, rfl, rfl, rfl, trivial⟩ (by repeat first | exact Sub.refl _ | refine sub_past rfl ?_ | refine sub_del rfl ?_ | refine sub_insL_nil ?_) ⟨hlt, by simp [hps], fun j hj => ?_, fun j hj => ?_, by rw [shoalRows_take hlt, placeC_take hlt hps, ← ey, List.map_append]; exact hR3, hbo2, hT2, q2, q1, hbw⟩ (by simp only; omega)
                · rcases Nat.lt_or_ge j i with h | h
                  · exact hI j h
                  · obtain rfl : j = i := by simp only at hj; omega
                    rw [← ey]
                    exact ⟨hp, hv⟩
                · simp only
                  rw [getD_snoc, hps]
                  rcases Nat.lt_or_ge j i with h | h
                  · rw [if_pos h]; exact hcf j h
                  · obtain rfl : j = i := by simp only at hj; omega
                    rw [if_neg (by omega), if_pos rfl]
                    exact ⟨_, _, _, rfl⟩
        ·
          obtain rfl : i = l.length := by omega
          rw [List.take_length] at hR
          have hce : wayErr (placesOf rv.reaches) ((sides.getD 0 []).length : Nat) l = 0 := by rw [way_in h0 h60]; exact passBad_ok hI
          obtain ⟨hve, hvr⟩ := sha_ok hst hce
          obtain ⟨Ao, co, rfl, _⟩ := (Rd.of_own hR.own).shape
          have hR6 := hR.off_lt (g := g2) lo6S
          have hR3 := hR.off_lt (g := g1) lo3S
          refine EC.seq ?_
          refine EC.region ?_
          refine EL.val (x_lss rfl rfl (by first | assumption | exact decide_eq_false (by omega))) rfl ?_
          refine EL.nil ?_
          refine EX.seq ?_
          refine EC.seq ?_
          refine EC.no rfl ?_
          refine EC.exit ?_
          refine EX.seq_exit ?_
          refine EX.seq_exit ?_
          refine EX.blk_here ?_
          refine EX.seq ?_
          refine EC.seq ?_
          refine EC.seq ?_
          refine EC.region ?_
          refine EL.val (x_move rfl) rfl ?_
          refine EL.val (ln_99 rfl) rfl ?_
          refine EL.val (x_move rfl) rfl ?_
          refine EL.nil ?_
          refine EX.seq ?_
          refine EC.block ?_
          refine EC.loopD [7, 8, 16, 17, 18, 19, 20, 76, 77, 78, 79, 80, 81, 82, 83, 84, 85, 86, 87, 88, 89, 90, 91, 92, 93, 94, 95, 96, 97, 98, 99, 100, 101, 102, 103, 104, 105, 106, 107, 108, 109, 110, 111, 112, 113, 114, 115, 116, 117, 118, 119, 120, 121, 122, 123, 124, 125, 126, 127, 128, 129, 130, 131, 132, 133] (fun x : Nat × Shal => [(76, .int .i64 (x.1 : Nat)), (7, .int .i64 x.2.pass), (8, .int .i64 x.2.hour)]) (fun x W => x.1 ≤ l.length ∧ x.2 = plUp rv sides l x.1 ∧ Rows W w3.heap.size 129 11 (.slice Ao l.length co) l.length ((l.zip ps).flatMap (placeC rv)) 97 6 (ps.map Prod.snd) (shoalRows rv l) ∧ Stream W (g + 1) g _ _ vf fs (flowsUp rv.reaches sides sides.length) ∧ Blk W g2 23 #[.int .i64 x.2.lo, .int .i64 x.2.hi] ∧ Below w.heap.size w W) (fun x => l.length - x.1) (0, ⟨0, 0, 0, 0⟩) ⟨Nat.zero_le _, rfl, hR, hT, q2, hbw⟩ ⟨rfl, rfl, rfl, trivial⟩ ?_
          clear hT hR q2 hbw
          rintro ⟨i, st⟩ wr ⟨hi, hst2, hR, hT, q2, hbw⟩
          simp only at hi hst2
          by_cases hlt : i < l.length
          ·
            obtain ⟨bc, oc, rfl, _, cc⟩ := passes_cells l i hlt _ _ _ _ _ hw
            obtain ⟨hp, hv⟩ := hI i hlt
            have hp_ := inB_iff.1 hp
            have hv_ := bdOk_iff.1 hv
            have hN := hoursN_eq hv_.2.1
            obtain ⟨y, ey⟩ : ∃ y, y = l.getD i pass0 := ⟨_, rfl⟩
            have hub := shUp_bd hO hI (j := i) (by omega)
            have hz := plIn_zero (rv := rv) (sides := sides) (l := l) (j := i)
            rw [← hst2] at hz
            have hus := plUp_succ (rv := rv) (sides := sides) (l := l) (j := i) (by omega)
            have hpc := hcf i hlt
            obtain ⟨Ac_, nc_, cc_, ecv⟩ := hpc
            have hin := fun n (hn : n < hoursN (l.getD i pass0).hours) => depth_bd hO (p := (l.getD i pass0).place) (t := (l.getD i pass0).hours.lo + (n : Nat)) (by omega) (by omega) (by omega) (by omega)
            rw [← ey] at cc hp hv hp_ hv_ hN hus hin
            refine EC.seq ?_
            refine EC.region ?_
            refine EL.val (x_lss rfl rfl (by first | assumption | exact decide_eq_true (by omega))) rfl ?_
            refine EL.nil ?_
            refine EX.seq ?_
            refine EC.seq ?_
            refine EC.yes rfl ?_
            refine EC.skip ?_
            refine EX.seq ?_
            refine EC.seq ?_
            refine EC.block ?_
            refine EC.seq ?_
            refine EC.region ?_
            refine EL.val (x_move rfl) rfl ?_
            refine EL.val (ix_99 rfl rfl hlt) rfl ?_
            refine EL.val (ld_101 rfl (below_load hbw cc.c0) (below_load hbw cc.c1) (below_load hbw cc.c2)) rfl ?_
            refine EL.newP al_101 rfl ?_
            intro g20 w20 q20 hb20 hg20 hl20
            have n2_20 : g2 ≠ g20 := Nat.ne_of_lt (Nat.lt_of_lt_of_le q2.lt hg20)
            have bhbw_20 := Nat.le_trans hbw.size hg20
            have hT_20 := hT.off_ge hg20
            have hR_20 := hR.off_ge hg20
            replace q2 := q2.below hb20 q2.lt
            replace hT := hT.below hb20
            replace hR := hR.below hb20
            replace hbw := Below.on hbw hb20 hbw.size
            clear hb20 hg20 hl20
            refine EL.val (x_assign rfl) rfl ?_
            refine EL.store rfl rfl q20 sz_101 rfl rfl rfl rfl ?_
            intro w21 hq21 hg21
            replace q2 := q2.grown hg21 (fun h => n2_20 (Option.some.inj h))
            replace hT := hT.keepOff hT_20 hg21
            replace hR := hR.keepOff hR_20 hg21
            replace hbw := below_store hbw hg21 bhbw_20
            replace q20 := hq21
            clear hg21 hq21
            refine EL.nil ?_
            refine EX.seq ?_
            refine EC.seq ?_
            refine EC.region ?_
            refine EL.val (x_assign rfl) rfl ?_
            refine EL.nil ?_
            refine EX.seq ?_
            refine EC.seq ?_
            refine EC.seq ?_
            refine EC.region ?_
            refine EL.val (fa_101_1 rfl) rfl ?_
            refine EL.val (fa_23_0 rfl) rfl ?_
            refine EL.val (ld_3 rfl (q20.at (j := 1) rfl)) rfl ?_
            refine EL.val (x_assign rfl) rfl ?_
            refine EL.nil ?_
            refine EX.seq ?_
            refine EC.block ?_
            refine EC.loopD [7, 8, 18, 19, 20, 84, 85, 86, 87, 88, 89, 90, 91, 92, 93, 94, 95, 96, 97, 98, 99, 100, 101, 102, 103, 104, 105, 106, 107, 108, 109, 110, 111, 112, 113, 114, 115, 116, 117, 118, 119, 120, 121, 122] (fun x : Nat × Sh => [(19, .int .i64 (y.hours.lo + (x.1 : Nat))), (18, .int .i64 x.2.most), (7, .int .i64 x.2.pass), (8, .int .i64 x.2.hour)]) (fun x W => x.1 ≤ hoursN y.hours ∧ x.2 = plIn rv sides l i x.1 ∧ Rows W w3.heap.size 129 11 (.slice Ao l.length co) l.length ((l.zip ps).flatMap (placeC rv)) 97 6 (ps.map Prod.snd) (shoalRows rv l) ∧ Stream W (g + 1) g _ _ vf fs (flowsUp rv.reaches sides sides.length) ∧ Blk W g2 23 #[.int .i64 x.2.lo, .int .i64 st.hi] ∧ Blk W g20 101 #[.int .i64 y.place, .int .i64 y.hours.lo, .int .i64 y.hours.hi] ∧ Below w.heap.size w W) (fun x => hoursN y.hours - x.1) (0, ⟨st.lo, st.pass, st.hour, 0⟩) ⟨Nat.zero_le _, hz.symm, hR, hT, q2, q20, hbw⟩ ⟨by simp only [Int.natCast_zero, Int.add_zero]; rfl, rfl, rfl, rfl, trivial⟩ ?_
            clear hT hR q2 q20 hbw
            rintro ⟨n, s⟩ wk ⟨hn, hs, hR, hT, q2, q20, hbw⟩
            simp only at hn hs
            by_cases hnl : n < hoursN y.hours
            ·
              obtain ⟨hd1, hd2⟩ := hin n hnl
              obtain ⟨bp, op_, rfl, _, hkn, cp⟩ := place_cells (by rw [hps]) i hlt _ _ _ _ _ (Rd.of_own hR.own)
              have hsr := hR.each i (by simp [shoalRows]; exact hlt)
              have e7 : (ps.map Prod.snd).getD i undef = (ps.getD i (undef, undef)).2 := by simp [show i < ps.length by omega]
              have e8 : (shoalRows rv l).getD i (0, []) = ((shoalsAt rv.shoals (l.getD i pass0).place).length, shoalsC (shoalsAt rv.shoals (l.getD i pass0).place)) := by simp [shoalRows, hlt]
              rw [e7, e8] at hsr
              obtain ⟨As_, cs_, es, _⟩ := (Rd.of_own hsr).shape
              simp only at hsr es
              rw [es, ← ey] at hsr
              have hpv : ps.getD i (undef, undef) = (.slice Ac_ nc_ cc_, .slice As_ (shoalsAt rv.shoals y.place).length cs_) := by rw [← ecv, ey, ← es]
              rw [hpv, ← ey] at cp
              obtain ⟨dd, ed⟩ : ∃ d, d = depthAt rv sides y.place (y.hours.lo + (n : Nat)) := ⟨_, rfl⟩
              have hsucc := fun h => plIn_succ (rv := rv) (sides := sides) (l := l) (j := i) (n := n) h
              have hfirst := fun h => plIn_first (rv := rv) (sides := sides) (l := l) (j := i) h
              rw [← ey] at hsucc hfirst
              rw [← ed, ← hs] at hsucc
              rw [← ed] at hd1 hd2
              refine EC.seq ?_
              refine EC.seq ?_
              refine EC.region ?_
              refine EL.val (x_move rfl) rfl ?_
              refine EL.val (fa_101_1 rfl) rfl ?_
              refine EL.val (fa_23_1 rfl) rfl ?_
              refine EL.val (ld_3 rfl (q20.at (j := 2) rfl)) rfl ?_
              refine EL.val (x_leq rfl rfl (by first | assumption | exact decide_eq_true (by omega))) rfl ?_
              refine EL.nil ?_
              refine EX.seq ?_
              refine EC.yes rfl ?_
              refine EC.skip ?_
              refine EX.seq ?_
              refine EC.seq ?_
              refine EC.block ?_
              refine EC.seq ?_
              refine EC.region ?_
              refine EL.val (x_move rfl) rfl ?_
              refine EL.val (x_move rfl) rfl ?_
              refine EL.val (x_move rfl) rfl ?_
              refine EL.val (ix_145 rfl rfl hlt) rfl ?_
              refine EL.val (ld_129 rfl (cp 0 _ (by omega) rfl) (cp 1 _ (by omega) rfl) (cp 2 _ (by omega) rfl) (cp 3 _ (by omega) rfl) (cp 4 _ (by omega) rfl) (cp 5 _ (by omega) rfl) (cp 6 _ (by omega) rfl) (cp 7 _ (by omega) rfl) (cp 8 _ (by omega) rfl) (cp 9 _ (by omega) rfl) (cp 10 _ (by omega) rfl)) rfl ?_
              refine EL.val (x_move rfl) rfl ?_
              refine EL.call (cl_75 rfl rfl rfl) rfl (by have key := depth_fit (p := y.place) (t := y.hours.lo + (n : Nat)) (A1 := Ac_) (n1 := nc_) (c1 := cc_) (stream_ok hO hT (hr.below (hbw.mono hB)) (Nat.le_trans hB hbw.size)) (Nat.le_refl _) (Rd.of_own hsr) (Nat.le_refl _) hok hp (inB_iff.2 (by omega)); rw [← ed] at key; exact key) ?_
              rintro e w22 ⟨rfl, hc22⟩
              refine ⟨_, rfl, ?_⟩
              replace q2 := q2.below hc22 q2.lt
              replace q20 := q20.below hc22 q20.lt
              replace hT := hT.below hc22
              replace hR := hR.below hc22
              replace hbw := Below.on hbw hc22 hbw.size
              clear hc22
              refine EL.newP al_23 rfl ?_
              intro g23 w23 q23 hb23 hg23 hl23
              have n2_23 : g2 ≠ g23 := Nat.ne_of_lt (Nat.lt_of_lt_of_le q2.lt hg23)
              have n20_23 : g20 ≠ g23 := Nat.ne_of_lt (Nat.lt_of_lt_of_le q20.lt hg23)
              have bhbw_23 := Nat.le_trans hbw.size hg23
              have hT_23 := hT.off_ge hg23
              have hR_23 := hR.off_ge hg23
              replace q2 := q2.below hb23 q2.lt
              replace q20 := q20.below hb23 q20.lt
              replace hT := hT.below hb23
              replace hR := hR.below hb23
              replace hbw := Below.on hbw hb23 hbw.size
              clear hb23 hg23 hl23
              refine EL.store rfl rfl q23 sz_23 rfl rfl rfl rfl ?_
              intro w24 hq24 hg24
              replace q2 := q2.grown hg24 (fun h => n2_23 (Option.some.inj h))
              replace q20 := q20.grown hg24 (fun h => n20_23 (Option.some.inj h))
              replace hT := hT.keepOff hT_23 hg24
              replace hR := hR.keepOff hR_23 hg24
              replace hbw := below_store hbw hg24 bhbw_23
              replace q23 := hq24
              clear hg24 hq24
              refine EL.nil ?_
              refine EX.seq ?_
              refine EC.seq ?_
              refine EC.seq ?_
              refine EC.region ?_
              refine EL.val (x_move rfl) rfl ?_
              by_cases hj0 : i = 0
              ·
                refine EL.val (x_eql rfl rfl (by first | assumption | exact decide_eq_true (by omega))) rfl ?_
                refine EL.val (x_move rfl) rfl ?_
                refine EL.valg rfl rfl (x_move rfl) rfl ?_
                refine EL.valg rfl rfl (fa_101_1 rfl) rfl ?_
                refine EL.valg rfl rfl (fa_23_0 rfl) rfl ?_
                refine EL.valg rfl rfl (ld_3 rfl (q20.at (j := 1) rfl)) rfl ?_
                by_cases hn0 : n = 0
                ·
                  subst hn0
                  have hst_ := hfirst hj0 (by rw [Int.natCast_zero, Int.add_zero] at ed; rw [← ed]; omega)
                  rw [Int.natCast_zero, Int.add_zero] at ed
                  rw [← ed] at hst_
                  refine EL.valg rfl rfl (x_eql rfl rfl (by first | assumption | exact decide_eq_true (by omega))) rfl ?_
                  refine EL.val (x_pick_t rfl rfl) rfl ?_
                  refine EL.val (x_move rfl) rfl ?_
                  refine EL.skip rfl rfl rfl rfl ?_
                  refine EL.skip rfl rfl rfl rfl ?_
                  refine EL.skip rfl rfl rfl rfl ?_
                  refine EL.skip rfl rfl rfl rfl ?_
                  refine EL.skip rfl rfl rfl rfl ?_
                  refine EL.val (x_pick_t rfl rfl) rfl ?_
                  refine EL.nil ?_
                  refine EX.seq ?_
                  refine EC.yes rfl ?_
                  refine EC.region ?_
                  refine EL.val (fa_23_0 rfl) rfl ?_
                  refine EL.val (ld_3 rfl (q23.at (j := 0) rfl)) rfl ?_
                  refine EL.val (x_move rfl) rfl ?_
                  refine EL.val (x_move rfl) rfl ?_
                  refine EL.val (fa_23_0 rfl) rfl ?_
                  refine EL.store rfl rfl q2 sz_3 rfl rfl rfl rfl ?_
                  intro w25 hq25 hg25
                  replace q20 := q20.grown hg25 (fun h => n2_20.symm (Option.some.inj h))
                  replace q23 := q23.grown hg25 (fun h => n2_23.symm (Option.some.inj h))
                  replace hT := hT.keepOff hT6 hg25
                  replace hR := hR.keepOff hR6 hg25
                  replace hbw := below_store hbw hg25 bhbw_2
                  replace q2 := hq25
                  clear hg25 hq25
                  refine EL.val (x_assign rfl) rfl ?_
                  refine EL.val (x_assign rfl) rfl ?_
                  refine EL.nil ?_
                  refine EX.seq ?_
                  refine EC.region ?_
                  refine EL.val (x_move rfl) rfl ?_
                  refine EL.val (fa_23_1 rfl) rfl ?_
                  refine EL.val (ld_3 rfl (q23.at (j := 1) rfl)) rfl ?_
                  refine EL.val (mm_max rfl rfl rfl) rfl ?_
                  refine EL.val (x_assign rfl) rfl ?_
                  refine EL.nil ?_
                  refine EX.blk ?_
                  refine EX.seq ?_
                  refine EC.region ?_
                  refine EL.val (x_move rfl) rfl ?_
                  refine EL.val (x_add rfl rfl (by first | assumption | exact IntWalk.i64_in _ ⟨by omega, by omega⟩)) rfl ?_
                  refine EL.val (x_assign rfl) rfl ?_
                  refine EL.nil ?_
                  refine EX.roundD (0 + 1, ⟨dd.lo, (i : Nat), y.hours.lo + ((0 : Nat) : Int), max s.most dd.hi⟩) ⟨by rw [show y.hours.lo + ((0 + 1 : Nat) : Int) = y.hours.lo + ((0 : Nat) : Int) + 1 by omega]; rfl, rfl, rfl, rfl, trivial⟩ (by repeat first | exact Sub.refl _ | refine sub_past rfl ?_ | refine sub_del rfl ?_ | refine sub_insL_nil ?_) ⟨by omega, (by rw [hst_, hs, hz, Int.natCast_zero, Int.add_zero]), hR, hT, q2, q20, hbw⟩ (by simp only; omega)
                ·
                  have hst_ := hsucc (by omega)
                  rw [shStep] at hst_
                  refine EL.valg rfl rfl (x_eql rfl rfl (by first | assumption | exact decide_eq_false (by omega))) rfl ?_
                  refine EL.val (x_pick_t rfl rfl) rfl ?_
                  refine EL.val (x_move rfl) rfl ?_
                  refine EL.valg rfl rfl (fa_23_0 rfl) rfl ?_
                  refine EL.valg rfl rfl (ld_3 rfl (q23.at (j := 0) rfl)) rfl ?_
                  refine EL.valg rfl rfl (fa_23_0 rfl) rfl ?_
                  refine EL.valg rfl rfl (ld_3 rfl (q2.at (j := 0) rfl)) rfl ?_
                  by_cases hdl : dd.lo < s.lo
                  ·
                    rw [if_pos hdl] at hst_
                    refine EL.valg rfl rfl (x_lss rfl rfl (by first | assumption | exact decide_eq_true (by omega))) rfl ?_
                    refine EL.val (x_pick_f rfl rfl) rfl ?_
                    refine EL.nil ?_
                    refine EX.seq ?_
                    refine EC.yes rfl ?_
                    refine EC.region ?_
                    refine EL.val (fa_23_0 rfl) rfl ?_
                    refine EL.val (ld_3 rfl (q23.at (j := 0) rfl)) rfl ?_
                    refine EL.val (x_move rfl) rfl ?_
                    refine EL.val (x_move rfl) rfl ?_
                    refine EL.val (fa_23_0 rfl) rfl ?_
                    refine EL.store rfl rfl q2 sz_3 rfl rfl rfl rfl ?_
                    intro w26 hq26 hg26
                    replace q20 := q20.grown hg26 (fun h => n2_20.symm (Option.some.inj h))
                    replace q23 := q23.grown hg26 (fun h => n2_23.symm (Option.some.inj h))
                    replace hT := hT.keepOff hT6 hg26
                    replace hR := hR.keepOff hR6 hg26
                    replace hbw := below_store hbw hg26 bhbw_2
                    replace q2 := hq26
                    clear hg26 hq26
                    refine EL.val (x_assign rfl) rfl ?_
                    refine EL.val (x_assign rfl) rfl ?_
                    refine EL.nil ?_
                    refine EX.seq ?_
                    refine EC.region ?_
                    refine EL.val (x_move rfl) rfl ?_
                    refine EL.val (fa_23_1 rfl) rfl ?_
                    refine EL.val (ld_3 rfl (q23.at (j := 1) rfl)) rfl ?_
                    refine EL.val (mm_max rfl rfl rfl) rfl ?_
                    refine EL.val (x_assign rfl) rfl ?_
                    refine EL.nil ?_
                    refine EX.blk ?_
                    refine EX.seq ?_
                    refine EC.region ?_
                    refine EL.val (x_move rfl) rfl ?_
                    refine EL.val (x_add rfl rfl (by first | assumption | exact IntWalk.i64_in _ ⟨by omega, by omega⟩)) rfl ?_
                    refine EL.val (x_assign rfl) rfl ?_
                    refine EL.nil ?_
                    refine EX.roundD (n + 1, ⟨dd.lo, (i : Nat), y.hours.lo + (n : Nat), max s.most dd.hi⟩) ⟨by rw [show y.hours.lo + ((n + 1 : Nat) : Int) = y.hours.lo + ((n : Nat) : Int) + 1 by omega]; rfl, rfl, rfl, rfl, trivial⟩ (by repeat first | exact Sub.refl _ | refine sub_past rfl ?_ | refine sub_del rfl ?_ | refine sub_insL_nil ?_) ⟨by omega, hst_.symm, hR, hT, q2, q20, hbw⟩ (by simp only; omega)
                  ·
                    rw [if_neg hdl] at hst_
                    refine EL.valg rfl rfl (x_lss rfl rfl (by first | assumption | exact decide_eq_false (by omega))) rfl ?_
                    refine EL.val (x_pick_f rfl rfl) rfl ?_
                    refine EL.nil ?_
                    refine EX.seq ?_
                    refine EC.no rfl ?_
                    refine EC.skip ?_
                    refine EX.seq ?_
                    refine EC.region ?_
                    refine EL.val (x_move rfl) rfl ?_
                    refine EL.val (fa_23_1 rfl) rfl ?_
                    refine EL.val (ld_3 rfl (q23.at (j := 1) rfl)) rfl ?_
                    refine EL.val (mm_max rfl rfl rfl) rfl ?_
                    refine EL.val (x_assign rfl) rfl ?_
                    refine EL.nil ?_
                    refine EX.blk ?_
                    refine EX.seq ?_
                    refine EC.region ?_
                    refine EL.val (x_move rfl) rfl ?_
                    refine EL.val (x_add rfl rfl (by first | assumption | exact IntWalk.i64_in _ ⟨by omega, by omega⟩)) rfl ?_
                    refine EL.val (x_assign rfl) rfl ?_
                    refine EL.nil ?_
                    refine EX.roundD (n + 1, ⟨s.lo, s.pass, s.hour, max s.most dd.hi⟩) ⟨by rw [show y.hours.lo + ((n + 1 : Nat) : Int) = y.hours.lo + ((n : Nat) : Int) + 1 by omega]; rfl, rfl, rfl, rfl, trivial⟩ (by repeat first | exact Sub.refl _ | refine sub_past rfl ?_ | refine sub_del rfl ?_ | refine sub_insL_nil ?_) ⟨by omega, hst_.symm, hR, hT, q2, q20, hbw⟩ (by simp only; omega)
              ·
                have hst_ := hsucc (by omega)
                rw [shStep] at hst_
                refine EL.val (x_eql rfl rfl (by first | assumption | exact decide_eq_false (by omega))) rfl ?_
                refine EL.val (x_move rfl) rfl ?_
                refine EL.skip rfl rfl rfl rfl ?_
                refine EL.skip rfl rfl rfl rfl ?_
                refine EL.skip rfl rfl rfl rfl ?_
                refine EL.skip rfl rfl rfl rfl ?_
                refine EL.skip rfl rfl rfl rfl ?_
                refine EL.val (x_pick_f rfl rfl) rfl ?_
                refine EL.val (x_move rfl) rfl ?_
                refine EL.valg rfl rfl (fa_23_0 rfl) rfl ?_
                refine EL.valg rfl rfl (ld_3 rfl (q23.at (j := 0) rfl)) rfl ?_
                refine EL.valg rfl rfl (fa_23_0 rfl) rfl ?_
                refine EL.valg rfl rfl (ld_3 rfl (q2.at (j := 0) rfl)) rfl ?_
                by_cases hdl : dd.lo < s.lo
                ·
                  rw [if_pos hdl] at hst_
                  refine EL.valg rfl rfl (x_lss rfl rfl (by first | assumption | exact decide_eq_true (by omega))) rfl ?_
                  refine EL.val (x_pick_f rfl rfl) rfl ?_
                  refine EL.nil ?_
                  refine EX.seq ?_
                  refine EC.yes rfl ?_
                  refine EC.region ?_
                  refine EL.val (fa_23_0 rfl) rfl ?_
                  refine EL.val (ld_3 rfl (q23.at (j := 0) rfl)) rfl ?_
                  refine EL.val (x_move rfl) rfl ?_
                  refine EL.val (x_move rfl) rfl ?_
                  refine EL.val (fa_23_0 rfl) rfl ?_
                  refine EL.store rfl rfl q2 sz_3 rfl rfl rfl rfl ?_
                  intro w27 hq27 hg27
                  replace q20 := q20.grown hg27 (fun h => n2_20.symm (Option.some.inj h))
                  replace q23 := q23.grown hg27 (fun h => n2_23.symm (Option.some.inj h))
                  replace hT := hT.keepOff hT6 hg27
                  replace hR := hR.keepOff hR6 hg27
                  replace hbw := below_store hbw hg27 bhbw_2
                  replace q2 := hq27
                  clear hg27 hq27
                  refine EL.val (x_assign rfl) rfl ?_
                  refine EL.val (x_assign rfl) rfl ?_
                  refine EL.nil ?_
                  refine EX.seq ?_
                  refine EC.region ?_
                  refine EL.val (x_move rfl) rfl ?_
                  refine EL.val (fa_23_1 rfl) rfl ?_
                  refine EL.val (ld_3 rfl (q23.at (j := 1) rfl)) rfl ?_
                  refine EL.val (mm_max rfl rfl rfl) rfl ?_
                  refine EL.val (x_assign rfl) rfl ?_
                  refine EL.nil ?_
                  refine EX.blk ?_
                  refine EX.seq ?_
                  refine EC.region ?_
                  refine EL.val (x_move rfl) rfl ?_
                  refine EL.val (x_add rfl rfl (by first | assumption | exact IntWalk.i64_in _ ⟨by omega, by omega⟩)) rfl ?_
                  refine EL.val (x_assign rfl) rfl ?_
                  refine EL.nil ?_
                  refine EX.roundD (n + 1, ⟨dd.lo, (i : Nat), y.hours.lo + (n : Nat), max s.most dd.hi⟩) ⟨by rw [show y.hours.lo + ((n + 1 : Nat) : Int) = y.hours.lo + ((n : Nat) : Int) + 1 by omega]; rfl, rfl, rfl, rfl, trivial⟩ (by repeat first | exact Sub.refl _ | refine sub_past rfl ?_ | refine sub_del rfl ?_ | refine sub_insL_nil ?_) ⟨by omega, hst_.symm, hR, hT, q2, q20, hbw⟩ (by simp only; omega)
                ·
                  rw [if_neg hdl] at hst_
                  refine EL.valg rfl rfl (x_lss rfl rfl (by first | assumption | exact decide_eq_false (by omega))) rfl ?_
                  refine EL.val (x_pick_f rfl rfl) rfl ?_
                  refine EL.nil ?_
                  refine EX.seq ?_
                  refine EC.no rfl ?_
                  refine EC.skip ?_
                  refine EX.seq ?_
                  refine EC.region ?_
                  refine EL.val (x_move rfl) rfl ?_
                  refine EL.val (fa_23_1 rfl) rfl ?_
                  refine EL.val (ld_3 rfl (q23.at (j := 1) rfl)) rfl ?_
                  refine EL.val (mm_max rfl rfl rfl) rfl ?_
                  refine EL.val (x_assign rfl) rfl ?_
                  refine EL.nil ?_
                  refine EX.blk ?_
                  refine EX.seq ?_
                  refine EC.region ?_
                  refine EL.val (x_move rfl) rfl ?_
                  refine EL.val (x_add rfl rfl (by first | assumption | exact IntWalk.i64_in _ ⟨by omega, by omega⟩)) rfl ?_
                  refine EL.val (x_assign rfl) rfl ?_
                  refine EL.nil ?_
                  refine EX.roundD (n + 1, ⟨s.lo, s.pass, s.hour, max s.most dd.hi⟩) ⟨by rw [show y.hours.lo + ((n + 1 : Nat) : Int) = y.hours.lo + ((n : Nat) : Int) + 1 by omega]; rfl, rfl, rfl, rfl, trivial⟩ (by repeat first | exact Sub.refl _ | refine sub_past rfl ?_ | refine sub_del rfl ?_ | refine sub_insL_nil ?_) ⟨by omega, hst_.symm, hR, hT, q2, q20, hbw⟩ (by simp only; omega)
            ·
              obtain rfl : n = hoursN y.hours := by omega
              rw [← hs] at hus
              have hsb := plIn_bd hO hI (j := i) hlt
              rw [← ey, ← hs] at hsb
              refine EC.seq ?_
              refine EC.seq ?_
              refine EC.region ?_
              refine EL.val (x_move rfl) rfl ?_
              refine EL.val (fa_101_1 rfl) rfl ?_
              refine EL.val (fa_23_1 rfl) rfl ?_
              refine EL.val (ld_3 rfl (q20.at (j := 2) rfl)) rfl ?_
              refine EL.val (x_leq rfl rfl (by first | assumption | exact decide_eq_false (by omega))) rfl ?_
              refine EL.nil ?_
              refine EX.seq ?_
              refine EC.no rfl ?_
              refine EC.exit ?_
              refine EX.seq_exit ?_
              refine EX.seq_exit ?_
              refine EX.blk_here ?_
              refine EX.seq ?_
              refine EC.seq ?_
              refine EC.region ?_
              refine EL.val (x_move rfl) rfl ?_
              by_cases hj0 : i = 0
              ·
                have hmin : min (shUp rv sides l i).hi s.most = s.most := by subst hj0; simp only [shUp]; omega
                refine EL.val (x_eql rfl rfl (by first | assumption | exact decide_eq_true (by omega))) rfl ?_
                refine EL.val (x_move rfl) rfl ?_
                refine EL.skip rfl rfl rfl rfl ?_
                refine EL.skip rfl rfl rfl rfl ?_
                refine EL.skip rfl rfl rfl rfl ?_
                refine EL.skip rfl rfl rfl rfl ?_
                refine EL.val (x_pick_t rfl rfl) rfl ?_
                refine EL.nil ?_
                refine EX.seq ?_
                refine EC.yes rfl ?_
                refine EC.region ?_
                refine EL.val (x_move rfl) rfl ?_
                refine EL.val (fa_23_1 rfl) rfl ?_
                refine EL.store rfl rfl q2 sz_3 rfl rfl rfl rfl ?_
                intro w28 hq28 hg28
                replace q20 := q20.grown hg28 (fun h => n2_20.symm (Option.some.inj h))
                replace hT := hT.keepOff hT6 hg28
                replace hR := hR.keepOff hR6 hg28
                replace hbw := below_store hbw hg28 bhbw_2
                replace q2 := hq28
                clear hg28 hq28
                refine EL.nil ?_
                refine EX.blk ?_
                refine EX.seq ?_
                refine EC.region ?_
                refine EL.val (x_add rfl rfl (by first | assumption | exact IntWalk.i64_in _ ⟨by omega, by omega⟩)) rfl ?_
                refine EL.val (x_move rfl) rfl ?_
                refine EL.nil ?_
                refine EX.roundD (i + 1, ⟨s.lo, s.most, s.pass, s.hour⟩) ⟨rfl, rfl, rfl, trivial⟩ (by repeat first | exact Sub.refl _ | refine sub_past rfl ?_ | refine sub_del rfl ?_ | refine sub_insL_nil ?_) ⟨hlt, by rw [hus, hmin], hR, hT, q2, hbw⟩ (by simp only; omega)
              ·
                have hsh : st.hi = (shUp rv sides l i).hi := by rw [hst2, plUp, if_neg hj0]
                refine EL.val (x_eql rfl rfl (by first | assumption | exact decide_eq_false (by omega))) rfl ?_
                refine EL.val (x_move rfl) rfl ?_
                refine EL.valg rfl rfl (x_move rfl) rfl ?_
                refine EL.valg rfl rfl (fa_23_1 rfl) rfl ?_
                refine EL.valg rfl rfl (ld_3 rfl (q2.at (j := 1) rfl)) rfl ?_
                by_cases hml : s.most < st.hi
                ·
                  have hmin : min (shUp rv sides l i).hi s.most = s.most := by omega
                  refine EL.valg rfl rfl (x_lss rfl rfl (by first | assumption | exact decide_eq_true (by omega))) rfl ?_
                  refine EL.val (x_pick_f rfl rfl) rfl ?_
                  refine EL.nil ?_
                  refine EX.seq ?_
                  refine EC.yes rfl ?_
                  refine EC.region ?_
                  refine EL.val (x_move rfl) rfl ?_
                  refine EL.val (fa_23_1 rfl) rfl ?_
                  refine EL.store rfl rfl q2 sz_3 rfl rfl rfl rfl ?_
                  intro w29 hq29 hg29
                  replace q20 := q20.grown hg29 (fun h => n2_20.symm (Option.some.inj h))
                  replace hT := hT.keepOff hT6 hg29
                  replace hR := hR.keepOff hR6 hg29
                  replace hbw := below_store hbw hg29 bhbw_2
                  replace q2 := hq29
                  clear hg29 hq29
                  refine EL.nil ?_
                  refine EX.blk ?_
                  refine EX.seq ?_
                  refine EC.region ?_
                  refine EL.val (x_add rfl rfl (by first | assumption | exact IntWalk.i64_in _ ⟨by omega, by omega⟩)) rfl ?_
                  refine EL.val (x_move rfl) rfl ?_
                  refine EL.nil ?_
                  refine EX.roundD (i + 1, ⟨s.lo, s.most, s.pass, s.hour⟩) ⟨rfl, rfl, rfl, trivial⟩ (by repeat first | exact Sub.refl _ | refine sub_past rfl ?_ | refine sub_del rfl ?_ | refine sub_insL_nil ?_) ⟨hlt, by rw [hus, hmin], hR, hT, q2, hbw⟩ (by simp only; omega)
                ·
                  have hmin : min (shUp rv sides l i).hi s.most = st.hi := by omega
                  refine EL.valg rfl rfl (x_lss rfl rfl (by first | assumption | exact decide_eq_false (by omega))) rfl ?_
                  refine EL.val (x_pick_f rfl rfl) rfl ?_
                  refine EL.nil ?_
                  refine EX.seq ?_
                  refine EC.no rfl ?_
                  refine EC.skip ?_
                  refine EX.blk ?_
                  refine EX.seq ?_
                  refine EC.region ?_
                  refine EL.val (x_add rfl rfl (by first | assumption | exact IntWalk.i64_in _ ⟨by omega, by omega⟩)) rfl ?_
                  refine EL.val (x_move rfl) rfl ?_
                  refine EL.nil ?_
                  refine EX.roundD (i + 1, ⟨s.lo, st.hi, s.pass, s.hour⟩) ⟨rfl, rfl, rfl, trivial⟩ (by repeat first | exact Sub.refl _ | refine sub_past rfl ?_ | refine sub_del rfl ?_ | refine sub_insL_nil ?_) ⟨hlt, by rw [hus, hmin], hR, hT, q2, hbw⟩ (by simp only; omega)
          ·
            obtain rfl : i = l.length := by omega
            have hfin : st = shUp rv sides l l.length := by rw [hst2, plUp, if_neg h0]
            rw [← hfin] at hvr
            refine EC.seq ?_
            refine EC.region ?_
            refine EL.val (x_lss rfl rfl (by first | assumption | exact decide_eq_false (by omega))) rfl ?_
            refine EL.nil ?_
            refine EX.seq ?_
            refine EC.seq ?_
            refine EC.no rfl ?_
            refine EC.exit ?_
            refine EX.seq_exit ?_
            refine EX.seq_exit ?_
            refine EX.blk_here ?_
            refine EX.seq ?_
            refine EC.seq ?_
            refine EC.region ?_
            refine EL.val (ld_23 rfl (q2.at (j := 0) rfl) (q2.at (j := 1) rfl)) rfl ?_
            refine EL.val (x_move rfl) rfl ?_
            refine EL.val (x_move rfl) rfl ?_
            refine EL.store rfl rfl q2 sz_23 rfl rfl rfl rfl ?_
            intro w30 hq30 hg30
            replace hT := hT.keepOff hT6 hg30
            replace hR := hR.keepOff hR6 hg30
            replace hbw := below_store hbw hg30 bhbw_2
            replace q2 := hq30
            clear hg30 hq30
            refine EL.val (x_assign rfl) rfl ?_
            refine EL.val (x_assign rfl) rfl ?_
            refine EL.val (x_assign rfl) rfl ?_
            refine EL.nil ?_
            refine EX.seq ?_
            refine EC.ret ?_
            exact EX.done (resc3 rfl rfl rfl rfl rfl (lv_23 (q2.at rfl) (q2.at rfl))) ⟨by rw [hve, hvr] <;> rfl, hbw⟩
  ·
    obtain ⟨hve, hvr⟩ := sha_open (l := l) hst
    refine EL.call (cl_73 rfl rfl) rfl (open_bad rv sides _ _ _ vs ss _ B (hr.below (hbw.mono hB)) (hs.below (hbw.mono hB)) (Nat.le_trans hB hbw.size) hl hl2 hcv hl3 hsb hst) ?_
    rintro e w31 ⟨rfl, hc31⟩
    refine ⟨_, rfl, ?_⟩
    replace q1 := q1.below hc31 q1.lt
    replace q2 := q2.below hc31 q2.lt
    replace hbw := Below.on hbw hc31 hbw.size
    clear hc31
    refine EL.val (x_move rfl) rfl ?_
    refine EL.val (x_extract rfl rfl) rfl ?_
    refine EL.val (x_extract rfl rfl) rfl ?_
    refine EL.val (x_assign rfl) rfl ?_
    refine EL.val (x_assign rfl) rfl ?_
    refine EL.nil ?_
    refine EX.seq ?_
    refine EC.seq ?_
    refine EC.block ?_
    refine EC.seq ?_
    refine EC.region ?_
    refine EL.val (x_move rfl) rfl ?_
    refine EL.val (x_neq rfl rfl (by first | assumption | exact decide_eq_true (by omega))) rfl ?_
    refine EL.val (x_assign rfl) rfl ?_
    refine EL.nil ?_
    refine EX.seq ?_
    refine EC.yes rfl ?_
    refine EC.seq ?_
    refine EC.region ?_
    refine EL.val (ld_23 rfl (q2.at (j := 0) rfl) (q2.at (j := 1) rfl)) rfl ?_
    refine EL.val (x_move rfl) rfl ?_
    refine EL.store rfl rfl q2 sz_23 rfl rfl rfl rfl ?_
    intro w32 hq32 hg32
    replace q1 := q1.grown hg32 (fun h => n1_2 (Option.some.inj h))
    replace hbw := below_store hbw hg32 bhbw_2
    replace q2 := hq32
    clear hg32 hq32
    refine EL.val (x_assign rfl) rfl ?_
    refine EL.val (x_assign rfl) rfl ?_
    refine EL.val (x_assign rfl) rfl ?_
    refine EL.nil ?_
    refine EX.seq ?_
    refine EC.ret ?_
    refine EX.blk_ret ?_
    refine EX.seq_ret ?_
    exact EX.done (resc3 rfl rfl rfl rfl rfl (lv_23 (q2.at rfl) (q2.at rfl))) ⟨by rw [hve, hvr] <;> rfl, hbw⟩
end Go.Proofs.Ytncnlhkmdljgpaa
set_option linter.unusedVariables false
set_option linter.unusedSimpArgs false
namespace Go.Proofs.Ytncnlhkmdljgpaa
open Go Go.RowKit
theorem pass_info2 : (Try.prog.info? 101).map (fun i => (i.zero, i.size, i.bytes)) = some (some (.agg #[.int .i64 0, .int .i64 0, .int .i64 0]), 3, 24) := by kernel_rfl
theorem pass_elem2 : Elem Try.prog 99 101 3 24 := Elem.mk' Try.underlying99 pass_info2 rfl (by omega)
theorem passes_all {l : List Pass} {w : World} {B : Nat} {A : Option Addr} {n c : Nat} (hr : Rd w B 3 (.slice A n c) n (passesC l)) (h0 : 0 < l.length) : ∃ b o, A = some ⟨b, o, none⟩ ∧ ∀ k, k < l.length → PassAt w b (o + k * 3) (l.getD k pass0) := by
  obtain ⟨b, o, e, _, _⟩ := passes_cells l 0 h0 w B A n c hr
  refine ⟨b, o, e, fun k hk => ?_⟩
  obtain ⟨b1, o1, e1, _, h1⟩ := passes_cells l k hk w B A n c hr
  rw [e] at e1
  injection e1 with e1
  injection e1 with e2 e3
  subst e2
  subst e3
  exact h1
theorem dep_good (rv : River) (sides : List (List Bd)) (v u s : Value) (vs ss : List Value) (w : World) (B : Nat) (hr : RdRiver w B v u rv vs) (hs : RdSides w B s sides ss) (hB : B ≤ w.heap.size) (hf : Fine rv sides) (hst : startErr rv sides = 0) {p t : Int} (hp : inB 0 (placesOf rv.reaches - 1) p = true) (ht : inB 0 (((sides.getD 0 []).length : Nat) - 1 : Int) t = true) :
    Calls Try.prog 33 #[.agg #[v, u], s, .int .i64 p, .int .i64 t] w fun e w' => e = .returned (.tuple #[.agg #[.int .i64 (depthAt rv sides p t).lo, .int .i64 (depthAt rv sides p t).hi], .int .i64 0]) ∧ Below w.heap.size w w' := by
  have f1 := hf.nreaches
  have f2 := hf.nshoals
  have f5 := hf.nsides
  exact dep_ok rv sides v u s vs ss w B hr hs hB (by omega) (by omega) hf.curves (by omega) hf.sidesB p t hst hp ht
theorem shallow_good (rv : River) (sides : List (List Bd)) (v u s : Value) (vs ss : List Value) (l : List Pass) (vl : Value) (w : World) (B : Nat) (hr : RdRiver w B v u rv vs) (hs : RdSides w B s sides ss) (hB : B ≤ w.heap.size) (hw : Rd w B 3 vl l.length (passesC l)) (hf : Fine rv sides) (hst : startErr rv sides = 0) (hok : WayOk rv sides l) :
    Calls Try.prog 51 #[.agg #[v, u], s, vl] w fun e w' => e = .returned (.tuple #[.agg #[.int .i64 (shUp rv sides l l.length).lo, .int .i64 (shUp rv sides l l.length).hi], .int .i64 (shUp rv sides l l.length).pass, .int .i64 (shUp rv sides l l.length).hour, .int .i64 0]) ∧ Below w.heap.size w w' := by
  have f1 := hf.nreaches
  have f2 := hf.nshoals
  have f5 := hf.nsides
  obtain ⟨h1, h2⟩ := sha_ok hst (way_zero hok)
  have key := shallow_any rv sides v u s vs ss l vl w B hr hs hB hw (by omega) (by omega) hf.curves (by omega) hf.sidesB
  rw [h1, h2] at key
  exact key
theorem in_true (b : Bd) (n : Int) (w : World) (h1 : b.lo ≤ n) (h2 : n ≤ b.hi) :
    Calls Try.prog 54 #[.agg #[.int .i64 b.lo, .int .i64 b.hi], .int .i64 n] w fun e w' => e = .returned (.bool true) ∧ Below w.heap.size w w' := by
  have hbw := Below.refl w.heap.size w
  refine EC.enter 15 Try.func54 rfl rfl rfl ?_
  refine EC.seq ?_
  refine EC.region ?_
  refine EL.newP (bx_23 rfl) rfl ?_
  intro g1 w1 q1 hb1 hg1 hl1
  have bhbw_1 := Nat.le_trans hbw.size hg1
  replace hbw := Below.on hbw hb1 hbw.size
  clear hb1 hg1 hl1
  refine EL.val (x_assign rfl) rfl ?_
  refine EL.nil ?_
  refine EX.seq ?_
  refine EC.seq ?_
  refine EC.region ?_
  refine EL.val (x_move rfl) rfl ?_
  refine EL.val (fa_23_0 rfl) rfl ?_
  refine EL.val (ld_3 rfl (q1.at (j := 0) rfl)) rfl ?_
  refine EL.val (x_geq rfl rfl (by first | assumption | exact decide_eq_true (by omega))) rfl ?_
  refine EL.val (x_move rfl) rfl ?_
  refine EL.valg rfl rfl (x_move rfl) rfl ?_
  refine EL.valg rfl rfl (fa_23_1 rfl) rfl ?_
  refine EL.valg rfl rfl (ld_3 rfl (q1.at (j := 1) rfl)) rfl ?_
  refine EL.valg rfl rfl (x_leq rfl rfl (by first | assumption | exact decide_eq_true (by omega))) rfl ?_
  refine EL.val (x_pick_t rfl rfl) rfl ?_
  refine EL.val (x_assign rfl) rfl ?_
  refine EL.nil ?_
  refine EX.seq ?_
  refine EC.ret ?_
  exact EX.done (res1 rfl rfl) ⟨rfl, hbw⟩
end Go.Proofs.Ytncnlhkmdljgpaa
set_option linter.unusedVariables false
namespace Go.Proofs.Ytncnlhkmdljgpaa
open Go Go.RowKit
theorem lev_ok (x : Reach) (v : Value) (fl : Bd) (w : World) (B : Nat) (hr : Rd w B 2 v x.curve.length (rowsC x.curve)) (hB : B ≤ w.heap.size) (hl : x.curve.length ≤ 1048576) (hx : reachB x = true) (hf : bdOk 0 210000000000 fl = true) :
    Calls Try.prog 28 #[.agg (reachV x v), .agg #[.int .i64 fl.lo, .int .i64 fl.hi]] w fun e w' => e = .returned (.tuple #[.agg #[.int .i64 (levelAt x fl).lo, .int .i64 (levelAt x fl).hi], .int .i64 0]) ∧ Below w.heap.size w w' := by
  obtain ⟨A_, c_, rfl, _⟩ := hr.shape
  have hbw := Below.refl w.heap.size w
  refine EC.enter 20 Try.func28 rfl rfl rfl ?_
  have he2 : decide (errB (reachB x) ≠ 0) = false := by rw [hx]; rfl
  refine EC.seq ?_
  refine EC.region ?_
  refine EL.newP (bx_50 rfl) rfl ?_
  intro g1 w1 q1 hb1 hg1 hl1
  have bhbw_1 := Nat.le_trans hbw.size hg1
  replace hbw := Below.on hbw hb1 hbw.size
  clear hb1 hg1 hl1
  refine EL.newP (bx_23 rfl) rfl ?_
  intro g2 w2 q2 hb2 hg2 hl2
  have n1_2 : g1 ≠ g2 := Nat.ne_of_lt (Nat.lt_of_lt_of_le q1.lt hg2)
  have bhbw_2 := Nat.le_trans hbw.size hg2
  replace q1 := q1.below hb2 q1.lt
  replace hbw := Below.on hbw hb2 hbw.size
  clear hb2 hg2 hl2
  refine EL.newP al_23 rfl ?_
  intro g3 w3 q3 hb3 hg3 hl3
  have n1_3 : g1 ≠ g3 := Nat.ne_of_lt (Nat.lt_of_lt_of_le q1.lt hg3)
  have n2_3 : g2 ≠ g3 := Nat.ne_of_lt (Nat.lt_of_lt_of_le q2.lt hg3)
  have bhbw_3 := Nat.le_trans hbw.size hg3
  replace q1 := q1.below hb3 q1.lt
  replace q2 := q2.below hb3 q2.lt
  replace hbw := Below.on hbw hb3 hbw.size
  clear hb3 hg3 hl3
  refine EL.val (x_assign rfl) rfl ?_
  refine EL.nil ?_
  refine EX.seq ?_
  refine EC.seq ?_
  refine EC.block ?_
  refine EC.seq ?_
  refine EC.region ?_
  refine EL.val (ld_50 rfl (q1.at (j := 0) rfl) (q1.at (j := 1) rfl) (q1.at (j := 2) rfl) (q1.at (j := 3) rfl) (q1.at (j := 4) rfl) (q1.at (j := 5) rfl) (q1.at (j := 6) rfl) (q1.at (j := 7) rfl) (q1.at (j := 8) rfl)) rfl ?_
  refine EL.call (cl_66 rfl) rfl (checkReach_any x _ _ B (hr.below (hbw.mono hB)) (Nat.le_trans hB hbw.size) hl) ?_
  rintro e w4 ⟨rfl, hc4⟩
  refine ⟨_, rfl, ?_⟩
  replace q1 := q1.below hc4 q1.lt
  replace q2 := q2.below hc4 q2.lt
  replace q3 := q3.below hc4 q3.lt
  replace hbw := Below.on hbw hc4 hbw.size
  clear hc4
  refine EL.val (x_neq rfl rfl (by first | assumption | exact decide_eq_false (by omega))) rfl ?_
  refine EL.val (x_assign rfl) rfl ?_
  refine EL.nil ?_
  refine EX.seq ?_
  refine EC.no rfl ?_
  refine EC.seq ?_
  refine EC.region ?_
  refine EL.val (ld_23 rfl (q2.at (j := 0) rfl) (q2.at (j := 1) rfl)) rfl ?_
  refine EL.newS (bs_28_1 rfl) rfl ?_
  intro g5 w5 q5 hb5 hg5 hl5
  have n1_5 : g1 ≠ g5 := Nat.ne_of_lt (Nat.lt_of_lt_of_le q1.lt hg5)
  have n2_5 : g2 ≠ g5 := Nat.ne_of_lt (Nat.lt_of_lt_of_le q2.lt hg5)
  have n3_5 : g3 ≠ g5 := Nat.ne_of_lt (Nat.lt_of_lt_of_le q3.lt hg5)
  have bhbw_5 := Nat.le_trans hbw.size hg5
  replace q1 := q1.below hb5 q1.lt
  replace q2 := q2.below hb5 q2.lt
  replace q3 := q3.below hb5 q3.lt
  replace hbw := Below.on hbw hb5 hbw.size
  clear hb5 hg5 hl5
  refine EL.call (cl_58 rfl rfl rfl) rfl (isv_one fl _ _ true _ q5 hf) ?_
  rintro e w6 ⟨rfl, hc6⟩
  refine ⟨_, rfl, ?_⟩
  replace q1 := q1.below hc6 q1.lt
  replace q2 := q2.below hc6 q2.lt
  replace q3 := q3.below hc6 q3.lt
  replace q5 := q5.below hc6 q5.lt
  replace hbw := Below.on hbw hc6 hbw.size
  clear hc6
  refine EL.val (x_not rfl) rfl ?_
  refine EL.val (x_assign rfl) rfl ?_
  refine EL.nil ?_
  refine EX.seq ?_
  refine EC.no rfl ?_
  refine EC.skip ?_
  refine EX.blk ?_
  refine EX.seq ?_
  refine EC.seq ?_
  refine EC.region ?_
  refine EL.val (ld_50 rfl (q1.at (j := 0) rfl) (q1.at (j := 1) rfl) (q1.at (j := 2) rfl) (q1.at (j := 3) rfl) (q1.at (j := 4) rfl) (q1.at (j := 5) rfl) (q1.at (j := 6) rfl) (q1.at (j := 7) rfl) (q1.at (j := 8) rfl)) rfl ?_
  refine EL.val (ld_23 rfl (q2.at (j := 0) rfl) (q2.at (j := 1) rfl)) rfl ?_
  refine EL.call (cl_69 rfl rfl) rfl (level_any x _ fl _ B (hr.below (hbw.mono hB)) (Nat.le_trans hB hbw.size) (reachB_ok hx) (by have := bdOk_iff.1 hf; omega)) ?_
  rintro e w7 ⟨rfl, hc7⟩
  refine ⟨_, rfl, ?_⟩
  replace q1 := q1.below hc7 q1.lt
  replace q2 := q2.below hc7 q2.lt
  replace q3 := q3.below hc7 q3.lt
  replace hbw := Below.on hbw hc7 hbw.size
  clear hc7
  refine EL.store rfl rfl q3 sz_23 rfl rfl rfl rfl ?_
  intro w8 hq8 hg8
  replace q1 := q1.grown hg8 (fun h => n1_3 (Option.some.inj h))
  replace q2 := q2.grown hg8 (fun h => n2_3 (Option.some.inj h))
  replace hbw := below_store hbw hg8 bhbw_3
  replace q3 := hq8
  clear hg8 hq8
  refine EL.val (x_assign rfl) rfl ?_
  refine EL.nil ?_
  refine EX.seq ?_
  refine EC.ret ?_
  exact EX.done (resct rfl rfl rfl (lv_23 (q3.at rfl) (q3.at rfl))) ⟨rfl, hbw⟩
section
variable {c : List Row} {f : Int} {up : Bool} {i : Nat}
end
end Go.Proofs.Ytncnlhkmdljgpaa
