/- River: the laws' helpers two and known (printed by gen_w3.py). -/
import Derived.Test.YtncnlhkmdljgpaaW2
import Derived.Test.YtncnlhkmdljgpaaEA
namespace Go.Proofs.Ytncnlhkmdljgpaa
open Go Go.RowKit

def twoReach1 : Reach := ⟨100, 2, ⟨1000, 1000⟩, [⟨0, 100⟩, ⟨10000, 300⟩], 0, ⟨50, 60⟩, 400⟩
def twoReach2 : Reach := ⟨50, 1, ⟨2000, 2000⟩, [⟨0, 0⟩, ⟨20000, 400⟩], 150, ⟨20, 20⟩, 160⟩
def twoShoal : Shoal := ⟨120, ⟨40, 50⟩, 0, ⟨0, 12⟩⟩
def twoR : River := ⟨[twoReach1, twoReach2], [twoShoal]⟩
def twoS : List (List Bd) := [[⟨2000, 3000⟩, ⟨2000, 3000⟩, ⟨2000, 3000⟩, ⟨2000, 3000⟩], [⟨500, 500⟩, ⟨500, 500⟩, ⟨500, 500⟩, ⟨500, 500⟩]]
theorem RdReaches.more' {w : World} {B B' : Nat} {v : Value} {l : List Reach} {vs : List Value} (h : RdReaches w B v l vs) (hB : B ≤ B') : RdReaches w B' v l vs := h.more hB

theorem two_any (w : World) : Calls Try.prog 56 #[] w fun e w' => (∃ v u s vs ss, e = .returned (.tuple #[.agg #[v, u], s]) ∧ RdRiver w' w'.heap.size v u twoR vs ∧ RdSides w' w'.heap.size s twoS ss) ∧ Below w.heap.size w w' := by
  have hbw := Below.refl w.heap.size w
  refine EC.enter 37 Try.func56 rfl rfl rfl ?_
  refine EC.seq ?_
  refine EC.region ?_
  refine EL.newP al_47 rfl ?_
  intro g1 w1 q1 hb1 hg1 hl1
  have bhbw_1 := Nat.le_trans hbw.size hg1
  replace hbw := Below.on hbw hb1 hbw.size
  clear hb1 hg1 hl1
  refine EL.val (x_assign rfl) rfl ?_
  refine EL.nil ?_
  refine EX.seq ?_
  refine EC.seq ?_
  refine EC.region ?_
  refine EL.val (bd_23_0_1 rfl rfl) rfl ?_
  refine EL.val (bd_126_1 rfl) rfl ?_
  refine EL.val (bd_126_0_1 rfl rfl) rfl ?_
  refine EL.newS (bs_48_2 rfl rfl) rfl ?_
  intro g2 w2 q2 hb2 hg2 hl2
  have n1_2 : g1 ≠ g2 := Nat.ne_of_lt (Nat.lt_of_lt_of_le q1.lt hg2)
  have bhbw_2 := Nat.le_trans hbw.size hg2
  replace q1 := q1.below hb2 q1.lt
  replace hbw := Below.on hbw hb2 hbw.size
  clear hb2 hg2 hl2
  refine EL.val (bd_23_0_1 rfl rfl) rfl ?_
  refine EL.val (bd_50_0_1_2_3_5_6 rfl rfl rfl rfl rfl rfl) rfl ?_
  refine EL.val (bd_23_0_1 rfl rfl) rfl ?_
  refine EL.val (bd_126_) rfl ?_
  refine EL.val (bd_126_0_1 rfl rfl) rfl ?_
  refine EL.newS (bs_48_2 rfl rfl) rfl ?_
  intro g3 w3 q3 hb3 hg3 hl3
  have n1_3 : g1 ≠ g3 := Nat.ne_of_lt (Nat.lt_of_lt_of_le q1.lt hg3)
  have n2_3 : g2 ≠ g3 := Nat.ne_of_lt (Nat.lt_of_lt_of_le q2.lt hg3)
  have bhbw_3 := Nat.le_trans hbw.size hg3
  replace q1 := q1.below hb3 q1.lt
  replace q2 := q2.below hb3 q2.lt
  replace hbw := Below.on hbw hb3 hbw.size
  clear hb3 hg3 hl3
  refine EL.val (bd_23_0_1 rfl rfl) rfl ?_
  refine EL.val (bd_50_0_1_2_3_4_5_6 rfl rfl rfl rfl rfl rfl rfl) rfl ?_
  refine EL.newS (bs_44_2 rfl rfl) rfl ?_
  intro g4 w4 q4 hb4 hg4 hl4
  have n1_4 : g1 ≠ g4 := Nat.ne_of_lt (Nat.lt_of_lt_of_le q1.lt hg4)
  have n2_4 : g2 ≠ g4 := Nat.ne_of_lt (Nat.lt_of_lt_of_le q2.lt hg4)
  have n3_4 : g3 ≠ g4 := Nat.ne_of_lt (Nat.lt_of_lt_of_le q3.lt hg4)
  have bhbw_4 := Nat.le_trans hbw.size hg4
  replace q1 := q1.below hb4 q1.lt
  replace q2 := q2.below hb4 q2.lt
  replace q3 := q3.below hb4 q3.lt
  replace hbw := Below.on hbw hb4 hbw.size
  clear hb4 hg4 hl4
  refine EL.val (bd_23_0_1 rfl rfl) rfl ?_
  refine EL.val (bd_23_1 rfl) rfl ?_
  refine EL.val (bd_97_0_1_3 rfl rfl rfl) rfl ?_
  refine EL.newS (bs_45_1 rfl) rfl ?_
  intro g5 w5 q5 hb5 hg5 hl5
  have n1_5 : g1 ≠ g5 := Nat.ne_of_lt (Nat.lt_of_lt_of_le q1.lt hg5)
  have n2_5 : g2 ≠ g5 := Nat.ne_of_lt (Nat.lt_of_lt_of_le q2.lt hg5)
  have n3_5 : g3 ≠ g5 := Nat.ne_of_lt (Nat.lt_of_lt_of_le q3.lt hg5)
  have n4_5 : g4 ≠ g5 := Nat.ne_of_lt (Nat.lt_of_lt_of_le q4.lt hg5)
  have bhbw_5 := Nat.le_trans hbw.size hg5
  replace q1 := q1.below hb5 q1.lt
  replace q2 := q2.below hb5 q2.lt
  replace q3 := q3.below hb5 q3.lt
  replace q4 := q4.below hb5 q4.lt
  replace hbw := Below.on hbw hb5 hbw.size
  clear hb5 hg5 hl5
  refine EL.val (bd_47_0_1 rfl rfl) rfl ?_
  refine EL.newP al_47 rfl ?_
  intro g6 w6 q6 hb6 hg6 hl6
  have n1_6 : g1 ≠ g6 := Nat.ne_of_lt (Nat.lt_of_lt_of_le q1.lt hg6)
  have n2_6 : g2 ≠ g6 := Nat.ne_of_lt (Nat.lt_of_lt_of_le q2.lt hg6)
  have n3_6 : g3 ≠ g6 := Nat.ne_of_lt (Nat.lt_of_lt_of_le q3.lt hg6)
  have n4_6 : g4 ≠ g6 := Nat.ne_of_lt (Nat.lt_of_lt_of_le q4.lt hg6)
  have n5_6 : g5 ≠ g6 := Nat.ne_of_lt (Nat.lt_of_lt_of_le q5.lt hg6)
  have bhbw_6 := Nat.le_trans hbw.size hg6
  replace q1 := q1.below hb6 q1.lt
  replace q2 := q2.below hb6 q2.lt
  replace q3 := q3.below hb6 q3.lt
  replace q4 := q4.below hb6 q4.lt
  replace q5 := q5.below hb6 q5.lt
  replace hbw := Below.on hbw hb6 hbw.size
  clear hb6 hg6 hl6
  refine EL.store rfl rfl q6 sz_47 rfl rfl rfl rfl ?_
  intro w7 hq7 hg7
  replace q1 := q1.grown hg7 (fun h => n1_6 (Option.some.inj h))
  replace q2 := q2.grown hg7 (fun h => n2_6 (Option.some.inj h))
  replace q3 := q3.grown hg7 (fun h => n3_6 (Option.some.inj h))
  replace q4 := q4.grown hg7 (fun h => n4_6 (Option.some.inj h))
  replace q5 := q5.grown hg7 (fun h => n5_6 (Option.some.inj h))
  replace hbw := below_store hbw hg7 bhbw_6
  replace q6 := hq7
  clear hg7 hq7
  refine EL.nil ?_
  refine EX.seq ?_
  refine EC.seq ?_
  refine EC.region ?_
  refine EL.val (bd_23_0_1 rfl rfl) rfl ?_
  refine EL.val (bd_23_0_1 rfl rfl) rfl ?_
  refine EL.newP al_23 rfl ?_
  intro g8 w8 q8 hb8 hg8 hl8
  have n1_8 : g1 ≠ g8 := Nat.ne_of_lt (Nat.lt_of_lt_of_le q1.lt hg8)
  have n2_8 : g2 ≠ g8 := Nat.ne_of_lt (Nat.lt_of_lt_of_le q2.lt hg8)
  have n3_8 : g3 ≠ g8 := Nat.ne_of_lt (Nat.lt_of_lt_of_le q3.lt hg8)
  have n4_8 : g4 ≠ g8 := Nat.ne_of_lt (Nat.lt_of_lt_of_le q4.lt hg8)
  have n5_8 : g5 ≠ g8 := Nat.ne_of_lt (Nat.lt_of_lt_of_le q5.lt hg8)
  have n6_8 : g6 ≠ g8 := Nat.ne_of_lt (Nat.lt_of_lt_of_le q6.lt hg8)
  have bhbw_8 := Nat.le_trans hbw.size hg8
  replace q1 := q1.below hb8 q1.lt
  replace q2 := q2.below hb8 q2.lt
  replace q3 := q3.below hb8 q3.lt
  replace q4 := q4.below hb8 q4.lt
  replace q5 := q5.below hb8 q5.lt
  replace q6 := q6.below hb8 q6.lt
  replace hbw := Below.on hbw hb8 hbw.size
  clear hb8 hg8 hl8
  refine EL.newP al_23 rfl ?_
  intro g9 w9 q9 hb9 hg9 hl9
  have n1_9 : g1 ≠ g9 := Nat.ne_of_lt (Nat.lt_of_lt_of_le q1.lt hg9)
  have n2_9 : g2 ≠ g9 := Nat.ne_of_lt (Nat.lt_of_lt_of_le q2.lt hg9)
  have n3_9 : g3 ≠ g9 := Nat.ne_of_lt (Nat.lt_of_lt_of_le q3.lt hg9)
  have n4_9 : g4 ≠ g9 := Nat.ne_of_lt (Nat.lt_of_lt_of_le q4.lt hg9)
  have n5_9 : g5 ≠ g9 := Nat.ne_of_lt (Nat.lt_of_lt_of_le q5.lt hg9)
  have n6_9 : g6 ≠ g9 := Nat.ne_of_lt (Nat.lt_of_lt_of_le q6.lt hg9)
  have n8_9 : g8 ≠ g9 := Nat.ne_of_lt (Nat.lt_of_lt_of_le q8.lt hg9)
  have bhbw_9 := Nat.le_trans hbw.size hg9
  replace q1 := q1.below hb9 q1.lt
  replace q2 := q2.below hb9 q2.lt
  replace q3 := q3.below hb9 q3.lt
  replace q4 := q4.below hb9 q4.lt
  replace q5 := q5.below hb9 q5.lt
  replace q6 := q6.below hb9 q6.lt
  replace q8 := q8.below hb9 q8.lt
  replace hbw := Below.on hbw hb9 hbw.size
  clear hb9 hg9 hl9
  refine EL.store rfl rfl q8 sz_23 rfl rfl rfl rfl ?_
  intro w10 hq10 hg10
  replace q1 := q1.grown hg10 (fun h => n1_8 (Option.some.inj h))
  replace q2 := q2.grown hg10 (fun h => n2_8 (Option.some.inj h))
  replace q3 := q3.grown hg10 (fun h => n3_8 (Option.some.inj h))
  replace q4 := q4.grown hg10 (fun h => n4_8 (Option.some.inj h))
  replace q5 := q5.grown hg10 (fun h => n5_8 (Option.some.inj h))
  replace q6 := q6.grown hg10 (fun h => n6_8 (Option.some.inj h))
  replace q9 := q9.grown hg10 (fun h => n8_9.symm (Option.some.inj h))
  replace hbw := below_store hbw hg10 bhbw_8
  replace q8 := hq10
  clear hg10 hq10
  refine EL.store rfl rfl q9 sz_23 rfl rfl rfl rfl ?_
  intro w11 hq11 hg11
  replace q1 := q1.grown hg11 (fun h => n1_9 (Option.some.inj h))
  replace q2 := q2.grown hg11 (fun h => n2_9 (Option.some.inj h))
  replace q3 := q3.grown hg11 (fun h => n3_9 (Option.some.inj h))
  replace q4 := q4.grown hg11 (fun h => n4_9 (Option.some.inj h))
  replace q5 := q5.grown hg11 (fun h => n5_9 (Option.some.inj h))
  replace q6 := q6.grown hg11 (fun h => n6_9 (Option.some.inj h))
  replace q8 := q8.grown hg11 (fun h => n8_9 (Option.some.inj h))
  replace hbw := below_store hbw hg11 bhbw_9
  replace q9 := hq11
  clear hg11 hq11
  refine EL.nil ?_
  refine EX.seq ?_
  refine EC.seq ?_
  have lt_1 := q1.lt
  have lt_2 := q2.lt
  have lt_3 := q3.lt
  have lt_4 := q4.lt
  have lt_5 := q5.lt
  have lt_6 := q6.lt
  have lt_8 := q8.lt
  have lt_9 := q9.lt
  refine EC.regionS [[], [], [], [], [], [1, 2, 3, 4], [], [], [], [], [6, 7, 8, 9], [1, 2, 3, 4, 5, 6, 7, 8, 9, 10], [0], [0, 1, 2, 3, 4, 5, 6, 7, 8, 9, 10, 11, 12]] 13 [] [12] (fun fl w_ => w11.grownBy w_ (some g1) ∧ (fl 12 = false → Blk w_ g1 47 _)) (phiS (fun i_ r => match i_ with | 0 => r 0 = .agg #[.slice (some ⟨g4, 0, none⟩) 2 2, .slice (some ⟨g5, 0, none⟩) 1 1] | 1 => r 1 = .agg #[.int .i64 2000, .int .i64 3000] | 2 => r 2 = .agg #[.int .i64 2000, .int .i64 3000] | 3 => r 3 = .agg #[.int .i64 2000, .int .i64 3000] | 4 => r 4 = .agg #[.int .i64 2000, .int .i64 3000] | 6 => r 6 = .agg #[.int .i64 500, .int .i64 500] | 7 => r 7 = .agg #[.int .i64 500, .int .i64 500] | 8 => r 8 = .agg #[.int .i64 500, .int .i64 500] | 9 => r 9 = .agg #[.int .i64 500, .int .i64 500] | _ => True) [(5, fun _ r w_ => ∃ g_, r 5 = .slice (some ⟨g_, 0, none⟩) 4 4 ∧ Blk w_ g_ 23 #[.int .i64 2000, .int .i64 3000, .int .i64 2000, .int .i64 3000, .int .i64 2000, .int .i64 3000, .int .i64 2000, .int .i64 3000] ∧ w11.heap.size ≤ g_), (10, fun _ r w_ => ∃ g_, r 10 = .slice (some ⟨g_, 0, none⟩) 4 4 ∧ Blk w_ g_ 23 #[.int .i64 500, .int .i64 500, .int .i64 500, .int .i64 500, .int .i64 500, .int .i64 500, .int .i64 500, .int .i64 500] ∧ w11.heap.size ≤ g_), (11, fun _ r w_ => ∃ g_, r 11 = .slice (some ⟨g_, 0, none⟩) 2 2 ∧ Blk w_ g_ 28 #[r 5, r 10] ∧ w11.heap.size ≤ g_), (12, fun _ r w_ => Blk w_ g1 47 #[.slice (some ⟨g4, 0, none⟩) 2 2, .slice (some ⟨g5, 0, none⟩) 1 1])]) (by kernel_rfl) rfl rfl (by intro i hi; simp at hi; first | (subst hi; exact ⟨by simp, by omega⟩) | (rcases hi with rfl | rfl | rfl <;> exact ⟨by simp, by omega⟩) | (rcases hi with rfl | rfl <;> exact ⟨by simp, by omega⟩)) (base_own q1) (phiS_cons monoS_bs (phiS_cons monoS_bs (phiS_cons monoS_bs (phiS_cons monoS_own (phiS_nil))))) (fun i_ hi_ hs_ => ?_) (fun i_ hi_ => ?_) ?_
  · match i_, hi_ with
    | 0, _ =>
      intro val fl w1 a hb ha hd hfl
      obtain ⟨hb, hg0⟩ := hb
      have ha := ha.sub (Sub.ins (d := 2) (Sub.nil _) rfl)
      exact ss_val ha rfl rfl (ld_47 rfl ((q6.grown hb (fun h => n1_6.symm (Option.some.inj h))).at (j := 0) rfl) ((q6.grown hb (fun h => n1_6.symm (Option.some.inj h))).at (j := 1) rfl)) rfl rfl
    | 1, _ =>
      intro val fl w1 a hb ha hd hfl
      obtain ⟨hb, hg0⟩ := hb
      have ha := ha.sub (Sub.ins (d := 3) (Sub.nil _) rfl)
      exact ss_val ha rfl rfl (ld_23 rfl ((q8.grown hb (fun h => n1_8.symm (Option.some.inj h))).at (j := 0) rfl) ((q8.grown hb (fun h => n1_8.symm (Option.some.inj h))).at (j := 1) rfl)) rfl rfl
    | 2, _ =>
      intro val fl w1 a hb ha hd hfl
      obtain ⟨hb, hg0⟩ := hb
      have ha := ha.sub (Sub.ins (d := 3) (Sub.nil _) rfl)
      exact ss_val ha rfl rfl (ld_23 rfl ((q8.grown hb (fun h => n1_8.symm (Option.some.inj h))).at (j := 0) rfl) ((q8.grown hb (fun h => n1_8.symm (Option.some.inj h))).at (j := 1) rfl)) rfl rfl
    | 3, _ =>
      intro val fl w1 a hb ha hd hfl
      obtain ⟨hb, hg0⟩ := hb
      have ha := ha.sub (Sub.ins (d := 3) (Sub.nil _) rfl)
      exact ss_val ha rfl rfl (ld_23 rfl ((q8.grown hb (fun h => n1_8.symm (Option.some.inj h))).at (j := 0) rfl) ((q8.grown hb (fun h => n1_8.symm (Option.some.inj h))).at (j := 1) rfl)) rfl rfl
    | 4, _ =>
      intro val fl w1 a hb ha hd hfl
      obtain ⟨hb, hg0⟩ := hb
      have ha := ha.sub (Sub.ins (d := 3) (Sub.nil _) rfl)
      exact ss_val ha rfl rfl (ld_23 rfl ((q8.grown hb (fun h => n1_8.symm (Option.some.inj h))).at (j := 0) rfl) ((q8.grown hb (fun h => n1_8.symm (Option.some.inj h))).at (j := 1) rfl)) rfl rfl
    | 5, _ =>
      intro val fl w1 a hb ha hd hfl
      obtain ⟨hb, hg0⟩ := hb
      have e1 : val 1 = .agg #[.int .i64 2000, .int .i64 3000] := hd 1 (memB_mem.1 rfl)
      have e2 : val 2 = .agg #[.int .i64 2000, .int .i64 3000] := hd 2 (memB_mem.1 rfl)
      have e3 : val 3 = .agg #[.int .i64 2000, .int .i64 3000] := hd 3 (memB_mem.1 rfl)
      have e4 : val 4 = .agg #[.int .i64 2000, .int .i64 3000] := hd 4 (memB_mem.1 rfl)
      have ha := ha.sub (Sub.ins (d := 29) (Sub.ins (d := 28) (Sub.ins (d := 27) (Sub.ins (d := 26) (Sub.nil _) (dep_get rfl e1)) (dep_get rfl e2)) (dep_get rfl e3)) (dep_get rfl e4))
      exact ss_newS ha rfl rfl (bs_28_4 rfl rfl rfl rfl) rfl (fun g w' hq _ hge => ⟨g, rfl, hq, Nat.le_trans hb.size hge⟩)
    | 6, _ =>
      intro val fl w1 a hb ha hd hfl
      obtain ⟨hb, hg0⟩ := hb
      have ha := ha.sub (Sub.ins (d := 4) (Sub.nil _) rfl)
      exact ss_val ha rfl rfl (ld_23 rfl ((q9.grown hb (fun h => n1_9.symm (Option.some.inj h))).at (j := 0) rfl) ((q9.grown hb (fun h => n1_9.symm (Option.some.inj h))).at (j := 1) rfl)) rfl rfl
    | 7, _ =>
      intro val fl w1 a hb ha hd hfl
      obtain ⟨hb, hg0⟩ := hb
      have ha := ha.sub (Sub.ins (d := 4) (Sub.nil _) rfl)
      exact ss_val ha rfl rfl (ld_23 rfl ((q9.grown hb (fun h => n1_9.symm (Option.some.inj h))).at (j := 0) rfl) ((q9.grown hb (fun h => n1_9.symm (Option.some.inj h))).at (j := 1) rfl)) rfl rfl
    | 8, _ =>
      intro val fl w1 a hb ha hd hfl
      obtain ⟨hb, hg0⟩ := hb
      have ha := ha.sub (Sub.ins (d := 4) (Sub.nil _) rfl)
      exact ss_val ha rfl rfl (ld_23 rfl ((q9.grown hb (fun h => n1_9.symm (Option.some.inj h))).at (j := 0) rfl) ((q9.grown hb (fun h => n1_9.symm (Option.some.inj h))).at (j := 1) rfl)) rfl rfl
    | 9, _ =>
      intro val fl w1 a hb ha hd hfl
      obtain ⟨hb, hg0⟩ := hb
      have ha := ha.sub (Sub.ins (d := 4) (Sub.nil _) rfl)
      exact ss_val ha rfl rfl (ld_23 rfl ((q9.grown hb (fun h => n1_9.symm (Option.some.inj h))).at (j := 0) rfl) ((q9.grown hb (fun h => n1_9.symm (Option.some.inj h))).at (j := 1) rfl)) rfl rfl
    | 10, _ =>
      intro val fl w1 a hb ha hd hfl
      obtain ⟨hb, hg0⟩ := hb
      have e6 : val 6 = .agg #[.int .i64 500, .int .i64 500] := hd 6 (memB_mem.1 rfl)
      have e7 : val 7 = .agg #[.int .i64 500, .int .i64 500] := hd 7 (memB_mem.1 rfl)
      have e8 : val 8 = .agg #[.int .i64 500, .int .i64 500] := hd 8 (memB_mem.1 rfl)
      have e9 : val 9 = .agg #[.int .i64 500, .int .i64 500] := hd 9 (memB_mem.1 rfl)
      have ha := ha.sub (Sub.ins (d := 34) (Sub.ins (d := 33) (Sub.ins (d := 32) (Sub.ins (d := 31) (Sub.nil _) (dep_get rfl e6)) (dep_get rfl e7)) (dep_get rfl e8)) (dep_get rfl e9))
      exact ss_newS ha rfl rfl (bs_28_4 rfl rfl rfl rfl) rfl (fun g w' hq _ hge => ⟨g, rfl, hq, Nat.le_trans hb.size hge⟩)
    | 11, _ =>
      intro val fl w1 a hb ha hd hfl
      obtain ⟨hb, hg0⟩ := hb
      obtain ⟨g5_, e5, q5_, h5_⟩ := hd 5 (memB_mem.1 rfl)
      change val 5 = _ at e5
      obtain ⟨g10_, e10, q10_, h10_⟩ := hd 10 (memB_mem.1 rfl)
      change val 10 = _ at e10
      have ha := ha.sub (Sub.ins (d := 35) (Sub.ins (d := 30) (Sub.nil _) (dep_get rfl e5)) (dep_get rfl e10))
      exact ss_newS ha rfl rfl (bs_52_2 rfl rfl) rfl (fun g w' hq _ hge => ⟨g, rfl, (by show Blk _ _ _ #[val 5, val 10]; rw [e5, e10]; exact hq), Nat.le_trans hb.size hge⟩)
    | 12, _ =>
      exact absurd (by simp) hs_
    | k + 13, h => exact absurd h (by omega)
  · simp only [List.mem_singleton] at hi_; subst hi_
    intro val fl w1 a hb hfi ha hd hfl
    obtain ⟨hb, hg0⟩ := hb
    have e0 : val 0 = .agg #[.slice (some ⟨g4, 0, none⟩) 2 2, .slice (some ⟨g5, 0, none⟩) 1 1] := hd 0 (memB_mem.1 rfl)
    have ha := ha.sub (Sub.ins (d := 25) (Sub.ins (d := 0) (Sub.nil _) rfl) (dep_get rfl e0))
    refine ts_store ha rfl rfl rfl (hg0 hfi) sz_47 rfl rfl rfl rfl ?_
    intro w' hq hgr
    refine ⟨undef, rfl, hgr.size, ⟨grown_two hb hgr, fun h => by rw [fset_eq] at h; cases h⟩, hq, fun j _ hj hn hA => ?_⟩
    exact phiS_cons_st (C := fun j => j ≠ 12 ∧ 12 ∉ clsAt [[], [], [], [], [], [1, 2, 3, 4], [], [], [], [], [6, 7, 8, 9], [1, 2, 3, 4, 5, 6, 7, 8, 9, 10], [0], [0, 1, 2, 3, 4, 5, 6, 7, 8, 9, 10, 11, 12]] j ∧ ∀ p ∈ [], (p = j ∨ p ∈ clsAt [[], [], [], [], [], [1, 2, 3, 4], [], [], [], [], [6, 7, 8, 9], [1, 2, 3, 4, 5, 6, 7, 8, 9, 10], [0], [0, 1, 2, 3, 4, 5, 6, 7, 8, 9, 10, 11, 12]] j) → ∀ q ∈ [], (q = 12 ∨ q ∈ clsAt [[], [], [], [], [], [1, 2, 3, 4], [], [], [], [], [6, 7, 8, 9], [1, 2, 3, 4, 5, 6, 7, 8, 9, 10], [0], [0, 1, 2, 3, 4, 5, 6, 7, 8, 9, 10, 11, 12]] 12) → p ≠ q → val p ≠ val q) (fun _ ⟨g, h1, h2, h3⟩ => ⟨g, h1, h2.grown hgr (fun h => by injection h with h; omega), h3⟩) (phiS_cons_st (C := fun j => j ≠ 12 ∧ 12 ∉ clsAt [[], [], [], [], [], [1, 2, 3, 4], [], [], [], [], [6, 7, 8, 9], [1, 2, 3, 4, 5, 6, 7, 8, 9, 10], [0], [0, 1, 2, 3, 4, 5, 6, 7, 8, 9, 10, 11, 12]] j ∧ ∀ p ∈ [], (p = j ∨ p ∈ clsAt [[], [], [], [], [], [1, 2, 3, 4], [], [], [], [], [6, 7, 8, 9], [1, 2, 3, 4, 5, 6, 7, 8, 9, 10], [0], [0, 1, 2, 3, 4, 5, 6, 7, 8, 9, 10, 11, 12]] j) → ∀ q ∈ [], (q = 12 ∨ q ∈ clsAt [[], [], [], [], [], [1, 2, 3, 4], [], [], [], [], [6, 7, 8, 9], [1, 2, 3, 4, 5, 6, 7, 8, 9, 10], [0], [0, 1, 2, 3, 4, 5, 6, 7, 8, 9, 10, 11, 12]] 12) → p ≠ q → val p ≠ val q) (fun _ ⟨g, h1, h2, h3⟩ => ⟨g, h1, h2.grown hgr (fun h => by injection h with h; omega), h3⟩) (phiS_cons_st (C := fun j => j ≠ 12 ∧ 12 ∉ clsAt [[], [], [], [], [], [1, 2, 3, 4], [], [], [], [], [6, 7, 8, 9], [1, 2, 3, 4, 5, 6, 7, 8, 9, 10], [0], [0, 1, 2, 3, 4, 5, 6, 7, 8, 9, 10, 11, 12]] j ∧ ∀ p ∈ [], (p = j ∨ p ∈ clsAt [[], [], [], [], [], [1, 2, 3, 4], [], [], [], [], [6, 7, 8, 9], [1, 2, 3, 4, 5, 6, 7, 8, 9, 10], [0], [0, 1, 2, 3, 4, 5, 6, 7, 8, 9, 10, 11, 12]] j) → ∀ q ∈ [], (q = 12 ∨ q ∈ clsAt [[], [], [], [], [], [1, 2, 3, 4], [], [], [], [], [6, 7, 8, 9], [1, 2, 3, 4, 5, 6, 7, 8, 9, 10], [0], [0, 1, 2, 3, 4, 5, 6, 7, 8, 9, 10, 11, 12]] 12) → p ≠ q → val p ≠ val q) (fun _ ⟨g, h1, h2, h3⟩ => ⟨g, h1, h2.grown hgr (fun h => by injection h with h; omega), h3⟩) (phiS_cons_st (C := fun j => j ≠ 12 ∧ 12 ∉ clsAt [[], [], [], [], [], [1, 2, 3, 4], [], [], [], [], [6, 7, 8, 9], [1, 2, 3, 4, 5, 6, 7, 8, 9, 10], [0], [0, 1, 2, 3, 4, 5, 6, 7, 8, 9, 10, 11, 12]] j ∧ ∀ p ∈ [], (p = j ∨ p ∈ clsAt [[], [], [], [], [], [1, 2, 3, 4], [], [], [], [], [6, 7, 8, 9], [1, 2, 3, 4, 5, 6, 7, 8, 9, 10], [0], [0, 1, 2, 3, 4, 5, 6, 7, 8, 9, 10, 11, 12]] j) → ∀ q ∈ [], (q = 12 ∨ q ∈ clsAt [[], [], [], [], [], [1, 2, 3, 4], [], [], [], [], [6, 7, 8, 9], [1, 2, 3, 4, 5, 6, 7, 8, 9, 10], [0], [0, 1, 2, 3, 4, 5, 6, 7, 8, 9, 10, 11, 12]] 12) → p ≠ q → val p ≠ val q) (fun hc => absurd rfl hc.1) (fun _ _ h => h)))) j ⟨hj, hn, hA⟩
  · intro val fl w' hfl hb halc hd
    obtain ⟨hb, _⟩ := hb
    have e0 : val 0 = .agg #[.slice (some ⟨g4, 0, none⟩) 2 2, .slice (some ⟨g5, 0, none⟩) 1 1] := hd 0 (by omega)
    have e1 : val 1 = .agg #[.int .i64 2000, .int .i64 3000] := hd 1 (by omega)
    have e2 : val 2 = .agg #[.int .i64 2000, .int .i64 3000] := hd 2 (by omega)
    have e3 : val 3 = .agg #[.int .i64 2000, .int .i64 3000] := hd 3 (by omega)
    have e4 : val 4 = .agg #[.int .i64 2000, .int .i64 3000] := hd 4 (by omega)
    obtain ⟨ga5, e5, qa5, hga5⟩ := hd 5 (by omega)
    change val 5 = _ at e5
    change Blk w' ga5 23 #[.int .i64 2000, .int .i64 3000, .int .i64 2000, .int .i64 3000, .int .i64 2000, .int .i64 3000, .int .i64 2000, .int .i64 3000] at qa5
    have e6 : val 6 = .agg #[.int .i64 500, .int .i64 500] := hd 6 (by omega)
    have e7 : val 7 = .agg #[.int .i64 500, .int .i64 500] := hd 7 (by omega)
    have e8 : val 8 = .agg #[.int .i64 500, .int .i64 500] := hd 8 (by omega)
    have e9 : val 9 = .agg #[.int .i64 500, .int .i64 500] := hd 9 (by omega)
    obtain ⟨ga10, e10, qa10, hga10⟩ := hd 10 (by omega)
    change val 10 = _ at e10
    change Blk w' ga10 23 #[.int .i64 500, .int .i64 500, .int .i64 500, .int .i64 500, .int .i64 500, .int .i64 500, .int .i64 500, .int .i64 500] at qa10
    obtain ⟨ga11, e11, qa11, hga11⟩ := hd 11 (by omega)
    change val 11 = _ at e11
    change Blk w' ga11 28 #[val 5, val 10] at qa11
    rw [e5, e10] at qa11
    refine EL.ends (cs := [.agg #[.slice (some ⟨g4, 0, none⟩) 2 2, .slice (some ⟨g5, 0, none⟩) 1 1], .agg #[.int .i64 2000, .int .i64 3000], .agg #[.int .i64 2000, .int .i64 3000], .agg #[.int .i64 2000, .int .i64 3000], .agg #[.int .i64 2000, .int .i64 3000], .slice (some ⟨ga5, 0, none⟩) 4 4, .agg #[.int .i64 500, .int .i64 500], .agg #[.int .i64 500, .int .i64 500], .agg #[.int .i64 500, .int .i64 500], .agg #[.int .i64 500, .int .i64 500], .slice (some ⟨ga10, 0, none⟩) 4 4, .slice (some ⟨ga11, 0, none⟩) 2 2, val 12]) ⟨e0, e1, e2, e3, e4, e5, e6, e7, e8, e9, e10, e11, rfl, trivial⟩ rfl ?_
    have q1 : Blk w' g1 47 #[.slice (some ⟨g4, 0, none⟩) 2 2, .slice (some ⟨g5, 0, none⟩) 1 1] := hd 12 (by omega)
    replace q2 := q2.grown hb (fun h => n1_2.symm (Option.some.inj h))
    replace q3 := q3.grown hb (fun h => n1_3.symm (Option.some.inj h))
    replace q4 := q4.grown hb (fun h => n1_4.symm (Option.some.inj h))
    replace q5 := q5.grown hb (fun h => n1_5.symm (Option.some.inj h))
    replace q6 := q6.grown hb (fun h => n1_6.symm (Option.some.inj h))
    replace q8 := q8.grown hb (fun h => n1_8.symm (Option.some.inj h))
    replace q9 := q9.grown hb (fun h => n1_9.symm (Option.some.inj h))
    have bge12 := hga5
    have n1_12 : g1 ≠ ga5 := Nat.ne_of_lt (Nat.lt_of_lt_of_le lt_1 bge12)
    have n2_12 : g2 ≠ ga5 := Nat.ne_of_lt (Nat.lt_of_lt_of_le lt_2 bge12)
    have n3_12 : g3 ≠ ga5 := Nat.ne_of_lt (Nat.lt_of_lt_of_le lt_3 bge12)
    have n4_12 : g4 ≠ ga5 := Nat.ne_of_lt (Nat.lt_of_lt_of_le lt_4 bge12)
    have n5_12 : g5 ≠ ga5 := Nat.ne_of_lt (Nat.lt_of_lt_of_le lt_5 bge12)
    have n6_12 : g6 ≠ ga5 := Nat.ne_of_lt (Nat.lt_of_lt_of_le lt_6 bge12)
    have n8_12 : g8 ≠ ga5 := Nat.ne_of_lt (Nat.lt_of_lt_of_le lt_8 bge12)
    have n9_12 : g9 ≠ ga5 := Nat.ne_of_lt (Nat.lt_of_lt_of_le lt_9 bge12)
    have bhbw_12 := Nat.le_trans hbw.size bge12
    have bge13 := hga10
    have n1_13 : g1 ≠ ga10 := Nat.ne_of_lt (Nat.lt_of_lt_of_le lt_1 bge13)
    have n2_13 : g2 ≠ ga10 := Nat.ne_of_lt (Nat.lt_of_lt_of_le lt_2 bge13)
    have n3_13 : g3 ≠ ga10 := Nat.ne_of_lt (Nat.lt_of_lt_of_le lt_3 bge13)
    have n4_13 : g4 ≠ ga10 := Nat.ne_of_lt (Nat.lt_of_lt_of_le lt_4 bge13)
    have n5_13 : g5 ≠ ga10 := Nat.ne_of_lt (Nat.lt_of_lt_of_le lt_5 bge13)
    have n6_13 : g6 ≠ ga10 := Nat.ne_of_lt (Nat.lt_of_lt_of_le lt_6 bge13)
    have n8_13 : g8 ≠ ga10 := Nat.ne_of_lt (Nat.lt_of_lt_of_le lt_8 bge13)
    have n9_13 : g9 ≠ ga10 := Nat.ne_of_lt (Nat.lt_of_lt_of_le lt_9 bge13)
    have bhbw_13 := Nat.le_trans hbw.size bge13
    have bge14 := hga11
    have n1_14 : g1 ≠ ga11 := Nat.ne_of_lt (Nat.lt_of_lt_of_le lt_1 bge14)
    have n2_14 : g2 ≠ ga11 := Nat.ne_of_lt (Nat.lt_of_lt_of_le lt_2 bge14)
    have n3_14 : g3 ≠ ga11 := Nat.ne_of_lt (Nat.lt_of_lt_of_le lt_3 bge14)
    have n4_14 : g4 ≠ ga11 := Nat.ne_of_lt (Nat.lt_of_lt_of_le lt_4 bge14)
    have n5_14 : g5 ≠ ga11 := Nat.ne_of_lt (Nat.lt_of_lt_of_le lt_5 bge14)
    have n6_14 : g6 ≠ ga11 := Nat.ne_of_lt (Nat.lt_of_lt_of_le lt_6 bge14)
    have n8_14 : g8 ≠ ga11 := Nat.ne_of_lt (Nat.lt_of_lt_of_le lt_8 bge14)
    have n9_14 : g9 ≠ ga11 := Nat.ne_of_lt (Nat.lt_of_lt_of_le lt_9 bge14)
    have bhbw_14 := Nat.le_trans hbw.size bge14
    replace hbw := below_store hbw hb bhbw_1
    refine EL.val (x_assign rfl) rfl ?_
    refine EL.nil ?_
    refine EX.seq ?_
    refine EC.ret ?_
    refine EX.done (resct rfl rfl rfl (lv_47 (q1.at rfl) (q1.at rfl))) ⟨⟨_, _, _, [_, _], [_, _], rfl, ⟨⟨rfl, rd_blk q4 rfl, ?_⟩, rd_blk q5 rfl⟩, ⟨rfl, rd_blk qa11 rfl, ?_⟩⟩, hbw⟩
    · intro i hi
      match i, hi with
      | 0, _ => exact rd_blk q2 rfl
      | 1, _ => exact rd_blk q3 rfl
    · intro i hi
      match i, hi with
      | 0, _ => exact rd_blk qa5 rfl
      | 1, _ => exact rd_blk qa10 rfl

def twoF0 : List Bd := [⟨2000, 3000⟩, ⟨2000, 3000⟩, ⟨2000, 3000⟩, ⟨2000, 3000⟩]
def twoF1 : List Bd := [⟨1500, 1500⟩, ⟨1500, 1500⟩, ⟨2500, 3500⟩, ⟨2500, 3500⟩]
theorem two_start : startErr twoR twoS = 0 := by decide
theorem two_flows : flowsUp twoR.reaches twoS twoS.length = [twoF0, twoF1] := by rfl
theorem two_depth : depthAt twoR twoS 120 3 = ⟨98, 110⟩ := by rfl
def twoLand : Land := ⟨10, 50, 2, ⟨100, 150⟩⟩
def twoSky : List Sky := [⟨⟨200, 300⟩, ⟨10, 40⟩⟩]
theorem two_catch : catchErr twoLand twoSky = 0 := by decide
theorem two_runoff : flowsTo twoLand twoSky 1 = [⟨11000, 19000⟩] := by rfl
theorem two_curves : CurvesB twoR.reaches := fun i hi => by
  match i, hi with
  | 0, _ => decide
  | 1, _ => decide
theorem two_sides : SidesB twoS := fun i hi => by
  match i, hi with
  | 0, _ => decide
  | 1, _ => decide
theorem flows_two (v u s : Value) (vs ss : List Value) (w : World) (B : Nat) (hr : RdRiver w B v u twoR vs) (hs : RdSides w B s twoS ss) (hB : B ≤ w.heap.size) :
    Calls Try.prog 40 #[.agg #[v, u], s] w fun e w' => (∃ b o c A1 c1 b1 o1, e = .returned (.tuple #[.slice (some ⟨b, o, none⟩) 2 c, .int .i64 0]) ∧ A1 = some ⟨b1, o1, none⟩ ∧ w'.cell? ⟨b, o + 1, none⟩ = some (.slice A1 4 c1) ∧
      w'.cell? ⟨b1, o1 + 1 * 2, none⟩ = some (.int .i64 1500) ∧ w'.cell? ⟨b1, o1 + 1 * 2 + 1, none⟩ = some (.int .i64 1500) ∧ w'.cell? ⟨b1, o1 + 2 * 2, none⟩ = some (.int .i64 2500) ∧ w'.cell? ⟨b1, o1 + 2 * 2 + 1, none⟩ = some (.int .i64 3500)) ∧ Below w.heap.size w w' := by
  refine (flows_any twoR twoS v u s vs ss w B hr hs hB (by decide) (by decide) two_curves (by decide) two_sides).mono fun e w' h => ?_
  obtain ⟨⟨v', fs, rfl, _, h2⟩, hb⟩ := h
  have hS := h2 two_start
  rw [two_flows] at hS
  rw [two_start]
  obtain ⟨A, c, rfl, _⟩ := hS.rd.shape
  obtain ⟨b, o, rfl, _, h3⟩ := sides_cell hS 1 (by decide)
  have h4 := hS.side 1 (by decide)
  obtain ⟨A1, c1, e1, _⟩ := h4.shape
  rw [e1] at h3 h4
  obtain ⟨b1, o1, rfl, _, h5, h6⟩ := bds_cells twoF1 1 (by decide) _ _ _ _ _ h4
  obtain ⟨b2, o2, e2, _, h7, h8⟩ := bds_cells twoF1 2 (by decide) _ _ _ _ _ h4
  injection e2 with e2
  injection e2 with e2 e3
  subst e2 e3
  exact ⟨⟨b, o, c, _, c1, b1, o1, rfl, rfl, h3, h5, h6, h7, h8⟩, hb⟩
theorem runoff_two (w : World) {g T : Nat} (hq : Blk w g T #[.int .i64 200, .int .i64 300, .int .i64 10, .int .i64 40]) :
    Calls Try.prog 17 #[.agg #[.int .i64 10, .int .i64 50, .int .i64 2, .int .i64 100, .int .i64 150], .slice (some ⟨g, 0, none⟩) 1 1] w fun e w' => (∃ b o c, e = .returned (.tuple #[.slice (some ⟨b, o, none⟩) 1 c, .int .i64 0]) ∧ w'.cell? ⟨b, o + 0 * 2, none⟩ = some (.int .i64 11000) ∧ w'.cell? ⟨b, o + 0 * 2 + 1, none⟩ = some (.int .i64 19000)) ∧ Below w.heap.size w w' := by
  refine (runoff_any twoLand twoSky _ w w.heap.size (rd_one (l := [.int .i64 200, .int .i64 300, .int .i64 10, .int .i64 40]) hq rfl) (Nat.le_refl _) (by decide)).mono fun e w' h => ?_
  obtain ⟨⟨v, rfl, _, h2⟩, hb⟩ := h
  have ho := Rd.of_own (h2 two_catch)
  rw [two_catch]
  rw [show flowsTo twoLand twoSky twoSky.length = [⟨11000, 19000⟩] from two_runoff] at ho
  obtain ⟨A, c, rfl, _⟩ := ho.shape
  obtain ⟨b, o, rfl, _, h3, h4⟩ := bds_cells [⟨11000, 19000⟩] 0 (by decide) _ _ _ _ _ ho
  exact ⟨⟨b, o, c, rfl, h3, h4⟩, hb⟩

theorem known_any (w : World) : Calls Try.prog 16 #[] w fun e w' => e = .returned (.bool true) ∧ Below w.heap.size w w' := by
  have hbw := Below.refl w.heap.size w
  refine EC.enter 90 Try.func16 rfl rfl rfl ?_
  refine EC.seq ?_
  refine EC.region ?_
  refine EL.val (x_assign rfl) rfl ?_
  refine EL.nil ?_
  refine EX.seq ?_
  refine EC.seq ?_
  refine EC.region ?_
  refine EL.call cl_56 rfl (two_any _) ?_
  rintro e w1 ⟨⟨v, u, s, vs, ss, rfl, hr, hs⟩, hc1⟩
  obtain ⟨A1, c1, rfl, _⟩ := hr.reaches.shape
  obtain ⟨A2, c2, rfl, _⟩ := hr.shoals.shape
  obtain ⟨A3, c3, rfl, _⟩ := hs.rd.shape
  refine ⟨_, rfl, ?_⟩
  replace hbw := Below.on hbw hc1 hbw.size
  have ha := Below.refl w1.heap.size w1
  refine EL.val (x_move rfl) rfl ?_
  refine EL.val (x_extract rfl rfl) rfl ?_
  refine EL.val (x_extract rfl rfl) rfl ?_
  refine EL.newP al_47 rfl ?_
  intro g2 w2 q2 hb2 hg2 hl2
  have bhbw_2 := Nat.le_trans hbw.size hg2
  have bha_2 := Nat.le_trans ha.size hg2
  replace hbw := Below.on hbw hb2 hbw.size
  replace ha := Below.on ha hb2 ha.size
  clear hb2 hg2 hl2
  refine EL.store rfl rfl q2 sz_47 rfl rfl rfl rfl ?_
  intro w3 hq3 hg3
  replace hbw := below_store hbw hg3 bhbw_2
  replace ha := below_store ha hg3 bha_2
  replace q2 := hq3
  clear hg3 hq3
  refine EL.val (x_assign rfl) rfl ?_
  refine EL.nil ?_
  refine EX.seq ?_
  refine EC.seq ?_
  refine EC.region ?_
  refine EL.val (ld_47 rfl (q2.at (j := 0) rfl) (q2.at (j := 1) rfl)) rfl ?_
  refine EL.val (x_move rfl) rfl ?_
  refine EL.call (cl_40 rfl rfl) rfl (flows_two _ _ _ vs ss _ _ (hr.below ha) (hs.below ha) ha.size) ?_
  rintro e w4 ⟨⟨fb, fo, fc, _, fc1, fb1, fo1, rfl, rfl, f1, f2, f3, f4, f5⟩, hc4⟩
  refine ⟨_, rfl, ?_⟩
  replace q2 := q2.below hc4 q2.lt
  replace hbw := Below.on hbw hc4 hbw.size
  replace ha := Below.on ha hc4 ha.size
  have hfl := Below.refl w4.heap.size w4
  refine EL.val (x_move rfl) rfl ?_
  refine EL.val (x_extract rfl rfl) rfl ?_
  refine EL.val (x_extract rfl rfl) rfl ?_
  refine EL.val (x_assign rfl) rfl ?_
  refine EL.val (x_assign rfl) rfl ?_
  refine EL.nil ?_
  refine EX.seq ?_
  refine EC.seq ?_
  refine EC.region ?_
  refine EL.val (ld_47 rfl (q2.at (j := 0) rfl) (q2.at (j := 1) rfl)) rfl ?_
  refine EL.val (x_move rfl) rfl ?_
  refine EL.call (cl_33 rfl rfl rfl rfl) rfl (by have h := dep_ok twoR twoS _ _ _ vs ss _ _ (hr.below ha) (hs.below ha) ha.size (by decide) (by decide) two_curves (by decide) two_sides 120 3 two_start (by decide) (by decide); rw [two_depth] at h; exact h) ?_
  rintro e w5 ⟨rfl, hc5⟩
  refine ⟨_, rfl, ?_⟩
  replace q2 := q2.below hc5 q2.lt
  replace hbw := Below.on hbw hc5 hbw.size
  replace ha := Below.on ha hc5 ha.size
  replace hfl := Below.on hfl hc5 hfl.size
  clear hc5
  refine EL.val (x_move rfl) rfl ?_
  refine EL.val (x_extract rfl rfl) rfl ?_
  refine EL.val (x_extract rfl rfl) rfl ?_
  refine EL.newP al_23 rfl ?_
  intro g6 w6 q6 hb6 hg6 hl6
  have n2_6 : g2 ≠ g6 := Nat.ne_of_lt (Nat.lt_of_lt_of_le q2.lt hg6)
  have bhbw_6 := Nat.le_trans hbw.size hg6
  have bha_6 := Nat.le_trans ha.size hg6
  have bhfl_6 := Nat.le_trans hfl.size hg6
  replace q2 := q2.below hb6 q2.lt
  replace hbw := Below.on hbw hb6 hbw.size
  replace ha := Below.on ha hb6 ha.size
  replace hfl := Below.on hfl hb6 hfl.size
  clear hb6 hg6 hl6
  refine EL.store rfl rfl q6 sz_23 rfl rfl rfl rfl ?_
  intro w7 hq7 hg7
  replace q2 := q2.grown hg7 (fun h => n2_6 (Option.some.inj h))
  replace hbw := below_store hbw hg7 bhbw_6
  replace ha := below_store ha hg7 bha_6
  replace hfl := below_store hfl hg7 bhfl_6
  replace q6 := hq7
  clear hg7 hq7
  refine EL.val (x_assign rfl) rfl ?_
  refine EL.nil ?_
  refine EX.seq ?_
  refine EC.seq ?_
  refine EC.region ?_
  refine EL.val (bd_23_0_1 rfl rfl) rfl ?_
  refine EL.val (bd_25_0_1_2_3 rfl rfl rfl rfl) rfl ?_
  refine EL.val (bd_23_0_1 rfl rfl) rfl ?_
  refine EL.val (bd_23_0_1 rfl rfl) rfl ?_
  refine EL.val (bd_33_0_1 rfl rfl) rfl ?_
  refine EL.newS (bs_26_1 rfl) rfl ?_
  intro g8 w8 q8 hb8 hg8 hl8
  have n2_8 : g2 ≠ g8 := Nat.ne_of_lt (Nat.lt_of_lt_of_le q2.lt hg8)
  have n6_8 : g6 ≠ g8 := Nat.ne_of_lt (Nat.lt_of_lt_of_le q6.lt hg8)
  have bhbw_8 := Nat.le_trans hbw.size hg8
  have bha_8 := Nat.le_trans ha.size hg8
  have bhfl_8 := Nat.le_trans hfl.size hg8
  replace q2 := q2.below hb8 q2.lt
  replace q6 := q6.below hb8 q6.lt
  replace hbw := Below.on hbw hb8 hbw.size
  replace ha := Below.on ha hb8 ha.size
  replace hfl := Below.on hfl hb8 hfl.size
  clear hb8 hg8 hl8
  refine EL.call (cl_17 rfl rfl) rfl (runoff_two _ q8) ?_
  rintro e w9 ⟨⟨ob, oo, oc, rfl, o1, o2⟩, hc9⟩
  refine ⟨_, rfl, ?_⟩
  replace q2 := q2.below hc9 q2.lt
  replace q6 := q6.below hc9 q6.lt
  replace q8 := q8.below hc9 q8.lt
  replace hbw := Below.on hbw hc9 hbw.size
  replace ha := Below.on ha hc9 ha.size
  replace hfl := Below.on hfl hc9 hfl.size
  have hro := Below.refl w9.heap.size w9
  refine EL.val (x_move rfl) rfl ?_
  refine EL.val (x_extract rfl rfl) rfl ?_
  refine EL.val (x_extract rfl rfl) rfl ?_
  refine EL.val (x_assign rfl) rfl ?_
  refine EL.val (x_assign rfl) rfl ?_
  refine EL.nil ?_
  refine EX.seq ?_
  refine EC.seq ?_
  refine EC.seq ?_
  refine EC.region ?_
  refine EL.val (x_move rfl) rfl ?_
  refine EL.val (x_neq rfl rfl (by first | assumption | exact decide_eq_false (by omega))) rfl ?_
  refine EL.val (x_move rfl) rfl ?_
  refine EL.valg rfl rfl (x_move rfl) rfl ?_
  refine EL.valg rfl rfl (x_neq rfl rfl (by first | assumption | exact decide_eq_false (by omega))) rfl ?_
  refine EL.val (x_pick_f rfl rfl) rfl ?_
  refine EL.val (x_move rfl) rfl ?_
  refine EL.valg rfl rfl (x_move rfl) rfl ?_
  refine EL.valg rfl rfl (x_neq rfl rfl (by first | assumption | exact decide_eq_false (by omega))) rfl ?_
  refine EL.val (x_pick_f rfl rfl) rfl ?_
  refine EL.val (x_move rfl) rfl ?_
  refine EL.valg rfl rfl (x_move rfl) rfl ?_
  refine EL.valg rfl rfl (ln_52 rfl) rfl ?_
  refine EL.valg rfl rfl (x_neq rfl rfl (by first | assumption | exact decide_eq_false (by omega))) rfl ?_
  refine EL.val (x_pick_f rfl rfl) rfl ?_
  refine EL.val (x_move rfl) rfl ?_
  refine EL.valg rfl rfl (x_move rfl) rfl ?_
  refine EL.valg rfl rfl (ix_52 (k := 1) rfl rfl (by omega)) rfl ?_
  refine EL.valg rfl rfl (ld_28 rfl (below_load hfl f1)) rfl ?_
  refine EL.valg rfl rfl (ln_28 rfl) rfl ?_
  refine EL.valg rfl rfl (x_neq rfl rfl (by first | assumption | exact decide_eq_false (by omega))) rfl ?_
  refine EL.val (x_pick_f rfl rfl) rfl ?_
  refine EL.val (x_move rfl) rfl ?_
  refine EL.valg rfl rfl (x_move rfl) rfl ?_
  refine EL.valg rfl rfl (ln_28 rfl) rfl ?_
  refine EL.valg rfl rfl (x_neq rfl rfl (by first | assumption | exact decide_eq_false (by omega))) rfl ?_
  refine EL.val (x_pick_f rfl rfl) rfl ?_
  refine EL.nil ?_
  refine EX.seq ?_
  refine EC.no rfl ?_
  refine EC.skip ?_
  refine EX.seq ?_
  refine EC.seq ?_
  refine EC.region ?_
  refine EL.val (x_move rfl) rfl ?_
  refine EL.val (ix_52 (k := 1) rfl rfl (by omega)) rfl ?_
  refine EL.val (ld_28 rfl (below_load hfl f1)) rfl ?_
  refine EL.val (ix_28 (k := 1) rfl rfl (by omega)) rfl ?_
  refine EL.val (ld_23 rfl (below_load hfl f2) (below_load hfl f3)) rfl ?_
  refine EL.val (bd_23_0_1 rfl rfl) rfl ?_
  refine EL.val (eql_23 (r := true) rfl rfl (by decide)) rfl ?_
  refine EL.val (x_move rfl) rfl ?_
  refine EL.valg rfl rfl (x_move rfl) rfl ?_
  refine EL.valg rfl rfl (ix_52 (k := 1) rfl rfl (by omega)) rfl ?_
  refine EL.valg rfl rfl (ld_28 rfl (below_load hfl f1)) rfl ?_
  refine EL.valg rfl rfl (ix_28 (k := 2) rfl rfl (by omega)) rfl ?_
  refine EL.valg rfl rfl (ld_23 rfl (below_load hfl f4) (below_load hfl f5)) rfl ?_
  refine EL.valg rfl rfl (bd_23_0_1 rfl rfl) rfl ?_
  refine EL.valg rfl rfl (eql_23 (r := true) rfl rfl (by decide)) rfl ?_
  refine EL.val (x_pick_t rfl rfl) rfl ?_
  refine EL.val (x_move rfl) rfl ?_
  refine EL.valg rfl rfl (ld_23 rfl (q6.at (j := 0) rfl) (q6.at (j := 1) rfl)) rfl ?_
  refine EL.valg rfl rfl (bd_23_0_1 rfl rfl) rfl ?_
  refine EL.valg rfl rfl (eql_23 (r := true) rfl rfl (by decide)) rfl ?_
  refine EL.val (x_pick_t rfl rfl) rfl ?_
  refine EL.val (x_move rfl) rfl ?_
  refine EL.valg rfl rfl (x_move rfl) rfl ?_
  refine EL.valg rfl rfl (ix_28 (k := 0) rfl rfl (by omega)) rfl ?_
  refine EL.valg rfl rfl (ld_23 rfl (below_load hro o1) (below_load hro o2)) rfl ?_
  refine EL.valg rfl rfl (bd_23_0_1 rfl rfl) rfl ?_
  refine EL.valg rfl rfl (eql_23 (r := true) rfl rfl (by decide)) rfl ?_
  refine EL.val (x_pick_t rfl rfl) rfl ?_
  refine EL.val (x_assign rfl) rfl ?_
  refine EL.nil ?_
  refine EX.seq ?_
  refine EC.ret ?_
  exact EX.done (res1 rfl rfl) ⟨rfl, hbw⟩
end Go.Proofs.Ytncnlhkmdljgpaa
