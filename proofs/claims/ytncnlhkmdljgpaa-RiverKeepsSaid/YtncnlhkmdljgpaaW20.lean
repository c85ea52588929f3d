/- River: the law RiverKeeps, its walk (printed by gen_w20.py). -/
import Derived.Test.YtncnlhkmdljgpaaW17
import Derived.Test.YtncnlhkmdljgpaaW19
import Derived.Test.YtncnlhkmdljgpaaExR20
set_option linter.unusedVariables false
set_option linter.unusedSimpArgs false
namespace Go.Proofs.Ytncnlhkmdljgpaa
open Go Go.RowKit

theorem vol_good (rv : River) (sides : List (List Bd)) (v u s : Value) (vs ss : List Value) (k a b : Nat) (w : World) (B : Nat) (hr : RdRiver w B v u rv vs) (hs : RdSides w B s sides ss) (hB : B ≤ w.heap.size) (hf : Fine rv sides) (hst : startErr rv sides = 0) (hk : k < sides.length) (hab : a ≤ b) (hb : b ≤ (sides.getD 0 []).length) :
    Calls Try.prog 46 #[.agg #[v, u], s, .int .i64 (k : Nat), .int .i64 (a : Nat), .int .i64 (b : Nat)] w fun e w' => e = .returned (.tuple #[.agg #[.int .i64 (volOf rv.reaches sides k (a : Nat) (b - a)).lo, .int .i64 (volOf rv.reaches sides k (a : Nat) (b - a)).hi], .int .i64 0]) ∧ Below w.heap.size w w' := by
  have f1 := hf.nreaches
  have f2 := hf.nshoals
  have f5 := hf.nsides
  have hm := (startErr_ok hst).2.many
  obtain ⟨h1, h2⟩ := vol_nat k a b hst (inB_iff.2 (by omega)) hab hb
  have key := vol_any rv sides v u s vs ss (k : Int) (a : Int) (b : Int) w B hr hs hB (by omega) (by omega) hf.curves (by omega) hf.sidesB
  rw [h1, h2] at key
  exact key
theorem vol_good0 (rv : River) (sides : List (List Bd)) (v u s : Value) (vs ss : List Value) (k b : Nat) (w : World) (B : Nat) (hr : RdRiver w B v u rv vs) (hs : RdSides w B s sides ss) (hB : B ≤ w.heap.size) (hf : Fine rv sides) (hst : startErr rv sides = 0) (hk : k < sides.length) (hb : b ≤ (sides.getD 0 []).length) :
    Calls Try.prog 46 #[.agg #[v, u], s, .int .i64 (k : Nat), .int .i64 0, .int .i64 (b : Nat)] w fun e w' => e = .returned (.tuple #[.agg #[.int .i64 (volOf rv.reaches sides k 0 b).lo, .int .i64 (volOf rv.reaches sides k 0 b).hi], .int .i64 0]) ∧ Below w.heap.size w w' :=
  vol_good rv sides v u s vs ss k 0 b w B hr hs hB hf hst hk (Nat.zero_le _) hb
theorem vol_bd {rv : River} {sides : List (List Bd)} (h : StartOk rv sides) {k : Nat} (hk : k < sides.length) {a : Int} {n : Nat} (hn : a + n ≤ (sides.getD 0 []).length) : 0 ≤ (volOf rv.reaches sides k a n).lo ∧ (volOf rv.reaches sides k a n).lo ≤ (volOf rv.reaches sides k a n).hi ∧ (volOf rv.reaches sides k a n).hi ≤ n * 200000000000 :=
  sumN_bd fun y hy => flowIn_small h k _ (by have := h.many; omega) (by omega)
theorem vol_split (r : List Reach) (sides : List (List Bd)) (k p q : Nat) (h : p ≤ q) : volOf r sides k 0 q = (volOf r sides k 0 p).add (volOf r sides k (p : Int) (q - p)) := by
  have := sumN_add (flowIn r sides k) 0 p (q - p)
  rw [Nat.add_sub_cancel' h, Int.zero_add] at this
  exact this
theorem side_bd {rv : River} {sides : List (List Bd)} (h : StartOk rv sides) {k : Nat} (hk : k < sides.length) {p n : Nat} (hn : p + n ≤ (sides.getD 0 []).length) : 0 ≤ (sumN (sideOf sides k) (p : Int) n).lo ∧ (sumN (sideOf sides k) (p : Int) n).lo ≤ (sumN (sideOf sides k) (p : Int) n).hi ∧ (sumN (sideOf sides k) (p : Int) n).hi ≤ n * 10000000000 :=
  sumN_bd fun y hy => h.side k _ hk (by omega)

set_option maxHeartbeats 8000000 in
set_option maxRecDepth 100000 in
theorem keeps_law (rv : River) (sides : List (List Bd)) (v u s : Value) (vs ss : List Value) (n0 n1 n2 : Nat) (hn0 : n0 ≤ 65535) (hn1 : n1 ≤ 65535) (hn2 : n2 ≤ 65535) (w : World) (B : Nat) (hr : RdRiver w B v u rv vs) (hs : RdSides w B s sides ss) (hB : B ≤ w.heap.size) :
    Calls Try.prog 10 #[.agg #[v, u, s], .agg #[.int .u16 (n0 : Nat), .int .u16 (n1 : Nat), .int .u16 (n2 : Nat)]] w fun e w' => e = .returned (.bool true) ∧ Below w.heap.size w w' := by
  obtain ⟨A, c, rfl, _⟩ := hr.reaches.shape
  obtain ⟨A', c', rfl, _⟩ := hr.shoals.shape
  obtain ⟨D, d, rfl, _⟩ := hs.rd.shape
  have hbw := Below.refl w.heap.size w
  refine EC.enter 234 Try.func10 rfl rfl rfl ?_
  refine EC.seq ?_
  refine EC.region ?_
  refine EL.newP (bx_54 rfl) rfl ?_
  intro g1 w1 q1 hb1 hg1 hl1
  have bhbw_1 := Nat.le_trans hbw.size hg1
  replace hbw := Below.on hbw hb1 hbw.size
  clear hb1 hg1 hl1
  refine EL.newP (bx_84 rfl) rfl ?_
  intro g2 w2 q2 hb2 hg2 hl2
  have n1_2 : g1 ≠ g2 := Nat.ne_of_lt (Nat.lt_of_lt_of_le q1.lt hg2)
  have bhbw_2 := Nat.le_trans hbw.size hg2
  replace q1 := q1.below hb2 q1.lt
  replace hbw := Below.on hbw hb2 hbw.size
  clear hb2 hg2 hl2
  refine EL.val (x_assign rfl) rfl ?_
  refine EL.nil ?_
  refine EX.seq ?_
  refine EC.seq ?_
  refine EC.seq ?_
  refine EC.region ?_
  refine EL.val (ld_54 rfl (q1.at (j := 0) rfl) (q1.at (j := 1) rfl) (q1.at (j := 2) rfl)) rfl ?_
  refine EL.call (cl_44 rfl) rfl (valid_any rv sides _ _ _ vs ss _ _ (hr.below (hbw.mono hB)) (hs.below (hbw.mono hB)) (Nat.le_trans hB hbw.size)) ?_
  rintro e w_l ⟨rfl | ⟨rfl, hfine, hst⟩, hc_⟩
  ·
    refine ⟨_, rfl, ?_⟩
    replace q1 := q1.below hc_ q1.lt
    replace q2 := q2.below hc_ q2.lt
    replace hbw := Below.on hbw hc_ hbw.size
    clear hc_
    refine EL.val (x_not rfl) rfl ?_
    refine EL.nil ?_
    refine EX.seq ?_
    refine EC.yes rfl ?_
    refine EC.seq ?_
    refine EC.region ?_
    refine EL.call cl_16 rfl (known_any _) ?_
    rintro e w3 ⟨rfl, hc3⟩
    refine ⟨_, rfl, ?_⟩
    replace q1 := q1.below hc3 q1.lt
    replace q2 := q2.below hc3 q2.lt
    replace hbw := Below.on hbw hc3 hbw.size
    clear hc3
    refine EL.val (x_assign rfl) rfl ?_
    refine EL.nil ?_
    refine EX.seq ?_
    refine EC.ret ?_
    refine EX.seq_ret ?_
    exact EX.done (res1 rfl rfl) ⟨rfl, hbw⟩
  ·
    have f1 := hfine.nreaches
    have f2 := hfine.nshoals
    have f3 := hfine.curves
    have f4 := hfine.sidesB
    have f5 := hfine.nsides
    have hS := (startErr_ok hst).2
    have hhr := hS.hours
    have hmany := hS.many
    have hsm := hS.river.some
    obtain ⟨bS, oS, rfl, _, hsc⟩ := sides_all hs (by omega)
    have hs0 := hs.side 0 (by omega)
    obtain ⟨A0, ca0, e0, _⟩ := hs0.shape
    have c0 := hsc 0 (by omega)
    rw [e0] at c0
    obtain ⟨k, ek⟩ : ∃ y, y = n0 % sides.length := ⟨_, rfl⟩
    have hk : k < sides.length := by rw [ek]; exact Nat.mod_lt _ (by omega)
    obtain ⟨p, ep⟩ : ∃ y, y = n1 % ((sides.getD 0 []).length + 1) := ⟨_, rfl⟩
    have hp : p ≤ (sides.getD 0 []).length := by have := Nat.mod_lt n1 (show 0 < (sides.getD 0 []).length + 1 by omega); omega
    obtain ⟨m, em⟩ : ∃ y, y = n2 % ((sides.getD 0 []).length + 1 - p) := ⟨_, rfl⟩
    have hm : p + m ≤ (sides.getD 0 []).length := by have := Nat.mod_lt n2 (show 0 < (sides.getD 0 []).length + 1 - p by omega); omega
    obtain ⟨q, eq⟩ : ∃ y, y = p + m := ⟨_, rfl⟩
    have t1 : ((n0 : Nat) : Int).tmod ((sides.length : Nat) : Int) = ((k : Nat) : Int) := by rw [ek, Int.ofNat_tmod]
    have t2 : ((n1 : Nat) : Int).tmod ((((sides.getD 0 []).length : Nat) : Int) + 1) = ((p : Nat) : Int) := by rw [ep, Int.ofNat_tmod]; rfl
    have t3 : ((n2 : Nat) : Int).tmod ((((sides.getD 0 []).length : Nat) : Int) + 1 - ((p : Nat) : Int)) = ((m : Nat) : Int) := by rw [show (((sides.getD 0 []).length : Nat) : Int) + 1 - ((p : Nat) : Int) = (((sides.getD 0 []).length + 1 - p : Nat) : Int) by omega, em, Int.ofNat_tmod]
    have wq : IntKind.i64.wrap (((p : Nat) : Int) + ((m : Nat) : Int)) = ((q : Nat) : Int) := by rw [eq]; exact IntWalk.i64_in _ ⟨by omega, by omega⟩
    have hpq : p ≤ q := by omega
    have hqH : q ≤ (sides.getD 0 []).length := by omega
    clear ek ep em eq hm
    refine ⟨_, rfl, ?_⟩
    replace q1 := q1.below hc_ q1.lt
    replace q2 := q2.below hc_ q2.lt
    replace hbw := Below.on hbw hc_ hbw.size
    clear hc_
    refine EL.val (x_not rfl) rfl ?_
    refine EL.nil ?_
    refine EX.seq ?_
    refine EC.no rfl ?_
    refine EC.skip ?_
    refine EX.seq ?_
    refine EC.seq ?_
    refine EC.regionQ (by kernel_rfl) (by kernel_rfl) ?_
    refine EQ.val (fun _ hw => (fa_54_1 rfl)) rfl ?_
    refine EQ.val (fun _ hw => (ld_52 rfl (below_load hw (q1.at (j := 2) rfl)))) rfl ?_
    refine EQ.val (fun _ hw => (ix_52 (k := 0) rfl rfl (by omega))) rfl ?_
    refine EQ.val (fun _ hw => (ld_28 rfl (below_load hw (below_load hbw c0)))) rfl ?_
    refine EQ.val (fun _ hw => (ln_28 rfl)) rfl ?_
    refine EQ.val (fun _ hw => (ixa_84 (k := 0) rfl rfl (by omega))) rfl ?_
    refine EQ.val (fun _ hw => (ld_83 rfl (below_load hw (q2.at (j := 0) rfl)))) rfl ?_
    refine EQ.val (fun _ hw => (cv_83_3 rfl (IntWalk.i64_in _ ⟨by omega, by omega⟩))) rfl ?_
    refine EQ.val (fun _ hw => (fa_54_1 rfl)) rfl ?_
    refine EQ.val (fun _ hw => (ld_52 rfl (below_load hw (q1.at (j := 2) rfl)))) rfl ?_
    refine EQ.val (fun _ hw => (ln_52 rfl)) rfl ?_
    refine EQ.val (fun _ hw => (x_rem rfl rfl (by omega) t1)) rfl ?_
    refine EQ.val (fun _ hw => (x_assign rfl)) rfl ?_
    refine EQ.val (fun _ hw => (x_assign rfl)) rfl ?_
    refine EQ.fin (fun w4 hw_ => ?_)
    replace q1 := q1.below hw_ q1.lt
    replace q2 := q2.below hw_ q2.lt
    replace hbw := Below.on hbw hw_ hbw.size
    clear hw_
    refine EX.seq ?_
    refine EC.seq ?_
    refine EC.region ?_
    refine EL.val (ixa_84 (k := 1) rfl rfl (by omega)) rfl ?_
    refine EL.val (ld_83 rfl (q2.at (j := 1) rfl)) rfl ?_
    refine EL.val (cv_83_3 rfl (IntWalk.i64_in _ ⟨by omega, by omega⟩)) rfl ?_
    refine EL.val (x_move rfl) rfl ?_
    refine EL.val (x_add rfl rfl (by first | assumption | exact IntWalk.i64_in _ ⟨by omega, by omega⟩)) rfl ?_
    refine EL.val (x_rem rfl rfl (by omega) t2) rfl ?_
    refine EL.val (x_assign rfl) rfl ?_
    refine EL.nil ?_
    refine EX.seq ?_
    refine EC.seq ?_
    refine EC.region ?_
    refine EL.val (x_move rfl) rfl ?_
    refine EL.val (ixa_84 (k := 2) rfl rfl (by omega)) rfl ?_
    refine EL.val (ld_83 rfl (q2.at (j := 2) rfl)) rfl ?_
    refine EL.val (cv_83_3 rfl (IntWalk.i64_in _ ⟨by omega, by omega⟩)) rfl ?_
    refine EL.val (x_move rfl) rfl ?_
    refine EL.val (x_add rfl rfl (by first | assumption | exact IntWalk.i64_in _ ⟨by omega, by omega⟩)) rfl ?_
    refine EL.val (x_move rfl) rfl ?_
    refine EL.val (x_sub rfl rfl (by first | assumption | exact IntWalk.i64_in _ ⟨by omega, by omega⟩)) rfl ?_
    refine EL.val (x_rem rfl rfl (by omega) t3) rfl ?_
    refine EL.val (x_add rfl rfl wq) rfl ?_
    refine EL.val (x_assign rfl) rfl ?_
    refine EL.nil ?_
    refine EX.seq ?_
    refine EC.seq ?_
    have lt_1 := q1.lt
    have lt_2 := q2.lt
    refine EC.regionS [[], [0], [0, 1], [], [3], [0, 1, 2, 3, 4], [], [], [0, 1, 2, 3, 4, 5, 6, 7], [0, 1, 2, 3, 4, 5, 6, 7, 8], [0, 1, 2, 3, 4, 5, 6, 7, 8, 9], [0, 1, 2, 3, 4, 5, 6, 7, 8, 9], [], [0, 1, 2, 3, 4, 5, 6, 7, 8, 9, 10, 12], [0, 1, 2, 3, 4, 5, 6, 7, 8, 9, 10, 11, 12, 13]] 14 [12] [13] (fun _ w_ => Below w4.heap.size w4 w_) (phiS (fun i_ r => match i_ with | 0 => r 0 = .pointer (some ⟨g1, 0, none⟩) | 1 => r 1 = .agg #[.slice A rv.reaches.length c, .slice A' rv.shoals.length c'] | 3 => r 3 = .pointer (some ⟨g1, 2, none⟩) | 4 => r 4 = .slice (some ⟨bS, oS, none⟩) sides.length d | 6 => r 6 = .int .i64 (k : Nat) | 7 => r 7 = .int .i64 (p : Nat) | 8 => r 8 = .tuple #[.agg #[.int .i64 (volOf rv.reaches sides k 0 p).lo, .int .i64 (volOf rv.reaches sides k 0 p).hi], .int .i64 0] | 9 => r 9 = .tuple #[.agg #[.int .i64 (volOf rv.reaches sides k 0 p).lo, .int .i64 (volOf rv.reaches sides k 0 p).hi], .int .i64 0] | 10 => r 10 = .agg #[.int .i64 (volOf rv.reaches sides k 0 p).lo, .int .i64 (volOf rv.reaches sides k 0 p).hi] | 11 => r 11 = .int .i64 0 | _ => True) [(2, fun fl r w_ => fl 13 = false → (∃ a b vs, r 2 = .agg #[a, b] ∧ RdRiver w_ w_.heap.size a b rv vs)), (5, fun fl r w_ => fl 13 = false → (∃ v ss, r 5 = v ∧ RdSides w_ w_.heap.size v sides ss)), (12, fun fl r w_ => ∃ g_, r 12 = .pointer (some ⟨g_, 0, none⟩) ∧ w4.heap.size ≤ g_ ∧ (fl 13 = false → Blk w_ g_ 23 #[.int .i64 0, .int .i64 0])), (13, fun _ r w_ => ∃ g_, r 12 = .pointer (some ⟨g_, 0, none⟩) ∧ Blk w_ g_ 23 #[.int .i64 (volOf rv.reaches sides k 0 p).lo, .int .i64 (volOf rv.reaches sides k 0 p).hi])]) (by kernel_rfl) rfl rfl (by intro i hi; simp at hi; first | (subst hi; exact ⟨by simp, by omega⟩) | (rcases hi with rfl | rfl | rfl <;> exact ⟨by simp, by omega⟩) | (rcases hi with rfl | rfl <;> exact ⟨by simp, by omega⟩)) (base_below w4) (phiS_cons (monoS_till mono_riv) (phiS_cons (monoS_till mono_sid) (phiS_cons monoS_alloc (phiS_cons monoS_store (phiS_nil))))) (fun i_ hi_ hs_ => ?_) (fun i_ hi_ => ?_) ?_
    · match i_, hi_ with
      | 0, _ =>
        intro val fl w1 a hb ha hd hfl
        have ha := ha.sub (Sub.ins (d := 2) (Sub.nil _) rfl)
        exact ss_val ha rfl rfl (fa_54_0 rfl) rfl rfl
      | 1, _ =>
        intro val fl w1 a hb ha hd hfl
        have e0 : val 0 = .pointer (some ⟨g1, 0, none⟩) := hd 0 (memB_mem.1 rfl)
        have ha := ha.sub (Sub.ins (d := 52) (Sub.nil _) (dep_get rfl e0))
        exact ss_val ha rfl rfl (ld_47 rfl ((q1.below hb q1.lt).at (j := 0) rfl) ((q1.below hb q1.lt).at (j := 1) rfl)) rfl rfl
      | 2, _ =>
        intro val fl w1 a hb ha hd hfl
        have e1 : val 1 = .agg #[.slice A rv.reaches.length c, .slice A' rv.shoals.length c'] := hd 1 (memB_mem.1 rfl)
        have ha := ha.sub (Sub.ins (d := 53) (Sub.nil _) (dep_get rfl e1))
        refine ss_call ha rfl rfl (cl_24 rfl) (copied_any rv _ _ vs _ B (hr.below ((Below.on hbw hb hbw.size).mono hB)) (Nat.le_trans hB (Below.on hbw hb hbw.size).size) (by omega) (by omega) f3) rfl ?_
        rintro e w' ⟨⟨v1, u1, vs1, rfl, hcp⟩, hb'⟩
        exact ⟨_, rfl, hb', fun _ => ⟨_, _, _, rfl, hcp⟩⟩
      | 3, _ =>
        intro val fl w1 a hb ha hd hfl
        have ha := ha.sub (Sub.ins (d := 2) (Sub.nil _) rfl)
        exact ss_val ha rfl rfl (fa_54_1 rfl) rfl rfl
      | 4, _ =>
        intro val fl w1 a hb ha hd hfl
        have e3 : val 3 = .pointer (some ⟨g1, 2, none⟩) := hd 3 (memB_mem.1 rfl)
        have ha := ha.sub (Sub.ins (d := 55) (Sub.nil _) (dep_get rfl e3))
        exact ss_val ha rfl rfl (ld_52 rfl ((q1.below hb q1.lt).at (j := 2) rfl)) rfl rfl
      | 5, _ =>
        intro val fl w1 a hb ha hd hfl
        have e4 : val 4 = .slice (some ⟨bS, oS, none⟩) sides.length d := hd 4 (memB_mem.1 rfl)
        have ha := ha.sub (Sub.ins (d := 56) (Sub.nil _) (dep_get rfl e4))
        refine ss_call ha rfl rfl (cl_34 rfl) (forecast_any sides _ ss _ B (hs.below ((Below.on hbw hb hbw.size).mono hB)) (Nat.le_trans hB (Below.on hbw hb hbw.size).size) (by omega) f4) rfl ?_
        rintro e w' ⟨⟨v1, ss1, rfl, hcp⟩, hb'⟩
        exact ⟨_, rfl, hb', fun _ => ⟨_, _, rfl, hcp⟩⟩
      | 6, _ =>
        intro val fl w1 a hb ha hd hfl
        have ha := ha.sub (Sub.ins (d := 6) (Sub.nil _) rfl)
        exact ss_val ha rfl rfl (x_move rfl) rfl rfl
      | 7, _ =>
        intro val fl w1 a hb ha hd hfl
        have ha := ha.sub (Sub.ins (d := 7) (Sub.nil _) rfl)
        exact ss_val ha rfl rfl (x_move rfl) rfl rfl
      | 8, _ =>
        intro val fl w1 a hb ha hd hfl
        obtain ⟨a2_, b2_, vs2_, e2, q2_⟩ := hd 2 (memB_mem.1 rfl) (hfl 13 (by simp) (memB_mem.1 rfl))
        obtain ⟨v5_, ss5_, e5, q5_⟩ := hd 5 (memB_mem.1 rfl) (hfl 13 (by simp) (memB_mem.1 rfl))
        have e6 : val 6 = .int .i64 (k : Nat) := hd 6 (memB_mem.1 rfl)
        have e7 : val 7 = .int .i64 (p : Nat) := hd 7 (memB_mem.1 rfl)
        have ha := ha.sub (Sub.ins (d := 59) (Sub.ins (d := 58) (Sub.ins (d := 57) (Sub.ins (d := 54) (Sub.nil _) (dep_get rfl e2)) (dep_get rfl e5)) (dep_get rfl e6)) (dep_get rfl e7))
        refine ss_call ha rfl rfl (cl_46 rfl rfl rfl rfl rfl) (vol_good0 rv sides _ _ _ _ _ k p _ w1.heap.size q2_ q5_ (Nat.le_refl _) hfine hst hk (by omega)) rfl ?_
        rintro e w' ⟨rfl, hb'⟩
        exact ⟨_, rfl, hb', rfl⟩
      | 9, _ =>
        intro val fl w1 a hb ha hd hfl
        have e8 : val 8 = .tuple #[.agg #[.int .i64 (volOf rv.reaches sides k 0 p).lo, .int .i64 (volOf rv.reaches sides k 0 p).hi], .int .i64 0] := hd 8 (memB_mem.1 rfl)
        have ha := ha.sub (Sub.ins (d := 60) (Sub.nil _) (dep_get rfl e8))
        exact ss_val ha rfl rfl (x_move rfl) rfl rfl
      | 10, _ =>
        intro val fl w1 a hb ha hd hfl
        have e9 : val 9 = .tuple #[.agg #[.int .i64 (volOf rv.reaches sides k 0 p).lo, .int .i64 (volOf rv.reaches sides k 0 p).hi], .int .i64 0] := hd 9 (memB_mem.1 rfl)
        have ha := ha.sub (Sub.ins (d := 51) (Sub.nil _) (dep_get rfl e9))
        exact ss_val ha rfl rfl (x_extract rfl rfl) rfl rfl
      | 11, _ =>
        intro val fl w1 a hb ha hd hfl
        have e9 : val 9 = .tuple #[.agg #[.int .i64 (volOf rv.reaches sides k 0 p).lo, .int .i64 (volOf rv.reaches sides k 0 p).hi], .int .i64 0] := hd 9 (memB_mem.1 rfl)
        have ha := ha.sub (Sub.ins (d := 51) (Sub.nil _) (dep_get rfl e9))
        exact ss_val ha rfl rfl (x_extract rfl rfl) rfl rfl
      | 12, _ =>
        intro val fl w1 a hb ha hd hfl
        have ha := ha.sub (Sub.nil _)
        exact ss_newP ha rfl rfl al_23 (fun g w' hq _ hge => ⟨g, rfl, Nat.le_trans hb.size hge, fun _ => hq⟩)
      | 13, _ =>
        exact absurd (by simp) hs_
      | k + 14, h => exact absurd h (by omega)
    · simp only [List.mem_singleton] at hi_; subst hi_
      intro val fl w1 a hb hfi ha hd hfl
      obtain ⟨g12_, e12, hg12_, q12_⟩ := hd 12 (memB_mem.1 rfl)
      change val 12 = _ at e12
      have e10 : val 10 = .agg #[.int .i64 (volOf rv.reaches sides k 0 p).lo, .int .i64 (volOf rv.reaches sides k 0 p).hi] := hd 10 (memB_mem.1 rfl)
      have ha := ha.sub (Sub.ins (d := 61) (Sub.ins (d := 9) (Sub.nil _) (dep_get rfl e12)) (dep_get rfl e10))
      refine ts_store ha rfl rfl rfl (q12_ hfi) sz_23 rfl rfl rfl rfl ?_
      intro w' hq hgr
      refine ⟨undef, rfl, hgr.size, below_store hb hgr hg12_, ⟨g12_, e12, hq⟩, fun j _ hj hn hA => ?_⟩
      exact phiS_cons_st (C := fun j => j ≠ 13 ∧ 13 ∉ clsAt [[], [0], [0, 1], [], [3], [0, 1, 2, 3, 4], [], [], [0, 1, 2, 3, 4, 5, 6, 7], [0, 1, 2, 3, 4, 5, 6, 7, 8], [0, 1, 2, 3, 4, 5, 6, 7, 8, 9], [0, 1, 2, 3, 4, 5, 6, 7, 8, 9], [], [0, 1, 2, 3, 4, 5, 6, 7, 8, 9, 10, 12], [0, 1, 2, 3, 4, 5, 6, 7, 8, 9, 10, 11, 12, 13]] j ∧ ∀ p ∈ [12], (p = j ∨ p ∈ clsAt [[], [0], [0, 1], [], [3], [0, 1, 2, 3, 4], [], [], [0, 1, 2, 3, 4, 5, 6, 7], [0, 1, 2, 3, 4, 5, 6, 7, 8], [0, 1, 2, 3, 4, 5, 6, 7, 8, 9], [0, 1, 2, 3, 4, 5, 6, 7, 8, 9], [], [0, 1, 2, 3, 4, 5, 6, 7, 8, 9, 10, 12], [0, 1, 2, 3, 4, 5, 6, 7, 8, 9, 10, 11, 12, 13]] j) → ∀ q ∈ [12], (q = 13 ∨ q ∈ clsAt [[], [0], [0, 1], [], [3], [0, 1, 2, 3, 4], [], [], [0, 1, 2, 3, 4, 5, 6, 7], [0, 1, 2, 3, 4, 5, 6, 7, 8], [0, 1, 2, 3, 4, 5, 6, 7, 8, 9], [0, 1, 2, 3, 4, 5, 6, 7, 8, 9], [], [0, 1, 2, 3, 4, 5, 6, 7, 8, 9, 10, 12], [0, 1, 2, 3, 4, 5, 6, 7, 8, 9, 10, 11, 12, 13]] 13) → p ≠ q → val p ≠ val q) (fun _ _ h => by rw [fset_eq] at h; cases h) (phiS_cons_st (C := fun j => j ≠ 13 ∧ 13 ∉ clsAt [[], [0], [0, 1], [], [3], [0, 1, 2, 3, 4], [], [], [0, 1, 2, 3, 4, 5, 6, 7], [0, 1, 2, 3, 4, 5, 6, 7, 8], [0, 1, 2, 3, 4, 5, 6, 7, 8, 9], [0, 1, 2, 3, 4, 5, 6, 7, 8, 9], [], [0, 1, 2, 3, 4, 5, 6, 7, 8, 9, 10, 12], [0, 1, 2, 3, 4, 5, 6, 7, 8, 9, 10, 11, 12, 13]] j ∧ ∀ p ∈ [12], (p = j ∨ p ∈ clsAt [[], [0], [0, 1], [], [3], [0, 1, 2, 3, 4], [], [], [0, 1, 2, 3, 4, 5, 6, 7], [0, 1, 2, 3, 4, 5, 6, 7, 8], [0, 1, 2, 3, 4, 5, 6, 7, 8, 9], [0, 1, 2, 3, 4, 5, 6, 7, 8, 9], [], [0, 1, 2, 3, 4, 5, 6, 7, 8, 9, 10, 12], [0, 1, 2, 3, 4, 5, 6, 7, 8, 9, 10, 11, 12, 13]] j) → ∀ q ∈ [12], (q = 13 ∨ q ∈ clsAt [[], [0], [0, 1], [], [3], [0, 1, 2, 3, 4], [], [], [0, 1, 2, 3, 4, 5, 6, 7], [0, 1, 2, 3, 4, 5, 6, 7, 8], [0, 1, 2, 3, 4, 5, 6, 7, 8, 9], [0, 1, 2, 3, 4, 5, 6, 7, 8, 9], [], [0, 1, 2, 3, 4, 5, 6, 7, 8, 9, 10, 12], [0, 1, 2, 3, 4, 5, 6, 7, 8, 9, 10, 11, 12, 13]] 13) → p ≠ q → val p ≠ val q) (fun _ _ h => by rw [fset_eq] at h; cases h) (phiS_cons_st (C := fun j => j ≠ 13 ∧ 13 ∉ clsAt [[], [0], [0, 1], [], [3], [0, 1, 2, 3, 4], [], [], [0, 1, 2, 3, 4, 5, 6, 7], [0, 1, 2, 3, 4, 5, 6, 7, 8], [0, 1, 2, 3, 4, 5, 6, 7, 8, 9], [0, 1, 2, 3, 4, 5, 6, 7, 8, 9], [], [0, 1, 2, 3, 4, 5, 6, 7, 8, 9, 10, 12], [0, 1, 2, 3, 4, 5, 6, 7, 8, 9, 10, 11, 12, 13]] j ∧ ∀ p ∈ [12], (p = j ∨ p ∈ clsAt [[], [0], [0, 1], [], [3], [0, 1, 2, 3, 4], [], [], [0, 1, 2, 3, 4, 5, 6, 7], [0, 1, 2, 3, 4, 5, 6, 7, 8], [0, 1, 2, 3, 4, 5, 6, 7, 8, 9], [0, 1, 2, 3, 4, 5, 6, 7, 8, 9], [], [0, 1, 2, 3, 4, 5, 6, 7, 8, 9, 10, 12], [0, 1, 2, 3, 4, 5, 6, 7, 8, 9, 10, 11, 12, 13]] j) → ∀ q ∈ [12], (q = 13 ∨ q ∈ clsAt [[], [0], [0, 1], [], [3], [0, 1, 2, 3, 4], [], [], [0, 1, 2, 3, 4, 5, 6, 7], [0, 1, 2, 3, 4, 5, 6, 7, 8], [0, 1, 2, 3, 4, 5, 6, 7, 8, 9], [0, 1, 2, 3, 4, 5, 6, 7, 8, 9], [], [0, 1, 2, 3, 4, 5, 6, 7, 8, 9, 10, 12], [0, 1, 2, 3, 4, 5, 6, 7, 8, 9, 10, 11, 12, 13]] 13) → p ≠ q → val p ≠ val q) (fun _ ⟨g, h1, h2, _⟩ => ⟨g, h1, h2, fun h => by rw [fset_eq] at h; cases h⟩) (phiS_cons_st (C := fun j => j ≠ 13 ∧ 13 ∉ clsAt [[], [0], [0, 1], [], [3], [0, 1, 2, 3, 4], [], [], [0, 1, 2, 3, 4, 5, 6, 7], [0, 1, 2, 3, 4, 5, 6, 7, 8], [0, 1, 2, 3, 4, 5, 6, 7, 8, 9], [0, 1, 2, 3, 4, 5, 6, 7, 8, 9], [], [0, 1, 2, 3, 4, 5, 6, 7, 8, 9, 10, 12], [0, 1, 2, 3, 4, 5, 6, 7, 8, 9, 10, 11, 12, 13]] j ∧ ∀ p ∈ [12], (p = j ∨ p ∈ clsAt [[], [0], [0, 1], [], [3], [0, 1, 2, 3, 4], [], [], [0, 1, 2, 3, 4, 5, 6, 7], [0, 1, 2, 3, 4, 5, 6, 7, 8], [0, 1, 2, 3, 4, 5, 6, 7, 8, 9], [0, 1, 2, 3, 4, 5, 6, 7, 8, 9], [], [0, 1, 2, 3, 4, 5, 6, 7, 8, 9, 10, 12], [0, 1, 2, 3, 4, 5, 6, 7, 8, 9, 10, 11, 12, 13]] j) → ∀ q ∈ [12], (q = 13 ∨ q ∈ clsAt [[], [0], [0, 1], [], [3], [0, 1, 2, 3, 4], [], [], [0, 1, 2, 3, 4, 5, 6, 7], [0, 1, 2, 3, 4, 5, 6, 7, 8], [0, 1, 2, 3, 4, 5, 6, 7, 8, 9], [0, 1, 2, 3, 4, 5, 6, 7, 8, 9], [], [0, 1, 2, 3, 4, 5, 6, 7, 8, 9, 10, 12], [0, 1, 2, 3, 4, 5, 6, 7, 8, 9, 10, 11, 12, 13]] 13) → p ≠ q → val p ≠ val q) (fun hc => absurd rfl hc.1) (fun _ _ h => h)))) j ⟨hj, hn, hA⟩
    · intro val fl wR6 hfl hb halc hd
      have e0 : val 0 = .pointer (some ⟨g1, 0, none⟩) := hd 0 (by omega)
      have e1 : val 1 = .agg #[.slice A rv.reaches.length c, .slice A' rv.shoals.length c'] := hd 1 (by omega)
      have e3 : val 3 = .pointer (some ⟨g1, 2, none⟩) := hd 3 (by omega)
      have e4 : val 4 = .slice (some ⟨bS, oS, none⟩) sides.length d := hd 4 (by omega)
      have e6 : val 6 = .int .i64 (k : Nat) := hd 6 (by omega)
      have e7 : val 7 = .int .i64 (p : Nat) := hd 7 (by omega)
      have e8 : val 8 = .tuple #[.agg #[.int .i64 (volOf rv.reaches sides k 0 p).lo, .int .i64 (volOf rv.reaches sides k 0 p).hi], .int .i64 0] := hd 8 (by omega)
      have e9 : val 9 = .tuple #[.agg #[.int .i64 (volOf rv.reaches sides k 0 p).lo, .int .i64 (volOf rv.reaches sides k 0 p).hi], .int .i64 0] := hd 9 (by omega)
      have e10 : val 10 = .agg #[.int .i64 (volOf rv.reaches sides k 0 p).lo, .int .i64 (volOf rv.reaches sides k 0 p).hi] := hd 10 (by omega)
      have e11 : val 11 = .int .i64 0 := hd 11 (by omega)
      obtain ⟨ga12_6, e12, qa12_6⟩ := hd 13 (by omega)
      change val 12 = _ at e12
      refine EL.ends (cs := [.pointer (some ⟨g1, 0, none⟩), .agg #[.slice A rv.reaches.length c, .slice A' rv.shoals.length c'], val 2, .pointer (some ⟨g1, 2, none⟩), .slice (some ⟨bS, oS, none⟩) sides.length d, val 5, .int .i64 (k : Nat), .int .i64 (p : Nat), .tuple #[.agg #[.int .i64 (volOf rv.reaches sides k 0 p).lo, .int .i64 (volOf rv.reaches sides k 0 p).hi], .int .i64 0], .tuple #[.agg #[.int .i64 (volOf rv.reaches sides k 0 p).lo, .int .i64 (volOf rv.reaches sides k 0 p).hi], .int .i64 0], .agg #[.int .i64 (volOf rv.reaches sides k 0 p).lo, .int .i64 (volOf rv.reaches sides k 0 p).hi], .int .i64 0, .pointer (some ⟨ga12_6, 0, none⟩), val 13]) ⟨e0, e1, rfl, e3, e4, rfl, e6, e7, e8, e9, e10, e11, e12, rfl, trivial⟩ rfl ?_
      replace q1 := q1.below hb q1.lt
      replace q2 := q2.below hb q2.lt
      have bge5 := alc_ge halc (i := 12) rfl rfl e12
      have n1_5 : g1 ≠ ga12_6 := Nat.ne_of_lt (Nat.lt_of_lt_of_le lt_1 bge5)
      have n2_5 : g2 ≠ ga12_6 := Nat.ne_of_lt (Nat.lt_of_lt_of_le lt_2 bge5)
      have bhbw_5 := Nat.le_trans hbw.size bge5
      replace hbw := Below.on hbw hb hbw.size
      refine EL.val (x_assign rfl) rfl ?_
      refine EL.nil ?_
      refine EX.seq ?_
      refine EC.seq ?_
      have lt_1 := q1.lt
      have lt_2 := q2.lt
      have lt_5 := qa12_6.lt
      refine EC.regionS [[], [0], [0, 1], [], [3], [0, 1, 2, 3, 4], [], [], [], [0, 1, 2, 3, 4, 5, 6, 7, 8], [0, 1, 2, 3, 4, 5, 6, 7, 8, 9], [0, 1, 2, 3, 4, 5, 6, 7, 8, 9, 10], [0, 1, 2, 3, 4, 5, 6, 7, 8, 9, 10], [], [0, 1, 2, 3, 4, 5, 6, 7, 8, 9, 10, 11, 13], [0, 1, 2, 3, 4, 5, 6, 7, 8, 9, 10, 11, 12, 13, 14]] 15 [13] [14] (fun _ w_ => Below wR6.heap.size wR6 w_) (phiS (fun i_ r => match i_ with | 0 => r 0 = .pointer (some ⟨g1, 0, none⟩) | 1 => r 1 = .agg #[.slice A rv.reaches.length c, .slice A' rv.shoals.length c'] | 3 => r 3 = .pointer (some ⟨g1, 2, none⟩) | 4 => r 4 = .slice (some ⟨bS, oS, none⟩) sides.length d | 6 => r 6 = .int .i64 (k : Nat) | 7 => r 7 = .int .i64 (p : Nat) | 8 => r 8 = .int .i64 (q : Nat) | 9 => r 9 = .tuple #[.agg #[.int .i64 (volOf rv.reaches sides k (p : Nat) (q - p)).lo, .int .i64 (volOf rv.reaches sides k (p : Nat) (q - p)).hi], .int .i64 0] | 10 => r 10 = .tuple #[.agg #[.int .i64 (volOf rv.reaches sides k (p : Nat) (q - p)).lo, .int .i64 (volOf rv.reaches sides k (p : Nat) (q - p)).hi], .int .i64 0] | 11 => r 11 = .agg #[.int .i64 (volOf rv.reaches sides k (p : Nat) (q - p)).lo, .int .i64 (volOf rv.reaches sides k (p : Nat) (q - p)).hi] | 12 => r 12 = .int .i64 0 | _ => True) [(2, fun fl r w_ => fl 14 = false → (∃ a b vs, r 2 = .agg #[a, b] ∧ RdRiver w_ w_.heap.size a b rv vs)), (5, fun fl r w_ => fl 14 = false → (∃ v ss, r 5 = v ∧ RdSides w_ w_.heap.size v sides ss)), (13, fun fl r w_ => ∃ g_, r 13 = .pointer (some ⟨g_, 0, none⟩) ∧ wR6.heap.size ≤ g_ ∧ (fl 14 = false → Blk w_ g_ 23 #[.int .i64 0, .int .i64 0])), (14, fun _ r w_ => ∃ g_, r 13 = .pointer (some ⟨g_, 0, none⟩) ∧ Blk w_ g_ 23 #[.int .i64 (volOf rv.reaches sides k (p : Nat) (q - p)).lo, .int .i64 (volOf rv.reaches sides k (p : Nat) (q - p)).hi])]) (by kernel_rfl) rfl rfl (by intro i hi; simp at hi; first | (subst hi; exact ⟨by simp, by omega⟩) | (rcases hi with rfl | rfl | rfl <;> exact ⟨by simp, by omega⟩) | (rcases hi with rfl | rfl <;> exact ⟨by simp, by omega⟩)) (base_below wR6) (phiS_cons (monoS_till mono_riv) (phiS_cons (monoS_till mono_sid) (phiS_cons monoS_alloc (phiS_cons monoS_store (phiS_nil))))) (fun i_ hi_ hs_ => ?_) (fun i_ hi_ => ?_) ?_
      · match i_, hi_ with
        | 0, _ =>
          intro val fl w1 a hb ha hd hfl
          have ha := ha.sub (Sub.ins (d := 2) (Sub.nil _) rfl)
          exact ss_val ha rfl rfl (fa_54_0 rfl) rfl rfl
        | 1, _ =>
          intro val fl w1 a hb ha hd hfl
          have e0 : val 0 = .pointer (some ⟨g1, 0, none⟩) := hd 0 (memB_mem.1 rfl)
          have ha := ha.sub (Sub.ins (d := 64) (Sub.nil _) (dep_get rfl e0))
          exact ss_val ha rfl rfl (ld_47 rfl ((q1.below hb q1.lt).at (j := 0) rfl) ((q1.below hb q1.lt).at (j := 1) rfl)) rfl rfl
        | 2, _ =>
          intro val fl w1 a hb ha hd hfl
          have e1 : val 1 = .agg #[.slice A rv.reaches.length c, .slice A' rv.shoals.length c'] := hd 1 (memB_mem.1 rfl)
          have ha := ha.sub (Sub.ins (d := 65) (Sub.nil _) (dep_get rfl e1))
          refine ss_call ha rfl rfl (cl_24 rfl) (copied_any rv _ _ vs _ B (hr.below ((Below.on hbw hb hbw.size).mono hB)) (Nat.le_trans hB (Below.on hbw hb hbw.size).size) (by omega) (by omega) f3) rfl ?_
          rintro e w' ⟨⟨v1, u1, vs1, rfl, hcp⟩, hb'⟩
          exact ⟨_, rfl, hb', fun _ => ⟨_, _, _, rfl, hcp⟩⟩
        | 3, _ =>
          intro val fl w1 a hb ha hd hfl
          have ha := ha.sub (Sub.ins (d := 2) (Sub.nil _) rfl)
          exact ss_val ha rfl rfl (fa_54_1 rfl) rfl rfl
        | 4, _ =>
          intro val fl w1 a hb ha hd hfl
          have e3 : val 3 = .pointer (some ⟨g1, 2, none⟩) := hd 3 (memB_mem.1 rfl)
          have ha := ha.sub (Sub.ins (d := 67) (Sub.nil _) (dep_get rfl e3))
          exact ss_val ha rfl rfl (ld_52 rfl ((q1.below hb q1.lt).at (j := 2) rfl)) rfl rfl
        | 5, _ =>
          intro val fl w1 a hb ha hd hfl
          have e4 : val 4 = .slice (some ⟨bS, oS, none⟩) sides.length d := hd 4 (memB_mem.1 rfl)
          have ha := ha.sub (Sub.ins (d := 68) (Sub.nil _) (dep_get rfl e4))
          refine ss_call ha rfl rfl (cl_34 rfl) (forecast_any sides _ ss _ B (hs.below ((Below.on hbw hb hbw.size).mono hB)) (Nat.le_trans hB (Below.on hbw hb hbw.size).size) (by omega) f4) rfl ?_
          rintro e w' ⟨⟨v1, ss1, rfl, hcp⟩, hb'⟩
          exact ⟨_, rfl, hb', fun _ => ⟨_, _, rfl, hcp⟩⟩
        | 6, _ =>
          intro val fl w1 a hb ha hd hfl
          have ha := ha.sub (Sub.ins (d := 6) (Sub.nil _) rfl)
          exact ss_val ha rfl rfl (x_move rfl) rfl rfl
        | 7, _ =>
          intro val fl w1 a hb ha hd hfl
          have ha := ha.sub (Sub.ins (d := 7) (Sub.nil _) rfl)
          exact ss_val ha rfl rfl (x_move rfl) rfl rfl
        | 8, _ =>
          intro val fl w1 a hb ha hd hfl
          have ha := ha.sub (Sub.ins (d := 8) (Sub.nil _) rfl)
          exact ss_val ha rfl rfl (x_move rfl) rfl rfl
        | 9, _ =>
          intro val fl w1 a hb ha hd hfl
          obtain ⟨a2_, b2_, vs2_, e2, q2_⟩ := hd 2 (memB_mem.1 rfl) (hfl 14 (by simp) (memB_mem.1 rfl))
          obtain ⟨v5_, ss5_, e5, q5_⟩ := hd 5 (memB_mem.1 rfl) (hfl 14 (by simp) (memB_mem.1 rfl))
          have e6 : val 6 = .int .i64 (k : Nat) := hd 6 (memB_mem.1 rfl)
          have e7 : val 7 = .int .i64 (p : Nat) := hd 7 (memB_mem.1 rfl)
          have e8 : val 8 = .int .i64 (q : Nat) := hd 8 (memB_mem.1 rfl)
          have ha := ha.sub (Sub.ins (d := 72) (Sub.ins (d := 71) (Sub.ins (d := 70) (Sub.ins (d := 69) (Sub.ins (d := 66) (Sub.nil _) (dep_get rfl e2)) (dep_get rfl e5)) (dep_get rfl e6)) (dep_get rfl e7)) (dep_get rfl e8))
          refine ss_call ha rfl rfl (cl_46 rfl rfl rfl rfl rfl) (vol_good rv sides _ _ _ _ _ k p q _ w1.heap.size q2_ q5_ (Nat.le_refl _) hfine hst hk hpq hqH) rfl ?_
          rintro e w' ⟨rfl, hb'⟩
          exact ⟨_, rfl, hb', rfl⟩
        | 10, _ =>
          intro val fl w1 a hb ha hd hfl
          have e9 : val 9 = .tuple #[.agg #[.int .i64 (volOf rv.reaches sides k (p : Nat) (q - p)).lo, .int .i64 (volOf rv.reaches sides k (p : Nat) (q - p)).hi], .int .i64 0] := hd 9 (memB_mem.1 rfl)
          have ha := ha.sub (Sub.ins (d := 73) (Sub.nil _) (dep_get rfl e9))
          exact ss_val ha rfl rfl (x_move rfl) rfl rfl
        | 11, _ =>
          intro val fl w1 a hb ha hd hfl
          have e10 : val 10 = .tuple #[.agg #[.int .i64 (volOf rv.reaches sides k (p : Nat) (q - p)).lo, .int .i64 (volOf rv.reaches sides k (p : Nat) (q - p)).hi], .int .i64 0] := hd 10 (memB_mem.1 rfl)
          have ha := ha.sub (Sub.ins (d := 63) (Sub.nil _) (dep_get rfl e10))
          exact ss_val ha rfl rfl (x_extract rfl rfl) rfl rfl
        | 12, _ =>
          intro val fl w1 a hb ha hd hfl
          have e10 : val 10 = .tuple #[.agg #[.int .i64 (volOf rv.reaches sides k (p : Nat) (q - p)).lo, .int .i64 (volOf rv.reaches sides k (p : Nat) (q - p)).hi], .int .i64 0] := hd 10 (memB_mem.1 rfl)
          have ha := ha.sub (Sub.ins (d := 63) (Sub.nil _) (dep_get rfl e10))
          exact ss_val ha rfl rfl (x_extract rfl rfl) rfl rfl
        | 13, _ =>
          intro val fl w1 a hb ha hd hfl
          have ha := ha.sub (Sub.nil _)
          exact ss_newP ha rfl rfl al_23 (fun g w' hq _ hge => ⟨g, rfl, Nat.le_trans hb.size hge, fun _ => hq⟩)
        | 14, _ =>
          exact absurd (by simp) hs_
        | k + 15, h => exact absurd h (by omega)
      · simp only [List.mem_singleton] at hi_; subst hi_
        intro val fl w1 a hb hfi ha hd hfl
        obtain ⟨g13_, e13, hg13_, q13_⟩ := hd 13 (memB_mem.1 rfl)
        change val 13 = _ at e13
        have e11 : val 11 = .agg #[.int .i64 (volOf rv.reaches sides k (p : Nat) (q - p)).lo, .int .i64 (volOf rv.reaches sides k (p : Nat) (q - p)).hi] := hd 11 (memB_mem.1 rfl)
        have ha := ha.sub (Sub.ins (d := 74) (Sub.ins (d := 11) (Sub.nil _) (dep_get rfl e13)) (dep_get rfl e11))
        refine ts_store ha rfl rfl rfl (q13_ hfi) sz_23 rfl rfl rfl rfl ?_
        intro w' hq hgr
        refine ⟨undef, rfl, hgr.size, below_store hb hgr hg13_, ⟨g13_, e13, hq⟩, fun j _ hj hn hA => ?_⟩
        exact phiS_cons_st (C := fun j => j ≠ 14 ∧ 14 ∉ clsAt [[], [0], [0, 1], [], [3], [0, 1, 2, 3, 4], [], [], [], [0, 1, 2, 3, 4, 5, 6, 7, 8], [0, 1, 2, 3, 4, 5, 6, 7, 8, 9], [0, 1, 2, 3, 4, 5, 6, 7, 8, 9, 10], [0, 1, 2, 3, 4, 5, 6, 7, 8, 9, 10], [], [0, 1, 2, 3, 4, 5, 6, 7, 8, 9, 10, 11, 13], [0, 1, 2, 3, 4, 5, 6, 7, 8, 9, 10, 11, 12, 13, 14]] j ∧ ∀ p ∈ [13], (p = j ∨ p ∈ clsAt [[], [0], [0, 1], [], [3], [0, 1, 2, 3, 4], [], [], [], [0, 1, 2, 3, 4, 5, 6, 7, 8], [0, 1, 2, 3, 4, 5, 6, 7, 8, 9], [0, 1, 2, 3, 4, 5, 6, 7, 8, 9, 10], [0, 1, 2, 3, 4, 5, 6, 7, 8, 9, 10], [], [0, 1, 2, 3, 4, 5, 6, 7, 8, 9, 10, 11, 13], [0, 1, 2, 3, 4, 5, 6, 7, 8, 9, 10, 11, 12, 13, 14]] j) → ∀ q ∈ [13], (q = 14 ∨ q ∈ clsAt [[], [0], [0, 1], [], [3], [0, 1, 2, 3, 4], [], [], [], [0, 1, 2, 3, 4, 5, 6, 7, 8], [0, 1, 2, 3, 4, 5, 6, 7, 8, 9], [0, 1, 2, 3, 4, 5, 6, 7, 8, 9, 10], [0, 1, 2, 3, 4, 5, 6, 7, 8, 9, 10], [], [0, 1, 2, 3, 4, 5, 6, 7, 8, 9, 10, 11, 13], [0, 1, 2, 3, 4, 5, 6, 7, 8, 9, 10, 11, 12, 13, 14]] 14) → p ≠ q → val p ≠ val q) (fun _ _ h => by rw [fset_eq] at h; cases h) (phiS_cons_st (C := fun j => j ≠ 14 ∧ 14 ∉ clsAt [[], [0], [0, 1], [], [3], [0, 1, 2, 3, 4], [], [], [], [0, 1, 2, 3, 4, 5, 6, 7, 8], [0, 1, 2, 3, 4, 5, 6, 7, 8, 9], [0, 1, 2, 3, 4, 5, 6, 7, 8, 9, 10], [0, 1, 2, 3, 4, 5, 6, 7, 8, 9, 10], [], [0, 1, 2, 3, 4, 5, 6, 7, 8, 9, 10, 11, 13], [0, 1, 2, 3, 4, 5, 6, 7, 8, 9, 10, 11, 12, 13, 14]] j ∧ ∀ p ∈ [13], (p = j ∨ p ∈ clsAt [[], [0], [0, 1], [], [3], [0, 1, 2, 3, 4], [], [], [], [0, 1, 2, 3, 4, 5, 6, 7, 8], [0, 1, 2, 3, 4, 5, 6, 7, 8, 9], [0, 1, 2, 3, 4, 5, 6, 7, 8, 9, 10], [0, 1, 2, 3, 4, 5, 6, 7, 8, 9, 10], [], [0, 1, 2, 3, 4, 5, 6, 7, 8, 9, 10, 11, 13], [0, 1, 2, 3, 4, 5, 6, 7, 8, 9, 10, 11, 12, 13, 14]] j) → ∀ q ∈ [13], (q = 14 ∨ q ∈ clsAt [[], [0], [0, 1], [], [3], [0, 1, 2, 3, 4], [], [], [], [0, 1, 2, 3, 4, 5, 6, 7, 8], [0, 1, 2, 3, 4, 5, 6, 7, 8, 9], [0, 1, 2, 3, 4, 5, 6, 7, 8, 9, 10], [0, 1, 2, 3, 4, 5, 6, 7, 8, 9, 10], [], [0, 1, 2, 3, 4, 5, 6, 7, 8, 9, 10, 11, 13], [0, 1, 2, 3, 4, 5, 6, 7, 8, 9, 10, 11, 12, 13, 14]] 14) → p ≠ q → val p ≠ val q) (fun _ _ h => by rw [fset_eq] at h; cases h) (phiS_cons_st (C := fun j => j ≠ 14 ∧ 14 ∉ clsAt [[], [0], [0, 1], [], [3], [0, 1, 2, 3, 4], [], [], [], [0, 1, 2, 3, 4, 5, 6, 7, 8], [0, 1, 2, 3, 4, 5, 6, 7, 8, 9], [0, 1, 2, 3, 4, 5, 6, 7, 8, 9, 10], [0, 1, 2, 3, 4, 5, 6, 7, 8, 9, 10], [], [0, 1, 2, 3, 4, 5, 6, 7, 8, 9, 10, 11, 13], [0, 1, 2, 3, 4, 5, 6, 7, 8, 9, 10, 11, 12, 13, 14]] j ∧ ∀ p ∈ [13], (p = j ∨ p ∈ clsAt [[], [0], [0, 1], [], [3], [0, 1, 2, 3, 4], [], [], [], [0, 1, 2, 3, 4, 5, 6, 7, 8], [0, 1, 2, 3, 4, 5, 6, 7, 8, 9], [0, 1, 2, 3, 4, 5, 6, 7, 8, 9, 10], [0, 1, 2, 3, 4, 5, 6, 7, 8, 9, 10], [], [0, 1, 2, 3, 4, 5, 6, 7, 8, 9, 10, 11, 13], [0, 1, 2, 3, 4, 5, 6, 7, 8, 9, 10, 11, 12, 13, 14]] j) → ∀ q ∈ [13], (q = 14 ∨ q ∈ clsAt [[], [0], [0, 1], [], [3], [0, 1, 2, 3, 4], [], [], [], [0, 1, 2, 3, 4, 5, 6, 7, 8], [0, 1, 2, 3, 4, 5, 6, 7, 8, 9], [0, 1, 2, 3, 4, 5, 6, 7, 8, 9, 10], [0, 1, 2, 3, 4, 5, 6, 7, 8, 9, 10], [], [0, 1, 2, 3, 4, 5, 6, 7, 8, 9, 10, 11, 13], [0, 1, 2, 3, 4, 5, 6, 7, 8, 9, 10, 11, 12, 13, 14]] 14) → p ≠ q → val p ≠ val q) (fun _ ⟨g, h1, h2, _⟩ => ⟨g, h1, h2, fun h => by rw [fset_eq] at h; cases h⟩) (phiS_cons_st (C := fun j => j ≠ 14 ∧ 14 ∉ clsAt [[], [0], [0, 1], [], [3], [0, 1, 2, 3, 4], [], [], [], [0, 1, 2, 3, 4, 5, 6, 7, 8], [0, 1, 2, 3, 4, 5, 6, 7, 8, 9], [0, 1, 2, 3, 4, 5, 6, 7, 8, 9, 10], [0, 1, 2, 3, 4, 5, 6, 7, 8, 9, 10], [], [0, 1, 2, 3, 4, 5, 6, 7, 8, 9, 10, 11, 13], [0, 1, 2, 3, 4, 5, 6, 7, 8, 9, 10, 11, 12, 13, 14]] j ∧ ∀ p ∈ [13], (p = j ∨ p ∈ clsAt [[], [0], [0, 1], [], [3], [0, 1, 2, 3, 4], [], [], [], [0, 1, 2, 3, 4, 5, 6, 7, 8], [0, 1, 2, 3, 4, 5, 6, 7, 8, 9], [0, 1, 2, 3, 4, 5, 6, 7, 8, 9, 10], [0, 1, 2, 3, 4, 5, 6, 7, 8, 9, 10], [], [0, 1, 2, 3, 4, 5, 6, 7, 8, 9, 10, 11, 13], [0, 1, 2, 3, 4, 5, 6, 7, 8, 9, 10, 11, 12, 13, 14]] j) → ∀ q ∈ [13], (q = 14 ∨ q ∈ clsAt [[], [0], [0, 1], [], [3], [0, 1, 2, 3, 4], [], [], [], [0, 1, 2, 3, 4, 5, 6, 7, 8], [0, 1, 2, 3, 4, 5, 6, 7, 8, 9], [0, 1, 2, 3, 4, 5, 6, 7, 8, 9, 10], [0, 1, 2, 3, 4, 5, 6, 7, 8, 9, 10], [], [0, 1, 2, 3, 4, 5, 6, 7, 8, 9, 10, 11, 13], [0, 1, 2, 3, 4, 5, 6, 7, 8, 9, 10, 11, 12, 13, 14]] 14) → p ≠ q → val p ≠ val q) (fun hc => absurd rfl hc.1) (fun _ _ h => h)))) j ⟨hj, hn, hA⟩
      · intro val fl wR7 hfl hb halc hd
        have e0 : val 0 = .pointer (some ⟨g1, 0, none⟩) := hd 0 (by omega)
        have e1 : val 1 = .agg #[.slice A rv.reaches.length c, .slice A' rv.shoals.length c'] := hd 1 (by omega)
        have e3 : val 3 = .pointer (some ⟨g1, 2, none⟩) := hd 3 (by omega)
        have e4 : val 4 = .slice (some ⟨bS, oS, none⟩) sides.length d := hd 4 (by omega)
        have e6 : val 6 = .int .i64 (k : Nat) := hd 6 (by omega)
        have e7 : val 7 = .int .i64 (p : Nat) := hd 7 (by omega)
        have e8 : val 8 = .int .i64 (q : Nat) := hd 8 (by omega)
        have e9 : val 9 = .tuple #[.agg #[.int .i64 (volOf rv.reaches sides k (p : Nat) (q - p)).lo, .int .i64 (volOf rv.reaches sides k (p : Nat) (q - p)).hi], .int .i64 0] := hd 9 (by omega)
        have e10 : val 10 = .tuple #[.agg #[.int .i64 (volOf rv.reaches sides k (p : Nat) (q - p)).lo, .int .i64 (volOf rv.reaches sides k (p : Nat) (q - p)).hi], .int .i64 0] := hd 10 (by omega)
        have e11 : val 11 = .agg #[.int .i64 (volOf rv.reaches sides k (p : Nat) (q - p)).lo, .int .i64 (volOf rv.reaches sides k (p : Nat) (q - p)).hi] := hd 11 (by omega)
        have e12 : val 12 = .int .i64 0 := hd 12 (by omega)
        obtain ⟨ga13_7, e13, qa13_7⟩ := hd 14 (by omega)
        change val 13 = _ at e13
        refine EL.ends (cs := [.pointer (some ⟨g1, 0, none⟩), .agg #[.slice A rv.reaches.length c, .slice A' rv.shoals.length c'], val 2, .pointer (some ⟨g1, 2, none⟩), .slice (some ⟨bS, oS, none⟩) sides.length d, val 5, .int .i64 (k : Nat), .int .i64 (p : Nat), .int .i64 (q : Nat), .tuple #[.agg #[.int .i64 (volOf rv.reaches sides k (p : Nat) (q - p)).lo, .int .i64 (volOf rv.reaches sides k (p : Nat) (q - p)).hi], .int .i64 0], .tuple #[.agg #[.int .i64 (volOf rv.reaches sides k (p : Nat) (q - p)).lo, .int .i64 (volOf rv.reaches sides k (p : Nat) (q - p)).hi], .int .i64 0], .agg #[.int .i64 (volOf rv.reaches sides k (p : Nat) (q - p)).lo, .int .i64 (volOf rv.reaches sides k (p : Nat) (q - p)).hi], .int .i64 0, .pointer (some ⟨ga13_7, 0, none⟩), val 14]) ⟨e0, e1, rfl, e3, e4, rfl, e6, e7, e8, e9, e10, e11, e12, e13, rfl, trivial⟩ rfl ?_
        replace q1 := q1.below hb q1.lt
        replace q2 := q2.below hb q2.lt
        replace qa12_6 := qa12_6.below hb qa12_6.lt
        have bge6 := alc_ge halc (i := 13) rfl rfl e13
        have n1_6 : g1 ≠ ga13_7 := Nat.ne_of_lt (Nat.lt_of_lt_of_le lt_1 bge6)
        have n2_6 : g2 ≠ ga13_7 := Nat.ne_of_lt (Nat.lt_of_lt_of_le lt_2 bge6)
        have n5_6 : ga12_6 ≠ ga13_7 := Nat.ne_of_lt (Nat.lt_of_lt_of_le lt_5 bge6)
        have bhbw_6 := Nat.le_trans hbw.size bge6
        replace hbw := Below.on hbw hb hbw.size
        refine EL.val (x_assign rfl) rfl ?_
        refine EL.nil ?_
        refine EX.seq ?_
        refine EC.seq ?_
        have lt_1 := q1.lt
        have lt_2 := q2.lt
        have lt_5 := qa12_6.lt
        have lt_6 := qa13_7.lt
        refine EC.regionS [[], [0], [0, 1], [], [3], [0, 1, 2, 3, 4], [], [], [0, 1, 2, 3, 4, 5, 6, 7], [0, 1, 2, 3, 4, 5, 6, 7, 8], [0, 1, 2, 3, 4, 5, 6, 7, 8, 9], [0, 1, 2, 3, 4, 5, 6, 7, 8, 9], [], [0, 1, 2, 3, 4, 5, 6, 7, 8, 9, 10, 12], [0, 1, 2, 3, 4, 5, 6, 7, 8, 9, 10, 11, 12, 13]] 14 [12] [13] (fun _ w_ => Below wR7.heap.size wR7 w_) (phiS (fun i_ r => match i_ with | 0 => r 0 = .pointer (some ⟨g1, 0, none⟩) | 1 => r 1 = .agg #[.slice A rv.reaches.length c, .slice A' rv.shoals.length c'] | 3 => r 3 = .pointer (some ⟨g1, 2, none⟩) | 4 => r 4 = .slice (some ⟨bS, oS, none⟩) sides.length d | 6 => r 6 = .int .i64 (k : Nat) | 7 => r 7 = .int .i64 (q : Nat) | 8 => r 8 = .tuple #[.agg #[.int .i64 (volOf rv.reaches sides k 0 q).lo, .int .i64 (volOf rv.reaches sides k 0 q).hi], .int .i64 0] | 9 => r 9 = .tuple #[.agg #[.int .i64 (volOf rv.reaches sides k 0 q).lo, .int .i64 (volOf rv.reaches sides k 0 q).hi], .int .i64 0] | 10 => r 10 = .agg #[.int .i64 (volOf rv.reaches sides k 0 q).lo, .int .i64 (volOf rv.reaches sides k 0 q).hi] | 11 => r 11 = .int .i64 0 | _ => True) [(2, fun fl r w_ => fl 13 = false → (∃ a b vs, r 2 = .agg #[a, b] ∧ RdRiver w_ w_.heap.size a b rv vs)), (5, fun fl r w_ => fl 13 = false → (∃ v ss, r 5 = v ∧ RdSides w_ w_.heap.size v sides ss)), (12, fun fl r w_ => ∃ g_, r 12 = .pointer (some ⟨g_, 0, none⟩) ∧ wR7.heap.size ≤ g_ ∧ (fl 13 = false → Blk w_ g_ 23 #[.int .i64 0, .int .i64 0])), (13, fun _ r w_ => ∃ g_, r 12 = .pointer (some ⟨g_, 0, none⟩) ∧ Blk w_ g_ 23 #[.int .i64 (volOf rv.reaches sides k 0 q).lo, .int .i64 (volOf rv.reaches sides k 0 q).hi])]) (by kernel_rfl) rfl rfl (by intro i hi; simp at hi; first | (subst hi; exact ⟨by simp, by omega⟩) | (rcases hi with rfl | rfl | rfl <;> exact ⟨by simp, by omega⟩) | (rcases hi with rfl | rfl <;> exact ⟨by simp, by omega⟩)) (base_below wR7) (phiS_cons (monoS_till mono_riv) (phiS_cons (monoS_till mono_sid) (phiS_cons monoS_alloc (phiS_cons monoS_store (phiS_nil))))) (fun i_ hi_ hs_ => ?_) (fun i_ hi_ => ?_) ?_
        · match i_, hi_ with
          | 0, _ =>
            intro val fl w1 a hb ha hd hfl
            have ha := ha.sub (Sub.ins (d := 2) (Sub.nil _) rfl)
            exact ss_val ha rfl rfl (fa_54_0 rfl) rfl rfl
          | 1, _ =>
            intro val fl w1 a hb ha hd hfl
            have e0 : val 0 = .pointer (some ⟨g1, 0, none⟩) := hd 0 (memB_mem.1 rfl)
            have ha := ha.sub (Sub.ins (d := 77) (Sub.nil _) (dep_get rfl e0))
            exact ss_val ha rfl rfl (ld_47 rfl ((q1.below hb q1.lt).at (j := 0) rfl) ((q1.below hb q1.lt).at (j := 1) rfl)) rfl rfl
          | 2, _ =>
            intro val fl w1 a hb ha hd hfl
            have e1 : val 1 = .agg #[.slice A rv.reaches.length c, .slice A' rv.shoals.length c'] := hd 1 (memB_mem.1 rfl)
            have ha := ha.sub (Sub.ins (d := 78) (Sub.nil _) (dep_get rfl e1))
            refine ss_call ha rfl rfl (cl_24 rfl) (copied_any rv _ _ vs _ B (hr.below ((Below.on hbw hb hbw.size).mono hB)) (Nat.le_trans hB (Below.on hbw hb hbw.size).size) (by omega) (by omega) f3) rfl ?_
            rintro e w' ⟨⟨v1, u1, vs1, rfl, hcp⟩, hb'⟩
            exact ⟨_, rfl, hb', fun _ => ⟨_, _, _, rfl, hcp⟩⟩
          | 3, _ =>
            intro val fl w1 a hb ha hd hfl
            have ha := ha.sub (Sub.ins (d := 2) (Sub.nil _) rfl)
            exact ss_val ha rfl rfl (fa_54_1 rfl) rfl rfl
          | 4, _ =>
            intro val fl w1 a hb ha hd hfl
            have e3 : val 3 = .pointer (some ⟨g1, 2, none⟩) := hd 3 (memB_mem.1 rfl)
            have ha := ha.sub (Sub.ins (d := 80) (Sub.nil _) (dep_get rfl e3))
            exact ss_val ha rfl rfl (ld_52 rfl ((q1.below hb q1.lt).at (j := 2) rfl)) rfl rfl
          | 5, _ =>
            intro val fl w1 a hb ha hd hfl
            have e4 : val 4 = .slice (some ⟨bS, oS, none⟩) sides.length d := hd 4 (memB_mem.1 rfl)
            have ha := ha.sub (Sub.ins (d := 81) (Sub.nil _) (dep_get rfl e4))
            refine ss_call ha rfl rfl (cl_34 rfl) (forecast_any sides _ ss _ B (hs.below ((Below.on hbw hb hbw.size).mono hB)) (Nat.le_trans hB (Below.on hbw hb hbw.size).size) (by omega) f4) rfl ?_
            rintro e w' ⟨⟨v1, ss1, rfl, hcp⟩, hb'⟩
            exact ⟨_, rfl, hb', fun _ => ⟨_, _, rfl, hcp⟩⟩
          | 6, _ =>
            intro val fl w1 a hb ha hd hfl
            have ha := ha.sub (Sub.ins (d := 6) (Sub.nil _) rfl)
            exact ss_val ha rfl rfl (x_move rfl) rfl rfl
          | 7, _ =>
            intro val fl w1 a hb ha hd hfl
            have ha := ha.sub (Sub.ins (d := 8) (Sub.nil _) rfl)
            exact ss_val ha rfl rfl (x_move rfl) rfl rfl
          | 8, _ =>
            intro val fl w1 a hb ha hd hfl
            obtain ⟨a2_, b2_, vs2_, e2, q2_⟩ := hd 2 (memB_mem.1 rfl) (hfl 13 (by simp) (memB_mem.1 rfl))
            obtain ⟨v5_, ss5_, e5, q5_⟩ := hd 5 (memB_mem.1 rfl) (hfl 13 (by simp) (memB_mem.1 rfl))
            have e6 : val 6 = .int .i64 (k : Nat) := hd 6 (memB_mem.1 rfl)
            have e7 : val 7 = .int .i64 (q : Nat) := hd 7 (memB_mem.1 rfl)
            have ha := ha.sub (Sub.ins (d := 84) (Sub.ins (d := 83) (Sub.ins (d := 82) (Sub.ins (d := 79) (Sub.nil _) (dep_get rfl e2)) (dep_get rfl e5)) (dep_get rfl e6)) (dep_get rfl e7))
            refine ss_call ha rfl rfl (cl_46 rfl rfl rfl rfl rfl) (vol_good0 rv sides _ _ _ _ _ k q _ w1.heap.size q2_ q5_ (Nat.le_refl _) hfine hst hk hqH) rfl ?_
            rintro e w' ⟨rfl, hb'⟩
            exact ⟨_, rfl, hb', rfl⟩
          | 9, _ =>
            intro val fl w1 a hb ha hd hfl
            have e8 : val 8 = .tuple #[.agg #[.int .i64 (volOf rv.reaches sides k 0 q).lo, .int .i64 (volOf rv.reaches sides k 0 q).hi], .int .i64 0] := hd 8 (memB_mem.1 rfl)
            have ha := ha.sub (Sub.ins (d := 85) (Sub.nil _) (dep_get rfl e8))
            exact ss_val ha rfl rfl (x_move rfl) rfl rfl
          | 10, _ =>
            intro val fl w1 a hb ha hd hfl
            have e9 : val 9 = .tuple #[.agg #[.int .i64 (volOf rv.reaches sides k 0 q).lo, .int .i64 (volOf rv.reaches sides k 0 q).hi], .int .i64 0] := hd 9 (memB_mem.1 rfl)
            have ha := ha.sub (Sub.ins (d := 76) (Sub.nil _) (dep_get rfl e9))
            exact ss_val ha rfl rfl (x_extract rfl rfl) rfl rfl
          | 11, _ =>
            intro val fl w1 a hb ha hd hfl
            have e9 : val 9 = .tuple #[.agg #[.int .i64 (volOf rv.reaches sides k 0 q).lo, .int .i64 (volOf rv.reaches sides k 0 q).hi], .int .i64 0] := hd 9 (memB_mem.1 rfl)
            have ha := ha.sub (Sub.ins (d := 76) (Sub.nil _) (dep_get rfl e9))
            exact ss_val ha rfl rfl (x_extract rfl rfl) rfl rfl
          | 12, _ =>
            intro val fl w1 a hb ha hd hfl
            have ha := ha.sub (Sub.nil _)
            exact ss_newP ha rfl rfl al_23 (fun g w' hq _ hge => ⟨g, rfl, Nat.le_trans hb.size hge, fun _ => hq⟩)
          | 13, _ =>
            exact absurd (by simp) hs_
          | k + 14, h => exact absurd h (by omega)
        · simp only [List.mem_singleton] at hi_; subst hi_
          intro val fl w1 a hb hfi ha hd hfl
          obtain ⟨g12_, e12, hg12_, q12_⟩ := hd 12 (memB_mem.1 rfl)
          change val 12 = _ at e12
          have e10 : val 10 = .agg #[.int .i64 (volOf rv.reaches sides k 0 q).lo, .int .i64 (volOf rv.reaches sides k 0 q).hi] := hd 10 (memB_mem.1 rfl)
          have ha := ha.sub (Sub.ins (d := 86) (Sub.ins (d := 13) (Sub.nil _) (dep_get rfl e12)) (dep_get rfl e10))
          refine ts_store ha rfl rfl rfl (q12_ hfi) sz_23 rfl rfl rfl rfl ?_
          intro w' hq hgr
          refine ⟨undef, rfl, hgr.size, below_store hb hgr hg12_, ⟨g12_, e12, hq⟩, fun j _ hj hn hA => ?_⟩
          exact phiS_cons_st (C := fun j => j ≠ 13 ∧ 13 ∉ clsAt [[], [0], [0, 1], [], [3], [0, 1, 2, 3, 4], [], [], [0, 1, 2, 3, 4, 5, 6, 7], [0, 1, 2, 3, 4, 5, 6, 7, 8], [0, 1, 2, 3, 4, 5, 6, 7, 8, 9], [0, 1, 2, 3, 4, 5, 6, 7, 8, 9], [], [0, 1, 2, 3, 4, 5, 6, 7, 8, 9, 10, 12], [0, 1, 2, 3, 4, 5, 6, 7, 8, 9, 10, 11, 12, 13]] j ∧ ∀ p ∈ [12], (p = j ∨ p ∈ clsAt [[], [0], [0, 1], [], [3], [0, 1, 2, 3, 4], [], [], [0, 1, 2, 3, 4, 5, 6, 7], [0, 1, 2, 3, 4, 5, 6, 7, 8], [0, 1, 2, 3, 4, 5, 6, 7, 8, 9], [0, 1, 2, 3, 4, 5, 6, 7, 8, 9], [], [0, 1, 2, 3, 4, 5, 6, 7, 8, 9, 10, 12], [0, 1, 2, 3, 4, 5, 6, 7, 8, 9, 10, 11, 12, 13]] j) → ∀ q ∈ [12], (q = 13 ∨ q ∈ clsAt [[], [0], [0, 1], [], [3], [0, 1, 2, 3, 4], [], [], [0, 1, 2, 3, 4, 5, 6, 7], [0, 1, 2, 3, 4, 5, 6, 7, 8], [0, 1, 2, 3, 4, 5, 6, 7, 8, 9], [0, 1, 2, 3, 4, 5, 6, 7, 8, 9], [], [0, 1, 2, 3, 4, 5, 6, 7, 8, 9, 10, 12], [0, 1, 2, 3, 4, 5, 6, 7, 8, 9, 10, 11, 12, 13]] 13) → p ≠ q → val p ≠ val q) (fun _ _ h => by rw [fset_eq] at h; cases h) (phiS_cons_st (C := fun j => j ≠ 13 ∧ 13 ∉ clsAt [[], [0], [0, 1], [], [3], [0, 1, 2, 3, 4], [], [], [0, 1, 2, 3, 4, 5, 6, 7], [0, 1, 2, 3, 4, 5, 6, 7, 8], [0, 1, 2, 3, 4, 5, 6, 7, 8, 9], [0, 1, 2, 3, 4, 5, 6, 7, 8, 9], [], [0, 1, 2, 3, 4, 5, 6, 7, 8, 9, 10, 12], [0, 1, 2, 3, 4, 5, 6, 7, 8, 9, 10, 11, 12, 13]] j ∧ ∀ p ∈ [12], (p = j ∨ p ∈ clsAt [[], [0], [0, 1], [], [3], [0, 1, 2, 3, 4], [], [], [0, 1, 2, 3, 4, 5, 6, 7], [0, 1, 2, 3, 4, 5, 6, 7, 8], [0, 1, 2, 3, 4, 5, 6, 7, 8, 9], [0, 1, 2, 3, 4, 5, 6, 7, 8, 9], [], [0, 1, 2, 3, 4, 5, 6, 7, 8, 9, 10, 12], [0, 1, 2, 3, 4, 5, 6, 7, 8, 9, 10, 11, 12, 13]] j) → ∀ q ∈ [12], (q = 13 ∨ q ∈ clsAt [[], [0], [0, 1], [], [3], [0, 1, 2, 3, 4], [], [], [0, 1, 2, 3, 4, 5, 6, 7], [0, 1, 2, 3, 4, 5, 6, 7, 8], [0, 1, 2, 3, 4, 5, 6, 7, 8, 9], [0, 1, 2, 3, 4, 5, 6, 7, 8, 9], [], [0, 1, 2, 3, 4, 5, 6, 7, 8, 9, 10, 12], [0, 1, 2, 3, 4, 5, 6, 7, 8, 9, 10, 11, 12, 13]] 13) → p ≠ q → val p ≠ val q) (fun _ _ h => by rw [fset_eq] at h; cases h) (phiS_cons_st (C := fun j => j ≠ 13 ∧ 13 ∉ clsAt [[], [0], [0, 1], [], [3], [0, 1, 2, 3, 4], [], [], [0, 1, 2, 3, 4, 5, 6, 7], [0, 1, 2, 3, 4, 5, 6, 7, 8], [0, 1, 2, 3, 4, 5, 6, 7, 8, 9], [0, 1, 2, 3, 4, 5, 6, 7, 8, 9], [], [0, 1, 2, 3, 4, 5, 6, 7, 8, 9, 10, 12], [0, 1, 2, 3, 4, 5, 6, 7, 8, 9, 10, 11, 12, 13]] j ∧ ∀ p ∈ [12], (p = j ∨ p ∈ clsAt [[], [0], [0, 1], [], [3], [0, 1, 2, 3, 4], [], [], [0, 1, 2, 3, 4, 5, 6, 7], [0, 1, 2, 3, 4, 5, 6, 7, 8], [0, 1, 2, 3, 4, 5, 6, 7, 8, 9], [0, 1, 2, 3, 4, 5, 6, 7, 8, 9], [], [0, 1, 2, 3, 4, 5, 6, 7, 8, 9, 10, 12], [0, 1, 2, 3, 4, 5, 6, 7, 8, 9, 10, 11, 12, 13]] j) → ∀ q ∈ [12], (q = 13 ∨ q ∈ clsAt [[], [0], [0, 1], [], [3], [0, 1, 2, 3, 4], [], [], [0, 1, 2, 3, 4, 5, 6, 7], [0, 1, 2, 3, 4, 5, 6, 7, 8], [0, 1, 2, 3, 4, 5, 6, 7, 8, 9], [0, 1, 2, 3, 4, 5, 6, 7, 8, 9], [], [0, 1, 2, 3, 4, 5, 6, 7, 8, 9, 10, 12], [0, 1, 2, 3, 4, 5, 6, 7, 8, 9, 10, 11, 12, 13]] 13) → p ≠ q → val p ≠ val q) (fun _ ⟨g, h1, h2, _⟩ => ⟨g, h1, h2, fun h => by rw [fset_eq] at h; cases h⟩) (phiS_cons_st (C := fun j => j ≠ 13 ∧ 13 ∉ clsAt [[], [0], [0, 1], [], [3], [0, 1, 2, 3, 4], [], [], [0, 1, 2, 3, 4, 5, 6, 7], [0, 1, 2, 3, 4, 5, 6, 7, 8], [0, 1, 2, 3, 4, 5, 6, 7, 8, 9], [0, 1, 2, 3, 4, 5, 6, 7, 8, 9], [], [0, 1, 2, 3, 4, 5, 6, 7, 8, 9, 10, 12], [0, 1, 2, 3, 4, 5, 6, 7, 8, 9, 10, 11, 12, 13]] j ∧ ∀ p ∈ [12], (p = j ∨ p ∈ clsAt [[], [0], [0, 1], [], [3], [0, 1, 2, 3, 4], [], [], [0, 1, 2, 3, 4, 5, 6, 7], [0, 1, 2, 3, 4, 5, 6, 7, 8], [0, 1, 2, 3, 4, 5, 6, 7, 8, 9], [0, 1, 2, 3, 4, 5, 6, 7, 8, 9], [], [0, 1, 2, 3, 4, 5, 6, 7, 8, 9, 10, 12], [0, 1, 2, 3, 4, 5, 6, 7, 8, 9, 10, 11, 12, 13]] j) → ∀ q ∈ [12], (q = 13 ∨ q ∈ clsAt [[], [0], [0, 1], [], [3], [0, 1, 2, 3, 4], [], [], [0, 1, 2, 3, 4, 5, 6, 7], [0, 1, 2, 3, 4, 5, 6, 7, 8], [0, 1, 2, 3, 4, 5, 6, 7, 8, 9], [0, 1, 2, 3, 4, 5, 6, 7, 8, 9], [], [0, 1, 2, 3, 4, 5, 6, 7, 8, 9, 10, 12], [0, 1, 2, 3, 4, 5, 6, 7, 8, 9, 10, 11, 12, 13]] 13) → p ≠ q → val p ≠ val q) (fun hc => absurd rfl hc.1) (fun _ _ h => h)))) j ⟨hj, hn, hA⟩
        · intro val fl wR8 hfl hb halc hd
          have e0 : val 0 = .pointer (some ⟨g1, 0, none⟩) := hd 0 (by omega)
          have e1 : val 1 = .agg #[.slice A rv.reaches.length c, .slice A' rv.shoals.length c'] := hd 1 (by omega)
          have e3 : val 3 = .pointer (some ⟨g1, 2, none⟩) := hd 3 (by omega)
          have e4 : val 4 = .slice (some ⟨bS, oS, none⟩) sides.length d := hd 4 (by omega)
          have e6 : val 6 = .int .i64 (k : Nat) := hd 6 (by omega)
          have e7 : val 7 = .int .i64 (q : Nat) := hd 7 (by omega)
          have e8 : val 8 = .tuple #[.agg #[.int .i64 (volOf rv.reaches sides k 0 q).lo, .int .i64 (volOf rv.reaches sides k 0 q).hi], .int .i64 0] := hd 8 (by omega)
          have e9 : val 9 = .tuple #[.agg #[.int .i64 (volOf rv.reaches sides k 0 q).lo, .int .i64 (volOf rv.reaches sides k 0 q).hi], .int .i64 0] := hd 9 (by omega)
          have e10 : val 10 = .agg #[.int .i64 (volOf rv.reaches sides k 0 q).lo, .int .i64 (volOf rv.reaches sides k 0 q).hi] := hd 10 (by omega)
          have e11 : val 11 = .int .i64 0 := hd 11 (by omega)
          obtain ⟨ga12_8, e12, qa12_8⟩ := hd 13 (by omega)
          change val 12 = _ at e12
          refine EL.ends (cs := [.pointer (some ⟨g1, 0, none⟩), .agg #[.slice A rv.reaches.length c, .slice A' rv.shoals.length c'], val 2, .pointer (some ⟨g1, 2, none⟩), .slice (some ⟨bS, oS, none⟩) sides.length d, val 5, .int .i64 (k : Nat), .int .i64 (q : Nat), .tuple #[.agg #[.int .i64 (volOf rv.reaches sides k 0 q).lo, .int .i64 (volOf rv.reaches sides k 0 q).hi], .int .i64 0], .tuple #[.agg #[.int .i64 (volOf rv.reaches sides k 0 q).lo, .int .i64 (volOf rv.reaches sides k 0 q).hi], .int .i64 0], .agg #[.int .i64 (volOf rv.reaches sides k 0 q).lo, .int .i64 (volOf rv.reaches sides k 0 q).hi], .int .i64 0, .pointer (some ⟨ga12_8, 0, none⟩), val 13]) ⟨e0, e1, rfl, e3, e4, rfl, e6, e7, e8, e9, e10, e11, e12, rfl, trivial⟩ rfl ?_
          replace q1 := q1.below hb q1.lt
          replace q2 := q2.below hb q2.lt
          replace qa12_6 := qa12_6.below hb qa12_6.lt
          replace qa13_7 := qa13_7.below hb qa13_7.lt
          have bge7 := alc_ge halc (i := 12) rfl rfl e12
          have n1_7 : g1 ≠ ga12_8 := Nat.ne_of_lt (Nat.lt_of_lt_of_le lt_1 bge7)
          have n2_7 : g2 ≠ ga12_8 := Nat.ne_of_lt (Nat.lt_of_lt_of_le lt_2 bge7)
          have n5_7 : ga12_6 ≠ ga12_8 := Nat.ne_of_lt (Nat.lt_of_lt_of_le lt_5 bge7)
          have n6_7 : ga13_7 ≠ ga12_8 := Nat.ne_of_lt (Nat.lt_of_lt_of_le lt_6 bge7)
          have bhbw_7 := Nat.le_trans hbw.size bge7
          replace hbw := Below.on hbw hb hbw.size
          have hA := vol_bd hS hk (a := 0) (n := p) (by omega)
          have hBv := vol_bd hS hk (a := (p : Nat)) (n := q - p) (by omega)
          have hC := vol_bd hS hk (a := 0) (n := q) (by omega)
          have hadd := vol_split rv.reaches sides k p q hpq
          have hlo := congrArg Bd.lo hadd
          have hhi := congrArg Bd.hi hadd
          simp only [Bd.add] at hlo hhi
          clear hadd
          refine EL.val (x_assign rfl) rfl ?_
          refine EL.nil ?_
          refine EX.seq ?_
          refine EC.seq ?_
          refine EC.seq ?_
          refine EC.region ?_
          refine EL.val (x_move rfl) rfl ?_
          refine EL.val (x_neq rfl rfl (by first | assumption | exact decide_eq_false (by omega))) rfl ?_
          refine EL.val (x_move rfl) rfl ?_
          refine EL.valg rfl rfl (x_move rfl) rfl ?_
          refine EL.valg rfl rfl (x_neq rfl rfl (by first | assumption | exact decide_eq_false (by omega))) rfl ?_
          refine EL.val (x_pick_f rfl rfl) rfl ?_
          refine EL.val (x_move rfl) rfl ?_
          refine EL.valg rfl rfl (x_move rfl) rfl ?_
          refine EL.valg rfl rfl (x_neq rfl rfl (by first | assumption | exact decide_eq_false (by omega))) rfl ?_
          refine EL.val (x_pick_f rfl rfl) rfl ?_
          refine EL.val (x_move rfl) rfl ?_
          refine EL.valg rfl rfl (fa_23_0 rfl) rfl ?_
          refine EL.valg rfl rfl (ld_3 rfl (qa12_6.at (j := 0) rfl)) rfl ?_
          refine EL.valg rfl rfl (fa_23_0 rfl) rfl ?_
          refine EL.valg rfl rfl (ld_3 rfl (qa13_7.at (j := 0) rfl)) rfl ?_
          refine EL.valg rfl rfl (x_add rfl rfl (by first | assumption | exact IntWalk.i64_in _ ⟨by omega, by omega⟩)) rfl ?_
          refine EL.valg rfl rfl (fa_23_0 rfl) rfl ?_
          refine EL.valg rfl rfl (ld_3 rfl (qa12_8.at (j := 0) rfl)) rfl ?_
          refine EL.valg rfl rfl (x_neq rfl rfl (by first | assumption | exact decide_eq_false (by omega))) rfl ?_
          refine EL.val (x_pick_f rfl rfl) rfl ?_
          refine EL.val (x_move rfl) rfl ?_
          refine EL.valg rfl rfl (fa_23_1 rfl) rfl ?_
          refine EL.valg rfl rfl (ld_3 rfl (qa12_6.at (j := 1) rfl)) rfl ?_
          refine EL.valg rfl rfl (fa_23_1 rfl) rfl ?_
          refine EL.valg rfl rfl (ld_3 rfl (qa13_7.at (j := 1) rfl)) rfl ?_
          refine EL.valg rfl rfl (x_add rfl rfl (by first | assumption | exact IntWalk.i64_in _ ⟨by omega, by omega⟩)) rfl ?_
          refine EL.valg rfl rfl (fa_23_1 rfl) rfl ?_
          refine EL.valg rfl rfl (ld_3 rfl (qa12_8.at (j := 1) rfl)) rfl ?_
          refine EL.valg rfl rfl (x_neq rfl rfl (by first | assumption | exact decide_eq_false (by omega))) rfl ?_
          refine EL.val (x_pick_f rfl rfl) rfl ?_
          refine EL.val (x_move rfl) rfl ?_
          refine EL.valg rfl rfl (fa_23_0 rfl) rfl ?_
          refine EL.valg rfl rfl (ld_3 rfl (qa13_7.at (j := 0) rfl)) rfl ?_
          refine EL.valg rfl rfl (x_lss rfl rfl (by first | assumption | exact decide_eq_false (by omega))) rfl ?_
          refine EL.val (x_pick_f rfl rfl) rfl ?_
          refine EL.val (x_move rfl) rfl ?_
          refine EL.valg rfl rfl (fa_23_0 rfl) rfl ?_
          refine EL.valg rfl rfl (ld_3 rfl (qa13_7.at (j := 0) rfl)) rfl ?_
          refine EL.valg rfl rfl (fa_23_1 rfl) rfl ?_
          refine EL.valg rfl rfl (ld_3 rfl (qa13_7.at (j := 1) rfl)) rfl ?_
          refine EL.valg rfl rfl (x_gtr rfl rfl (by first | assumption | exact decide_eq_false (by omega))) rfl ?_
          refine EL.val (x_pick_f rfl rfl) rfl ?_
          refine EL.nil ?_
          refine EX.seq ?_
          refine EC.no rfl ?_
          refine EC.skip ?_
          refine EX.seq ?_
          refine EC.seq ?_
          refine EC.region ?_
          refine EL.val (bd_23_) rfl ?_
          refine EL.newP al_23 rfl ?_
          intro g8 w8 q8 hb8 hg8 hl8
          have n1_8 : g1 ≠ g8 := Nat.ne_of_lt (Nat.lt_of_lt_of_le q1.lt hg8)
          have n2_8 : g2 ≠ g8 := Nat.ne_of_lt (Nat.lt_of_lt_of_le q2.lt hg8)
          have n5_8 : ga12_6 ≠ g8 := Nat.ne_of_lt (Nat.lt_of_lt_of_le qa12_6.lt hg8)
          have n6_8 : ga13_7 ≠ g8 := Nat.ne_of_lt (Nat.lt_of_lt_of_le qa13_7.lt hg8)
          have n7_8 : ga12_8 ≠ g8 := Nat.ne_of_lt (Nat.lt_of_lt_of_le qa12_8.lt hg8)
          have bhbw_8 := Nat.le_trans hbw.size hg8
          replace q1 := q1.below hb8 q1.lt
          replace q2 := q2.below hb8 q2.lt
          replace qa12_6 := qa12_6.below hb8 qa12_6.lt
          replace qa13_7 := qa13_7.below hb8 qa13_7.lt
          replace qa12_8 := qa12_8.below hb8 qa12_8.lt
          replace hbw := Below.on hbw hb8 hbw.size
          clear hb8 hg8 hl8
          refine EL.store rfl rfl q8 sz_23 rfl rfl rfl rfl ?_
          intro w9 hq9 hg9
          replace q1 := q1.grown hg9 (fun h => n1_8 (Option.some.inj h))
          replace q2 := q2.grown hg9 (fun h => n2_8 (Option.some.inj h))
          replace qa12_6 := qa12_6.grown hg9 (fun h => n5_8 (Option.some.inj h))
          replace qa13_7 := qa13_7.grown hg9 (fun h => n6_8 (Option.some.inj h))
          replace qa12_8 := qa12_8.grown hg9 (fun h => n7_8 (Option.some.inj h))
          replace hbw := below_store hbw hg9 bhbw_8
          replace q8 := hq9
          clear hg9 hq9
          refine EL.nil ?_
          refine EX.seq ?_
          refine EC.seq ?_
          refine EC.seq ?_
          refine EC.region ?_
          refine EL.val (x_move rfl) rfl ?_
          refine EL.val (x_assign rfl) rfl ?_
          refine EL.nil ?_
          refine EX.seq ?_
          refine EC.block ?_
          refine EC.loopD [16, 132, 133, 134, 135, 136, 137, 138, 139, 140, 141, 142, 143, 144, 145, 146, 147, 148, 149, 150, 151, 152, 153, 154, 155, 156, 157, 158, 159, 160, 161] (fun x : Nat => [(16, .int .i64 ((p + x : Nat) : Int))]) (fun x W => x ≤ q - p ∧ Blk W g1 54 #[.slice A rv.reaches.length c, .slice A' rv.shoals.length c', .slice (some ⟨bS, oS, none⟩) sides.length d] ∧ Blk W ga13_7 23 #[.int .i64 (volOf rv.reaches sides k (p : Nat) (q - p)).lo, .int .i64 (volOf rv.reaches sides k (p : Nat) (q - p)).hi] ∧ Blk W g8 23 #[.int .i64 (sumN (sideOf sides k) (p : Nat) x).lo, .int .i64 (sumN (sideOf sides k) (p : Nat) x).hi] ∧ Below w.heap.size w W) (fun x => q - p - x) 0 ⟨Nat.zero_le _, q1, qa13_7, q8, hbw⟩ ⟨rfl, trivial⟩ ?_
          clear q1 qa13_7 q8 hbw
          rintro x wr ⟨hx, q1, qa13_7, q8, hbw⟩
          by_cases hlt : p + x < q
          ·
            have hb1 := side_bd hS hk (p := p) (n := x) (by omega)
            have hck := hsc k hk
            have hsk := hs.side k hk
            obtain ⟨Ak, cak, ekk, _⟩ := hsk.shape
            rw [ekk] at hck hsk
            have hlk : (sides.getD k []).length = (sides.getD 0 []).length := hS.same k hk
            rw [hlk] at hck hsk
            obtain ⟨bR, oR, rfl, _, d0, d1⟩ := bds_cells _ (p + x) (by rw [hlk]; omega) _ _ _ _ _ hsk
            have hy := hS.side k (p + x) hk (by omega)
            obtain ⟨y, ey⟩ : ∃ y, y = (sides.getD k []).getD (p + x) bd0 := ⟨_, rfl⟩
            rw [← ey] at d0 d1 hy
            have ey2 : sideOf sides k ((p : Nat) + (x : Nat)) = y := by rw [ey]; rfl
            have wlo : IntKind.i64.wrap ((sumN (sideOf sides k) (p : Nat) x).lo + y.lo) = (sumN (sideOf sides k) (p : Nat) (x + 1)).lo := by
              have h1 : (sumN (sideOf sides k) (p : Nat) (x + 1)).lo = (sumN (sideOf sides k) (p : Nat) x).lo + y.lo := by rw [sumN, ey2]; rfl
              rw [h1]
              exact IntWalk.i64_in _ ⟨by omega, by omega⟩
            have whi : IntKind.i64.wrap ((sumN (sideOf sides k) (p : Nat) x).hi + y.hi) = (sumN (sideOf sides k) (p : Nat) (x + 1)).hi := by
              have h1 : (sumN (sideOf sides k) (p : Nat) (x + 1)).hi = (sumN (sideOf sides k) (p : Nat) x).hi + y.hi := by rw [sumN, ey2]; rfl
              rw [h1]
              exact IntWalk.i64_in _ ⟨by omega, by omega⟩
            refine EC.seq ?_
            refine EC.seq ?_
            refine EC.region ?_
            refine EL.val (x_move rfl) rfl ?_
            refine EL.val (x_move rfl) rfl ?_
            refine EL.val (x_lss rfl rfl (by first | assumption | exact decide_eq_true (by omega))) rfl ?_
            refine EL.nil ?_
            refine EX.seq ?_
            refine EC.yes rfl ?_
            refine EC.skip ?_
            refine EX.seq ?_
            refine EC.seq ?_
            refine EC.block ?_
            have lt_1 := q1.lt
            have lt_6 := qa13_7.lt
            have lt_8 := q8.lt
            refine EC.regionP [[], [0], [], [2], [], [2, 3, 4], [2, 3, 4, 5], [], [2, 3, 4, 5, 6, 7], [2, 3, 4, 5, 6, 7, 8], [2, 3, 4, 5, 6, 7, 8, 9], [0, 1, 2, 3, 4, 5, 6, 7, 8, 9, 10], [], [12], [], [14], [], [14, 15, 16], [14, 15, 16, 17], [], [14, 15, 16, 17, 18, 19], [14, 15, 16, 17, 18, 19, 20], [14, 15, 16, 17, 18, 19, 20, 21], [12, 13, 14, 15, 16, 17, 18, 19, 20, 21, 22], [0, 1, 2, 3, 4, 5, 6, 7, 8, 9, 10, 11, 12, 13, 14, 15, 16, 17, 18, 19, 20, 21, 22, 23], [0, 1, 2, 3, 4, 5, 6, 7, 8, 9, 10, 11, 12, 13, 14, 15, 16, 17, 18, 19, 20, 21, 22, 23, 24]] 25 [] (phi (fun i_ r => match i_ with | 0 => r 0 = .pointer (some ⟨g8, 0, none⟩) | 1 => r 1 = .int .i64 (sumN (sideOf sides k) (p : Nat) x).lo | 2 => r 2 = .pointer (some ⟨g1, 2, none⟩) | 3 => r 3 = .slice (some ⟨bS, oS, none⟩) sides.length d | 4 => r 4 = .int .i64 (k : Nat) | 5 => r 5 = .pointer (some ⟨bS, oS + k, none⟩) | 6 => r 6 = .slice (some ⟨bR, oR, none⟩) (sides.getD 0 []).length cak | 7 => r 7 = .int .i64 ((p + x : Nat) : Int) | 8 => r 8 = .pointer (some ⟨bR, oR + (p + x) * 2, none⟩) | 9 => r 9 = .pointer (some ⟨bR, oR + (p + x) * 2, none⟩) | 10 => r 10 = .int .i64 y.lo | 11 => r 11 = .int .i64 (sumN (sideOf sides k) (p : Nat) (x + 1)).lo | 12 => r 12 = .pointer (some ⟨g8, 1, none⟩) | 13 => r 13 = .int .i64 (sumN (sideOf sides k) (p : Nat) x).hi | 14 => r 14 = .pointer (some ⟨g1, 2, none⟩) | 15 => r 15 = .slice (some ⟨bS, oS, none⟩) sides.length d | 16 => r 16 = .int .i64 (k : Nat) | 17 => r 17 = .pointer (some ⟨bS, oS + k, none⟩) | 18 => r 18 = .slice (some ⟨bR, oR, none⟩) (sides.getD 0 []).length cak | 19 => r 19 = .int .i64 ((p + x : Nat) : Int) | 20 => r 20 = .pointer (some ⟨bR, oR + (p + x) * 2, none⟩) | 21 => r 21 = .pointer (some ⟨bR, oR + (p + x) * 2 + 1, none⟩) | 22 => r 22 = .int .i64 y.hi | 23 => r 23 = .int .i64 (sumN (sideOf sides k) (p : Nat) (x + 1)).hi | 24 => r 24 = .agg #[.int .i64 (sumN (sideOf sides k) (p : Nat) (x + 1)).lo, .int .i64 (sumN (sideOf sides k) (p : Nat) (x + 1)).hi] | _ => True) []) (by kernel_rfl) rfl rfl (phi_nil) (fun i_ hi_ => ?_) ?_
            · match i_, hi_ with
              | 0, _ =>
                intro val w1 a hb ha hd
                have ha := ha.sub (Sub.ins (d := 15) (Sub.nil _) rfl)
                exact hs_val ha rfl rfl (fa_23_0 rfl) rfl rfl
              | 1, _ =>
                intro val w1 a hb ha hd
                have e0 : val 0 = .pointer (some ⟨g8, 0, none⟩) := hd 0 (memB_mem.1 rfl)
                have ha := ha.sub (Sub.ins (d := 137) (Sub.nil _) (dep_get rfl e0))
                exact hs_val ha rfl rfl (ld_3 rfl ((q8.below hb q8.lt).at (j := 0) rfl)) rfl rfl
              | 2, _ =>
                intro val w1 a hb ha hd
                have ha := ha.sub (Sub.ins (d := 2) (Sub.nil _) rfl)
                exact hs_val ha rfl rfl (fa_54_1 rfl) rfl rfl
              | 3, _ =>
                intro val w1 a hb ha hd
                have e2 : val 2 = .pointer (some ⟨g1, 2, none⟩) := hd 2 (memB_mem.1 rfl)
                have ha := ha.sub (Sub.ins (d := 139) (Sub.nil _) (dep_get rfl e2))
                exact hs_val ha rfl rfl (ld_52 rfl ((q1.below hb q1.lt).at (j := 2) rfl)) rfl rfl
              | 4, _ =>
                intro val w1 a hb ha hd
                have ha := ha.sub (Sub.ins (d := 6) (Sub.nil _) rfl)
                exact hs_val ha rfl rfl (x_move rfl) rfl rfl
              | 5, _ =>
                intro val w1 a hb ha hd
                have e3 : val 3 = .slice (some ⟨bS, oS, none⟩) sides.length d := hd 3 (memB_mem.1 rfl)
                have e4 : val 4 = .int .i64 (k : Nat) := hd 4 (memB_mem.1 rfl)
                have ha := ha.sub (Sub.ins (d := 141) (Sub.ins (d := 140) (Sub.nil _) (dep_get rfl e3)) (dep_get rfl e4))
                exact hs_val ha rfl rfl (ix_52 rfl rfl hk) rfl rfl
              | 6, _ =>
                intro val w1 a hb ha hd
                have e5 : val 5 = .pointer (some ⟨bS, oS + k, none⟩) := hd 5 (memB_mem.1 rfl)
                have ha := ha.sub (Sub.ins (d := 142) (Sub.nil _) (dep_get rfl e5))
                exact hs_val ha rfl rfl (ld_28 rfl (below_load (Below.on hbw hb hbw.size) hck)) rfl rfl
              | 7, _ =>
                intro val w1 a hb ha hd
                have ha := ha.sub (Sub.ins (d := 16) (Sub.nil _) rfl)
                exact hs_val ha rfl rfl (x_move rfl) rfl rfl
              | 8, _ =>
                intro val w1 a hb ha hd
                have e6 : val 6 = .slice (some ⟨bR, oR, none⟩) (sides.getD 0 []).length cak := hd 6 (memB_mem.1 rfl)
                have e7 : val 7 = .int .i64 ((p + x : Nat) : Int) := hd 7 (memB_mem.1 rfl)
                have ha := ha.sub (Sub.ins (d := 144) (Sub.ins (d := 143) (Sub.nil _) (dep_get rfl e6)) (dep_get rfl e7))
                exact hs_val ha rfl rfl (ix_28 rfl rfl (by omega)) rfl rfl
              | 9, _ =>
                intro val w1 a hb ha hd
                have e8 : val 8 = .pointer (some ⟨bR, oR + (p + x) * 2, none⟩) := hd 8 (memB_mem.1 rfl)
                have ha := ha.sub (Sub.ins (d := 145) (Sub.nil _) (dep_get rfl e8))
                exact hs_val ha rfl rfl (fa_23_0 rfl) rfl rfl
              | 10, _ =>
                intro val w1 a hb ha hd
                have e9 : val 9 = .pointer (some ⟨bR, oR + (p + x) * 2, none⟩) := hd 9 (memB_mem.1 rfl)
                have ha := ha.sub (Sub.ins (d := 146) (Sub.nil _) (dep_get rfl e9))
                exact hs_val ha rfl rfl (ld_3 rfl (below_load (Below.on hbw hb hbw.size) d0)) rfl rfl
              | 11, _ =>
                intro val w1 a hb ha hd
                have e1 : val 1 = .int .i64 (sumN (sideOf sides k) (p : Nat) x).lo := hd 1 (memB_mem.1 rfl)
                have e10 : val 10 = .int .i64 y.lo := hd 10 (memB_mem.1 rfl)
                have ha := ha.sub (Sub.ins (d := 147) (Sub.ins (d := 138) (Sub.nil _) (dep_get rfl e1)) (dep_get rfl e10))
                exact hs_val ha rfl rfl (x_add rfl rfl wlo) rfl rfl
              | 12, _ =>
                intro val w1 a hb ha hd
                have ha := ha.sub (Sub.ins (d := 15) (Sub.nil _) rfl)
                exact hs_val ha rfl rfl (fa_23_1 rfl) rfl rfl
              | 13, _ =>
                intro val w1 a hb ha hd
                have e12 : val 12 = .pointer (some ⟨g8, 1, none⟩) := hd 12 (memB_mem.1 rfl)
                have ha := ha.sub (Sub.ins (d := 149) (Sub.nil _) (dep_get rfl e12))
                exact hs_val ha rfl rfl (ld_3 rfl ((q8.below hb q8.lt).at (j := 1) rfl)) rfl rfl
              | 14, _ =>
                intro val w1 a hb ha hd
                have ha := ha.sub (Sub.ins (d := 2) (Sub.nil _) rfl)
                exact hs_val ha rfl rfl (fa_54_1 rfl) rfl rfl
              | 15, _ =>
                intro val w1 a hb ha hd
                have e14 : val 14 = .pointer (some ⟨g1, 2, none⟩) := hd 14 (memB_mem.1 rfl)
                have ha := ha.sub (Sub.ins (d := 151) (Sub.nil _) (dep_get rfl e14))
                exact hs_val ha rfl rfl (ld_52 rfl ((q1.below hb q1.lt).at (j := 2) rfl)) rfl rfl
              | 16, _ =>
                intro val w1 a hb ha hd
                have ha := ha.sub (Sub.ins (d := 6) (Sub.nil _) rfl)
                exact hs_val ha rfl rfl (x_move rfl) rfl rfl
              | 17, _ =>
                intro val w1 a hb ha hd
                have e15 : val 15 = .slice (some ⟨bS, oS, none⟩) sides.length d := hd 15 (memB_mem.1 rfl)
                have e16 : val 16 = .int .i64 (k : Nat) := hd 16 (memB_mem.1 rfl)
                have ha := ha.sub (Sub.ins (d := 153) (Sub.ins (d := 152) (Sub.nil _) (dep_get rfl e15)) (dep_get rfl e16))
                exact hs_val ha rfl rfl (ix_52 rfl rfl hk) rfl rfl
              | 18, _ =>
                intro val w1 a hb ha hd
                have e17 : val 17 = .pointer (some ⟨bS, oS + k, none⟩) := hd 17 (memB_mem.1 rfl)
                have ha := ha.sub (Sub.ins (d := 154) (Sub.nil _) (dep_get rfl e17))
                exact hs_val ha rfl rfl (ld_28 rfl (below_load (Below.on hbw hb hbw.size) hck)) rfl rfl
              | 19, _ =>
                intro val w1 a hb ha hd
                have ha := ha.sub (Sub.ins (d := 16) (Sub.nil _) rfl)
                exact hs_val ha rfl rfl (x_move rfl) rfl rfl
              | 20, _ =>
                intro val w1 a hb ha hd
                have e18 : val 18 = .slice (some ⟨bR, oR, none⟩) (sides.getD 0 []).length cak := hd 18 (memB_mem.1 rfl)
                have e19 : val 19 = .int .i64 ((p + x : Nat) : Int) := hd 19 (memB_mem.1 rfl)
                have ha := ha.sub (Sub.ins (d := 156) (Sub.ins (d := 155) (Sub.nil _) (dep_get rfl e18)) (dep_get rfl e19))
                exact hs_val ha rfl rfl (ix_28 rfl rfl (by omega)) rfl rfl
              | 21, _ =>
                intro val w1 a hb ha hd
                have e20 : val 20 = .pointer (some ⟨bR, oR + (p + x) * 2, none⟩) := hd 20 (memB_mem.1 rfl)
                have ha := ha.sub (Sub.ins (d := 157) (Sub.nil _) (dep_get rfl e20))
                exact hs_val ha rfl rfl (fa_23_1 rfl) rfl rfl
              | 22, _ =>
                intro val w1 a hb ha hd
                have e21 : val 21 = .pointer (some ⟨bR, oR + (p + x) * 2 + 1, none⟩) := hd 21 (memB_mem.1 rfl)
                have ha := ha.sub (Sub.ins (d := 158) (Sub.nil _) (dep_get rfl e21))
                exact hs_val ha rfl rfl (ld_3 rfl (below_load (Below.on hbw hb hbw.size) d1)) rfl rfl
              | 23, _ =>
                intro val w1 a hb ha hd
                have e13 : val 13 = .int .i64 (sumN (sideOf sides k) (p : Nat) x).hi := hd 13 (memB_mem.1 rfl)
                have e22 : val 22 = .int .i64 y.hi := hd 22 (memB_mem.1 rfl)
                have ha := ha.sub (Sub.ins (d := 159) (Sub.ins (d := 150) (Sub.nil _) (dep_get rfl e13)) (dep_get rfl e22))
                exact hs_val ha rfl rfl (x_add rfl rfl whi) rfl rfl
              | 24, _ =>
                intro val w1 a hb ha hd
                have e11 : val 11 = .int .i64 (sumN (sideOf sides k) (p : Nat) (x + 1)).lo := hd 11 (memB_mem.1 rfl)
                have e23 : val 23 = .int .i64 (sumN (sideOf sides k) (p : Nat) (x + 1)).hi := hd 23 (memB_mem.1 rfl)
                have ha := ha.sub (Sub.ins (d := 160) (Sub.ins (d := 148) (Sub.nil _) (dep_get rfl e11)) (dep_get rfl e23))
                exact hs_val ha rfl rfl (bd_23_0_1 rfl rfl) rfl rfl
              | k + 25, h => exact absurd h (by omega)
            · intro val wR15 hb halc hd
              have e0 : val 0 = .pointer (some ⟨g8, 0, none⟩) := hd 0 (by omega)
              have e1 : val 1 = .int .i64 (sumN (sideOf sides k) (p : Nat) x).lo := hd 1 (by omega)
              have e2 : val 2 = .pointer (some ⟨g1, 2, none⟩) := hd 2 (by omega)
              have e3 : val 3 = .slice (some ⟨bS, oS, none⟩) sides.length d := hd 3 (by omega)
              have e4 : val 4 = .int .i64 (k : Nat) := hd 4 (by omega)
              have e5 : val 5 = .pointer (some ⟨bS, oS + k, none⟩) := hd 5 (by omega)
              have e6 : val 6 = .slice (some ⟨bR, oR, none⟩) (sides.getD 0 []).length cak := hd 6 (by omega)
              have e7 : val 7 = .int .i64 ((p + x : Nat) : Int) := hd 7 (by omega)
              have e8 : val 8 = .pointer (some ⟨bR, oR + (p + x) * 2, none⟩) := hd 8 (by omega)
              have e9 : val 9 = .pointer (some ⟨bR, oR + (p + x) * 2, none⟩) := hd 9 (by omega)
              have e10 : val 10 = .int .i64 y.lo := hd 10 (by omega)
              have e11 : val 11 = .int .i64 (sumN (sideOf sides k) (p : Nat) (x + 1)).lo := hd 11 (by omega)
              have e12 : val 12 = .pointer (some ⟨g8, 1, none⟩) := hd 12 (by omega)
              have e13 : val 13 = .int .i64 (sumN (sideOf sides k) (p : Nat) x).hi := hd 13 (by omega)
              have e14 : val 14 = .pointer (some ⟨g1, 2, none⟩) := hd 14 (by omega)
              have e15 : val 15 = .slice (some ⟨bS, oS, none⟩) sides.length d := hd 15 (by omega)
              have e16 : val 16 = .int .i64 (k : Nat) := hd 16 (by omega)
              have e17 : val 17 = .pointer (some ⟨bS, oS + k, none⟩) := hd 17 (by omega)
              have e18 : val 18 = .slice (some ⟨bR, oR, none⟩) (sides.getD 0 []).length cak := hd 18 (by omega)
              have e19 : val 19 = .int .i64 ((p + x : Nat) : Int) := hd 19 (by omega)
              have e20 : val 20 = .pointer (some ⟨bR, oR + (p + x) * 2, none⟩) := hd 20 (by omega)
              have e21 : val 21 = .pointer (some ⟨bR, oR + (p + x) * 2 + 1, none⟩) := hd 21 (by omega)
              have e22 : val 22 = .int .i64 y.hi := hd 22 (by omega)
              have e23 : val 23 = .int .i64 (sumN (sideOf sides k) (p : Nat) (x + 1)).hi := hd 23 (by omega)
              have e24 : val 24 = .agg #[.int .i64 (sumN (sideOf sides k) (p : Nat) (x + 1)).lo, .int .i64 (sumN (sideOf sides k) (p : Nat) (x + 1)).hi] := hd 24 (by omega)
              refine EL.ends (cs := [.pointer (some ⟨g8, 0, none⟩), .int .i64 (sumN (sideOf sides k) (p : Nat) x).lo, .pointer (some ⟨g1, 2, none⟩), .slice (some ⟨bS, oS, none⟩) sides.length d, .int .i64 (k : Nat), .pointer (some ⟨bS, oS + k, none⟩), .slice (some ⟨bR, oR, none⟩) (sides.getD 0 []).length cak, .int .i64 ((p + x : Nat) : Int), .pointer (some ⟨bR, oR + (p + x) * 2, none⟩), .pointer (some ⟨bR, oR + (p + x) * 2, none⟩), .int .i64 y.lo, .int .i64 (sumN (sideOf sides k) (p : Nat) (x + 1)).lo, .pointer (some ⟨g8, 1, none⟩), .int .i64 (sumN (sideOf sides k) (p : Nat) x).hi, .pointer (some ⟨g1, 2, none⟩), .slice (some ⟨bS, oS, none⟩) sides.length d, .int .i64 (k : Nat), .pointer (some ⟨bS, oS + k, none⟩), .slice (some ⟨bR, oR, none⟩) (sides.getD 0 []).length cak, .int .i64 ((p + x : Nat) : Int), .pointer (some ⟨bR, oR + (p + x) * 2, none⟩), .pointer (some ⟨bR, oR + (p + x) * 2 + 1, none⟩), .int .i64 y.hi, .int .i64 (sumN (sideOf sides k) (p : Nat) (x + 1)).hi, .agg #[.int .i64 (sumN (sideOf sides k) (p : Nat) (x + 1)).lo, .int .i64 (sumN (sideOf sides k) (p : Nat) (x + 1)).hi]]) ⟨e0, e1, e2, e3, e4, e5, e6, e7, e8, e9, e10, e11, e12, e13, e14, e15, e16, e17, e18, e19, e20, e21, e22, e23, e24, trivial⟩ rfl ?_
              replace q1 := q1.below hb q1.lt
              replace qa13_7 := qa13_7.below hb qa13_7.lt
              replace q8 := q8.below hb q8.lt
              replace hbw := Below.on hbw hb hbw.size
              clear hb
              refine EL.store rfl rfl q8 sz_23 rfl rfl rfl rfl ?_
              intro w10 hq10 hg10
              replace q1 := q1.grown hg10 (fun h => n1_8 (Option.some.inj h))
              replace qa13_7 := qa13_7.grown hg10 (fun h => n6_8 (Option.some.inj h))
              replace hbw := below_store hbw hg10 bhbw_8
              replace q8 := hq10
              clear hg10 hq10
              refine EL.nil ?_
              refine EX.blk ?_
              refine EX.seq ?_
              refine EC.region ?_
              refine EL.val (x_move rfl) rfl ?_
              refine EL.val (x_add rfl rfl (by first | assumption | exact IntWalk.i64_in _ ⟨by omega, by omega⟩)) rfl ?_
              refine EL.val (x_assign rfl) rfl ?_
              refine EL.nil ?_
              refine EX.roundD (x + 1) ⟨rfl, trivial⟩ (by repeat first | exact Sub.refl _ | refine sub_past rfl ?_ | refine sub_del rfl ?_ | refine sub_insL_nil ?_) ⟨by omega, q1, qa13_7, q8, hbw⟩ (by omega)
          ·
            obtain rfl : x = q - p := by omega
            have hSd := side_bd hS hk (p := p) (n := q - p) (by omega)
            refine EC.seq ?_
            refine EC.seq ?_
            refine EC.region ?_
            refine EL.val (x_move rfl) rfl ?_
            refine EL.val (x_move rfl) rfl ?_
            refine EL.val (x_lss rfl rfl (by first | assumption | exact decide_eq_false (by omega))) rfl ?_
            refine EL.nil ?_
            refine EX.seq ?_
            refine EC.no rfl ?_
            refine EC.exit ?_
            refine EX.seq_exit ?_
            refine EX.seq_exit ?_
            refine EX.blk_here ?_
            refine EX.seq ?_
            refine EC.seq ?_
            refine EC.seq ?_
            refine EC.region ?_
            refine EL.val (x_move rfl) rfl ?_
            by_cases hk0 : k = 0
            ·
              subst hk0
              have hz := vol_zero rv.reaches sides (a := (p : Nat)) (by omega) (q - p)
              refine EL.val (x_eql rfl rfl (by first | assumption | exact decide_eq_true (by omega))) rfl ?_
              refine EL.nil ?_
              refine EX.seq ?_
              refine EC.yes rfl ?_
              refine EC.seq ?_
              refine EC.region ?_
              refine EL.val (ld_23 rfl (qa13_7.at (j := 0) rfl) (qa13_7.at (j := 1) rfl)) rfl ?_
              refine EL.val (ld_23 rfl (q8.at (j := 0) rfl) (q8.at (j := 1) rfl)) rfl ?_
              refine EL.val (eql_23 (r := true) rfl rfl (by rw [hz]; simp)) rfl ?_
              refine EL.val (x_move rfl) rfl ?_
              refine EL.callg rfl rfl cl_16 rfl (known_any _) ?_
              rintro e w11 ⟨rfl, hc11⟩
              refine ⟨_, rfl, ?_⟩
              replace q1 := q1.below hc11 q1.lt
              replace qa13_7 := qa13_7.below hc11 qa13_7.lt
              replace q8 := q8.below hc11 q8.lt
              replace hbw := Below.on hbw hc11 hbw.size
              clear hc11
              refine EL.val (x_pick_t rfl rfl) rfl ?_
              refine EL.val (x_assign rfl) rfl ?_
              refine EL.nil ?_
              refine EX.seq ?_
              refine EC.ret ?_
              refine EX.seq_ret ?_
              exact EX.done (res1 rfl rfl) ⟨rfl, hbw⟩
            ·
              obtain ⟨j, rfl⟩ : ∃ j, k = j + 1 := ⟨k - 1, by omega⟩
              have hj : j < rv.reaches.length := by omega
              obtain ⟨b2, o2, rfl, _, cc⟩ := reaches_cells hr.reaches j hj
              have hdl := (hS.river.reach j hj).delay
              obtain ⟨dn, hdn⟩ : ∃ dn : Nat, (rv.reaches.getD j reach0).delay = dn := ⟨(rv.reaches.getD j reach0).delay.toNat, by omega⟩
              have hstep := vol_step rv.reaches sides j (a := (p : Nat)) (by omega) (q - p)
              have ccd := cc.c1
              rw [hdn] at hstep hdl ccd
              have hab := vol_bd hS (k := j) (by omega) (a := (p : Nat) - (dn : Nat)) (n := q - p) (by omega)
              have hl2 := congrArg Bd.lo hstep
              have hh2 := congrArg Bd.hi hstep
              simp only [Bd.add] at hl2 hh2
              have wj : IntKind.i64.wrap (((j + 1 : Nat) : Int) - 1) = ((j : Nat) : Int) := by rw [show ((j + 1 : Nat) : Int) - 1 = ((j : Nat) : Int) by omega]; exact IntWalk.i64_in _ ⟨by omega, by omega⟩
              refine EL.val (x_eql rfl rfl (by first | assumption | exact decide_eq_false (by omega))) rfl ?_
              refine EL.nil ?_
              refine EX.seq ?_
              refine EC.no rfl ?_
              refine EC.skip ?_
              refine EX.seq ?_
              refine EC.seq ?_
              refine EC.region ?_
              refine EL.val (fa_54_0 rfl) rfl ?_
              refine EL.val (fa_47_0 rfl) rfl ?_
              refine EL.val (ld_44 rfl (q1.at (j := 0) rfl)) rfl ?_
              refine EL.val (x_move rfl) rfl ?_
              refine EL.val (x_sub rfl rfl wj) rfl ?_
              refine EL.val (ix_44 rfl rfl hj) rfl ?_
              refine EL.val (fa_50_1 rfl) rfl ?_
              refine EL.val (ld_3 rfl (below_load hbw ccd)) rfl ?_
              refine EL.val (x_assign rfl) rfl ?_
              refine EL.nil ?_
              refine EX.seq ?_
              refine EC.seq ?_
              refine EC.seq ?_
              refine EC.region ?_
              refine EL.val (x_move rfl) rfl ?_
              refine EL.val (x_move rfl) rfl ?_
              by_cases hpd : p < dn
              ·
                refine EL.val (x_lss rfl rfl (by first | assumption | exact decide_eq_true (by omega))) rfl ?_
                refine EL.nil ?_
                refine EX.seq ?_
                refine EC.yes rfl ?_
                refine EC.seq ?_
                refine EC.region ?_
                refine EL.val (fa_23_0 rfl) rfl ?_
                refine EL.val (ld_3 rfl (qa13_7.at (j := 0) rfl)) rfl ?_
                refine EL.val (fa_23_0 rfl) rfl ?_
                refine EL.val (ld_3 rfl (q8.at (j := 0) rfl)) rfl ?_
                refine EL.val (x_geq rfl rfl (by first | assumption | exact decide_eq_true (by omega))) rfl ?_
                refine EL.val (x_move rfl) rfl ?_
                refine EL.valg rfl rfl (fa_23_1 rfl) rfl ?_
                refine EL.valg rfl rfl (ld_3 rfl (qa13_7.at (j := 1) rfl)) rfl ?_
                refine EL.valg rfl rfl (fa_23_1 rfl) rfl ?_
                refine EL.valg rfl rfl (ld_3 rfl (q8.at (j := 1) rfl)) rfl ?_
                refine EL.valg rfl rfl (x_geq rfl rfl (by first | assumption | exact decide_eq_true (by omega))) rfl ?_
                refine EL.val (x_pick_t rfl rfl) rfl ?_
                refine EL.val (x_move rfl) rfl ?_
                refine EL.callg rfl rfl cl_16 rfl (known_any _) ?_
                rintro e w12 ⟨rfl, hc12⟩
                refine ⟨_, rfl, ?_⟩
                replace q1 := q1.below hc12 q1.lt
                replace qa13_7 := qa13_7.below hc12 qa13_7.lt
                replace q8 := q8.below hc12 q8.lt
                replace hbw := Below.on hbw hc12 hbw.size
                clear hc12
                refine EL.val (x_pick_t rfl rfl) rfl ?_
                refine EL.val (x_assign rfl) rfl ?_
                refine EL.nil ?_
                refine EX.seq ?_
                refine EC.ret ?_
                refine EX.seq_ret ?_
                exact EX.done (res1 rfl rfl) ⟨rfl, hbw⟩
              ·
                have wp : IntKind.i64.wrap (((p : Nat) : Int) - ((dn : Nat) : Int)) = ((p - dn : Nat) : Int) := by rw [show ((p : Nat) : Int) - ((dn : Nat) : Int) = ((p - dn : Nat) : Int) by omega]; exact IntWalk.i64_in _ ⟨by omega, by omega⟩
                have wq2 : IntKind.i64.wrap (((q : Nat) : Int) - ((dn : Nat) : Int)) = ((q - dn : Nat) : Int) := by rw [show ((q : Nat) : Int) - ((dn : Nat) : Int) = ((q - dn : Nat) : Int) by omega]; exact IntWalk.i64_in _ ⟨by omega, by omega⟩
                have eab : volOf rv.reaches sides j ((p - dn : Nat) : Int) (q - dn - (p - dn)) = volOf rv.reaches sides j ((p : Nat) - (dn : Nat)) (q - p) := by rw [show ((p - dn : Nat) : Int) = ((p : Nat) : Int) - (dn : Nat) by omega, show q - dn - (p - dn) = q - p by omega]
                rw [← eab] at hstep hab hl2 hh2
                refine EL.val (x_lss rfl rfl (by first | assumption | exact decide_eq_false (by omega))) rfl ?_
                refine EL.nil ?_
                refine EX.seq ?_
                refine EC.no rfl ?_
                refine EC.skip ?_
                refine EX.seq ?_
                refine EC.seq ?_
                have lt_1 := q1.lt
                have lt_6 := qa13_7.lt
                have lt_8 := q8.lt
                refine EC.regionS [[], [0], [0, 1], [], [3], [0, 1, 2, 3, 4], [], [6], [], [], [8, 9], [], [], [11, 12], [0, 1, 2, 3, 4, 5, 6, 7, 8, 9, 10, 11, 12, 13], [0, 1, 2, 3, 4, 5, 6, 7, 8, 9, 10, 11, 12, 13, 14], [0, 1, 2, 3, 4, 5, 6, 7, 8, 9, 10, 11, 12, 13, 14, 15], [0, 1, 2, 3, 4, 5, 6, 7, 8, 9, 10, 11, 12, 13, 14, 15], [], [0, 1, 2, 3, 4, 5, 6, 7, 8, 9, 10, 11, 12, 13, 14, 15, 16, 18], [0, 1, 2, 3, 4, 5, 6, 7, 8, 9, 10, 11, 12, 13, 14, 15, 16, 17, 18, 19]] 20 [18] [19] (fun _ w_ => Below wr.heap.size wr w_) (phiS (fun i_ r => match i_ with | 0 => r 0 = .pointer (some ⟨g1, 0, none⟩) | 1 => r 1 = .agg #[.slice (some ⟨b2, o2, none⟩) rv.reaches.length c, .slice A' rv.shoals.length c'] | 3 => r 3 = .pointer (some ⟨g1, 2, none⟩) | 4 => r 4 = .slice (some ⟨bS, oS, none⟩) sides.length d | 6 => r 6 = .int .i64 ((j + 1 : Nat) : Int) | 7 => r 7 = .int .i64 (j : Nat) | 8 => r 8 = .int .i64 (p : Nat) | 9 => r 9 = .int .i64 (dn : Nat) | 10 => r 10 = .int .i64 ((p - dn : Nat) : Int) | 11 => r 11 = .int .i64 (q : Nat) | 12 => r 12 = .int .i64 (dn : Nat) | 13 => r 13 = .int .i64 ((q - dn : Nat) : Int) | 14 => r 14 = .tuple #[.agg #[.int .i64 (volOf rv.reaches sides j ((p - dn : Nat) : Int) (q - dn - (p - dn))).lo, .int .i64 (volOf rv.reaches sides j ((p - dn : Nat) : Int) (q - dn - (p - dn))).hi], .int .i64 0] | 15 => r 15 = .tuple #[.agg #[.int .i64 (volOf rv.reaches sides j ((p - dn : Nat) : Int) (q - dn - (p - dn))).lo, .int .i64 (volOf rv.reaches sides j ((p - dn : Nat) : Int) (q - dn - (p - dn))).hi], .int .i64 0] | 16 => r 16 = .agg #[.int .i64 (volOf rv.reaches sides j ((p - dn : Nat) : Int) (q - dn - (p - dn))).lo, .int .i64 (volOf rv.reaches sides j ((p - dn : Nat) : Int) (q - dn - (p - dn))).hi] | 17 => r 17 = .int .i64 0 | _ => True) [(2, fun fl r w_ => fl 19 = false → (∃ a b vs, r 2 = .agg #[a, b] ∧ RdRiver w_ w_.heap.size a b rv vs)), (5, fun fl r w_ => fl 19 = false → (∃ v ss, r 5 = v ∧ RdSides w_ w_.heap.size v sides ss)), (18, fun fl r w_ => ∃ g_, r 18 = .pointer (some ⟨g_, 0, none⟩) ∧ wr.heap.size ≤ g_ ∧ (fl 19 = false → Blk w_ g_ 23 #[.int .i64 0, .int .i64 0])), (19, fun _ r w_ => ∃ g_, r 18 = .pointer (some ⟨g_, 0, none⟩) ∧ Blk w_ g_ 23 #[.int .i64 (volOf rv.reaches sides j ((p - dn : Nat) : Int) (q - dn - (p - dn))).lo, .int .i64 (volOf rv.reaches sides j ((p - dn : Nat) : Int) (q - dn - (p - dn))).hi])]) (by kernel_rfl) rfl rfl (by intro i hi; simp at hi; first | (subst hi; exact ⟨by simp, by omega⟩) | (rcases hi with rfl | rfl | rfl <;> exact ⟨by simp, by omega⟩) | (rcases hi with rfl | rfl <;> exact ⟨by simp, by omega⟩)) (base_below wr) (phiS_cons (monoS_till mono_riv) (phiS_cons (monoS_till mono_sid) (phiS_cons monoS_alloc (phiS_cons monoS_store (phiS_nil))))) (fun i_ hi_ hs_ => ?_) (fun i_ hi_ => ?_) ?_
                · match i_, hi_ with
                  | 0, _ =>
                    intro val fl w1 a hb ha hd hfl
                    have ha := ha.sub (Sub.ins (d := 2) (Sub.nil _) rfl)
                    exact ss_val ha rfl rfl (fa_54_0 rfl) rfl rfl
                  | 1, _ =>
                    intro val fl w1 a hb ha hd hfl
                    have e0 : val 0 = .pointer (some ⟨g1, 0, none⟩) := hd 0 (memB_mem.1 rfl)
                    have ha := ha.sub (Sub.ins (d := 197) (Sub.nil _) (dep_get rfl e0))
                    exact ss_val ha rfl rfl (ld_47 rfl ((q1.below hb q1.lt).at (j := 0) rfl) ((q1.below hb q1.lt).at (j := 1) rfl)) rfl rfl
                  | 2, _ =>
                    intro val fl w1 a hb ha hd hfl
                    have e1 : val 1 = .agg #[.slice (some ⟨b2, o2, none⟩) rv.reaches.length c, .slice A' rv.shoals.length c'] := hd 1 (memB_mem.1 rfl)
                    have ha := ha.sub (Sub.ins (d := 198) (Sub.nil _) (dep_get rfl e1))
                    refine ss_call ha rfl rfl (cl_24 rfl) (copied_any rv _ _ vs _ B (hr.below ((Below.on hbw hb hbw.size).mono hB)) (Nat.le_trans hB (Below.on hbw hb hbw.size).size) (by omega) (by omega) f3) rfl ?_
                    rintro e w' ⟨⟨v1, u1, vs1, rfl, hcp⟩, hb'⟩
                    exact ⟨_, rfl, hb', fun _ => ⟨_, _, _, rfl, hcp⟩⟩
                  | 3, _ =>
                    intro val fl w1 a hb ha hd hfl
                    have ha := ha.sub (Sub.ins (d := 2) (Sub.nil _) rfl)
                    exact ss_val ha rfl rfl (fa_54_1 rfl) rfl rfl
                  | 4, _ =>
                    intro val fl w1 a hb ha hd hfl
                    have e3 : val 3 = .pointer (some ⟨g1, 2, none⟩) := hd 3 (memB_mem.1 rfl)
                    have ha := ha.sub (Sub.ins (d := 200) (Sub.nil _) (dep_get rfl e3))
                    exact ss_val ha rfl rfl (ld_52 rfl ((q1.below hb q1.lt).at (j := 2) rfl)) rfl rfl
                  | 5, _ =>
                    intro val fl w1 a hb ha hd hfl
                    have e4 : val 4 = .slice (some ⟨bS, oS, none⟩) sides.length d := hd 4 (memB_mem.1 rfl)
                    have ha := ha.sub (Sub.ins (d := 201) (Sub.nil _) (dep_get rfl e4))
                    refine ss_call ha rfl rfl (cl_34 rfl) (forecast_any sides _ ss _ B (hs.below ((Below.on hbw hb hbw.size).mono hB)) (Nat.le_trans hB (Below.on hbw hb hbw.size).size) (by omega) f4) rfl ?_
                    rintro e w' ⟨⟨v1, ss1, rfl, hcp⟩, hb'⟩
                    exact ⟨_, rfl, hb', fun _ => ⟨_, _, rfl, hcp⟩⟩
                  | 6, _ =>
                    intro val fl w1 a hb ha hd hfl
                    have ha := ha.sub (Sub.ins (d := 6) (Sub.nil _) rfl)
                    exact ss_val ha rfl rfl (x_move rfl) rfl rfl
                  | 7, _ =>
                    intro val fl w1 a hb ha hd hfl
                    have e6 : val 6 = .int .i64 ((j + 1 : Nat) : Int) := hd 6 (memB_mem.1 rfl)
                    have ha := ha.sub (Sub.ins (d := 203) (Sub.nil _) (dep_get rfl e6))
                    exact ss_val ha rfl rfl (x_sub rfl rfl wj) rfl rfl
                  | 8, _ =>
                    intro val fl w1 a hb ha hd hfl
                    have ha := ha.sub (Sub.ins (d := 7) (Sub.nil _) rfl)
                    exact ss_val ha rfl rfl (x_move rfl) rfl rfl
                  | 9, _ =>
                    intro val fl w1 a hb ha hd hfl
                    have ha := ha.sub (Sub.ins (d := 17) (Sub.nil _) rfl)
                    exact ss_val ha rfl rfl (x_move rfl) rfl rfl
                  | 10, _ =>
                    intro val fl w1 a hb ha hd hfl
                    have e8 : val 8 = .int .i64 (p : Nat) := hd 8 (memB_mem.1 rfl)
                    have e9 : val 9 = .int .i64 (dn : Nat) := hd 9 (memB_mem.1 rfl)
                    have ha := ha.sub (Sub.ins (d := 206) (Sub.ins (d := 205) (Sub.nil _) (dep_get rfl e8)) (dep_get rfl e9))
                    exact ss_val ha rfl rfl (x_sub rfl rfl wp) rfl rfl
                  | 11, _ =>
                    intro val fl w1 a hb ha hd hfl
                    have ha := ha.sub (Sub.ins (d := 8) (Sub.nil _) rfl)
                    exact ss_val ha rfl rfl (x_move rfl) rfl rfl
                  | 12, _ =>
                    intro val fl w1 a hb ha hd hfl
                    have ha := ha.sub (Sub.ins (d := 17) (Sub.nil _) rfl)
                    exact ss_val ha rfl rfl (x_move rfl) rfl rfl
                  | 13, _ =>
                    intro val fl w1 a hb ha hd hfl
                    have e11 : val 11 = .int .i64 (q : Nat) := hd 11 (memB_mem.1 rfl)
                    have e12 : val 12 = .int .i64 (dn : Nat) := hd 12 (memB_mem.1 rfl)
                    have ha := ha.sub (Sub.ins (d := 209) (Sub.ins (d := 208) (Sub.nil _) (dep_get rfl e11)) (dep_get rfl e12))
                    exact ss_val ha rfl rfl (x_sub rfl rfl wq2) rfl rfl
                  | 14, _ =>
                    intro val fl w1 a hb ha hd hfl
                    obtain ⟨a2_, b2_, vs2_, e2, q2_⟩ := hd 2 (memB_mem.1 rfl) (hfl 19 (by simp) (memB_mem.1 rfl))
                    obtain ⟨v5_, ss5_, e5, q5_⟩ := hd 5 (memB_mem.1 rfl) (hfl 19 (by simp) (memB_mem.1 rfl))
                    have e7 : val 7 = .int .i64 (j : Nat) := hd 7 (memB_mem.1 rfl)
                    have e10 : val 10 = .int .i64 ((p - dn : Nat) : Int) := hd 10 (memB_mem.1 rfl)
                    have e13 : val 13 = .int .i64 ((q - dn : Nat) : Int) := hd 13 (memB_mem.1 rfl)
                    have ha := ha.sub (Sub.ins (d := 210) (Sub.ins (d := 207) (Sub.ins (d := 204) (Sub.ins (d := 202) (Sub.ins (d := 199) (Sub.nil _) (dep_get rfl e2)) (dep_get rfl e5)) (dep_get rfl e7)) (dep_get rfl e10)) (dep_get rfl e13))
                    refine ss_call ha rfl rfl (cl_46 rfl rfl rfl rfl rfl) (vol_good rv sides _ _ _ _ _ j (p - dn) (q - dn) _ w1.heap.size q2_ q5_ (Nat.le_refl _) hfine hst (by omega) (by omega) (by omega)) rfl ?_
                    rintro e w' ⟨rfl, hb'⟩
                    exact ⟨_, rfl, hb', rfl⟩
                  | 15, _ =>
                    intro val fl w1 a hb ha hd hfl
                    have e14 : val 14 = .tuple #[.agg #[.int .i64 (volOf rv.reaches sides j ((p - dn : Nat) : Int) (q - dn - (p - dn))).lo, .int .i64 (volOf rv.reaches sides j ((p - dn : Nat) : Int) (q - dn - (p - dn))).hi], .int .i64 0] := hd 14 (memB_mem.1 rfl)
                    have ha := ha.sub (Sub.ins (d := 211) (Sub.nil _) (dep_get rfl e14))
                    exact ss_val ha rfl rfl (x_move rfl) rfl rfl
                  | 16, _ =>
                    intro val fl w1 a hb ha hd hfl
                    have e15 : val 15 = .tuple #[.agg #[.int .i64 (volOf rv.reaches sides j ((p - dn : Nat) : Int) (q - dn - (p - dn))).lo, .int .i64 (volOf rv.reaches sides j ((p - dn : Nat) : Int) (q - dn - (p - dn))).hi], .int .i64 0] := hd 15 (memB_mem.1 rfl)
                    have ha := ha.sub (Sub.ins (d := 196) (Sub.nil _) (dep_get rfl e15))
                    exact ss_val ha rfl rfl (x_extract rfl rfl) rfl rfl
                  | 17, _ =>
                    intro val fl w1 a hb ha hd hfl
                    have e15 : val 15 = .tuple #[.agg #[.int .i64 (volOf rv.reaches sides j ((p - dn : Nat) : Int) (q - dn - (p - dn))).lo, .int .i64 (volOf rv.reaches sides j ((p - dn : Nat) : Int) (q - dn - (p - dn))).hi], .int .i64 0] := hd 15 (memB_mem.1 rfl)
                    have ha := ha.sub (Sub.ins (d := 196) (Sub.nil _) (dep_get rfl e15))
                    exact ss_val ha rfl rfl (x_extract rfl rfl) rfl rfl
                  | 18, _ =>
                    intro val fl w1 a hb ha hd hfl
                    have ha := ha.sub (Sub.nil _)
                    exact ss_newP ha rfl rfl al_23 (fun g w' hq _ hge => ⟨g, rfl, Nat.le_trans hb.size hge, fun _ => hq⟩)
                  | 19, _ =>
                    exact absurd (by simp) hs_
                  | k + 20, h => exact absurd h (by omega)
                · simp only [List.mem_singleton] at hi_; subst hi_
                  intro val fl w1 a hb hfi ha hd hfl
                  obtain ⟨g18_, e18, hg18_, q18_⟩ := hd 18 (memB_mem.1 rfl)
                  change val 18 = _ at e18
                  have e16 : val 16 = .agg #[.int .i64 (volOf rv.reaches sides j ((p - dn : Nat) : Int) (q - dn - (p - dn))).lo, .int .i64 (volOf rv.reaches sides j ((p - dn : Nat) : Int) (q - dn - (p - dn))).hi] := hd 16 (memB_mem.1 rfl)
                  have ha := ha.sub (Sub.ins (d := 212) (Sub.ins (d := 18) (Sub.nil _) (dep_get rfl e18)) (dep_get rfl e16))
                  refine ts_store ha rfl rfl rfl (q18_ hfi) sz_23 rfl rfl rfl rfl ?_
                  intro w' hq hgr
                  refine ⟨undef, rfl, hgr.size, below_store hb hgr hg18_, ⟨g18_, e18, hq⟩, fun j _ hj hn hA => ?_⟩
                  exact phiS_cons_st (C := fun j => j ≠ 19 ∧ 19 ∉ clsAt [[], [0], [0, 1], [], [3], [0, 1, 2, 3, 4], [], [6], [], [], [8, 9], [], [], [11, 12], [0, 1, 2, 3, 4, 5, 6, 7, 8, 9, 10, 11, 12, 13], [0, 1, 2, 3, 4, 5, 6, 7, 8, 9, 10, 11, 12, 13, 14], [0, 1, 2, 3, 4, 5, 6, 7, 8, 9, 10, 11, 12, 13, 14, 15], [0, 1, 2, 3, 4, 5, 6, 7, 8, 9, 10, 11, 12, 13, 14, 15], [], [0, 1, 2, 3, 4, 5, 6, 7, 8, 9, 10, 11, 12, 13, 14, 15, 16, 18], [0, 1, 2, 3, 4, 5, 6, 7, 8, 9, 10, 11, 12, 13, 14, 15, 16, 17, 18, 19]] j ∧ ∀ p ∈ [18], (p = j ∨ p ∈ clsAt [[], [0], [0, 1], [], [3], [0, 1, 2, 3, 4], [], [6], [], [], [8, 9], [], [], [11, 12], [0, 1, 2, 3, 4, 5, 6, 7, 8, 9, 10, 11, 12, 13], [0, 1, 2, 3, 4, 5, 6, 7, 8, 9, 10, 11, 12, 13, 14], [0, 1, 2, 3, 4, 5, 6, 7, 8, 9, 10, 11, 12, 13, 14, 15], [0, 1, 2, 3, 4, 5, 6, 7, 8, 9, 10, 11, 12, 13, 14, 15], [], [0, 1, 2, 3, 4, 5, 6, 7, 8, 9, 10, 11, 12, 13, 14, 15, 16, 18], [0, 1, 2, 3, 4, 5, 6, 7, 8, 9, 10, 11, 12, 13, 14, 15, 16, 17, 18, 19]] j) → ∀ q ∈ [18], (q = 19 ∨ q ∈ clsAt [[], [0], [0, 1], [], [3], [0, 1, 2, 3, 4], [], [6], [], [], [8, 9], [], [], [11, 12], [0, 1, 2, 3, 4, 5, 6, 7, 8, 9, 10, 11, 12, 13], [0, 1, 2, 3, 4, 5, 6, 7, 8, 9, 10, 11, 12, 13, 14], [0, 1, 2, 3, 4, 5, 6, 7, 8, 9, 10, 11, 12, 13, 14, 15], [0, 1, 2, 3, 4, 5, 6, 7, 8, 9, 10, 11, 12, 13, 14, 15], [], [0, 1, 2, 3, 4, 5, 6, 7, 8, 9, 10, 11, 12, 13, 14, 15, 16, 18], [0, 1, 2, 3, 4, 5, 6, 7, 8, 9, 10, 11, 12, 13, 14, 15, 16, 17, 18, 19]] 19) → p ≠ q → val p ≠ val q) (fun _ _ h => by rw [fset_eq] at h; cases h) (phiS_cons_st (C := fun j => j ≠ 19 ∧ 19 ∉ clsAt [[], [0], [0, 1], [], [3], [0, 1, 2, 3, 4], [], [6], [], [], [8, 9], [], [], [11, 12], [0, 1, 2, 3, 4, 5, 6, 7, 8, 9, 10, 11, 12, 13], [0, 1, 2, 3, 4, 5, 6, 7, 8, 9, 10, 11, 12, 13, 14], [0, 1, 2, 3, 4, 5, 6, 7, 8, 9, 10, 11, 12, 13, 14, 15], [0, 1, 2, 3, 4, 5, 6, 7, 8, 9, 10, 11, 12, 13, 14, 15], [], [0, 1, 2, 3, 4, 5, 6, 7, 8, 9, 10, 11, 12, 13, 14, 15, 16, 18], [0, 1, 2, 3, 4, 5, 6, 7, 8, 9, 10, 11, 12, 13, 14, 15, 16, 17, 18, 19]] j ∧ ∀ p ∈ [18], (p = j ∨ p ∈ clsAt [[], [0], [0, 1], [], [3], [0, 1, 2, 3, 4], [], [6], [], [], [8, 9], [], [], [11, 12], [0, 1, 2, 3, 4, 5, 6, 7, 8, 9, 10, 11, 12, 13], [0, 1, 2, 3, 4, 5, 6, 7, 8, 9, 10, 11, 12, 13, 14], [0, 1, 2, 3, 4, 5, 6, 7, 8, 9, 10, 11, 12, 13, 14, 15], [0, 1, 2, 3, 4, 5, 6, 7, 8, 9, 10, 11, 12, 13, 14, 15], [], [0, 1, 2, 3, 4, 5, 6, 7, 8, 9, 10, 11, 12, 13, 14, 15, 16, 18], [0, 1, 2, 3, 4, 5, 6, 7, 8, 9, 10, 11, 12, 13, 14, 15, 16, 17, 18, 19]] j) → ∀ q ∈ [18], (q = 19 ∨ q ∈ clsAt [[], [0], [0, 1], [], [3], [0, 1, 2, 3, 4], [], [6], [], [], [8, 9], [], [], [11, 12], [0, 1, 2, 3, 4, 5, 6, 7, 8, 9, 10, 11, 12, 13], [0, 1, 2, 3, 4, 5, 6, 7, 8, 9, 10, 11, 12, 13, 14], [0, 1, 2, 3, 4, 5, 6, 7, 8, 9, 10, 11, 12, 13, 14, 15], [0, 1, 2, 3, 4, 5, 6, 7, 8, 9, 10, 11, 12, 13, 14, 15], [], [0, 1, 2, 3, 4, 5, 6, 7, 8, 9, 10, 11, 12, 13, 14, 15, 16, 18], [0, 1, 2, 3, 4, 5, 6, 7, 8, 9, 10, 11, 12, 13, 14, 15, 16, 17, 18, 19]] 19) → p ≠ q → val p ≠ val q) (fun _ _ h => by rw [fset_eq] at h; cases h) (phiS_cons_st (C := fun j => j ≠ 19 ∧ 19 ∉ clsAt [[], [0], [0, 1], [], [3], [0, 1, 2, 3, 4], [], [6], [], [], [8, 9], [], [], [11, 12], [0, 1, 2, 3, 4, 5, 6, 7, 8, 9, 10, 11, 12, 13], [0, 1, 2, 3, 4, 5, 6, 7, 8, 9, 10, 11, 12, 13, 14], [0, 1, 2, 3, 4, 5, 6, 7, 8, 9, 10, 11, 12, 13, 14, 15], [0, 1, 2, 3, 4, 5, 6, 7, 8, 9, 10, 11, 12, 13, 14, 15], [], [0, 1, 2, 3, 4, 5, 6, 7, 8, 9, 10, 11, 12, 13, 14, 15, 16, 18], [0, 1, 2, 3, 4, 5, 6, 7, 8, 9, 10, 11, 12, 13, 14, 15, 16, 17, 18, 19]] j ∧ ∀ p ∈ [18], (p = j ∨ p ∈ clsAt [[], [0], [0, 1], [], [3], [0, 1, 2, 3, 4], [], [6], [], [], [8, 9], [], [], [11, 12], [0, 1, 2, 3, 4, 5, 6, 7, 8, 9, 10, 11, 12, 13], [0, 1, 2, 3, 4, 5, 6, 7, 8, 9, 10, 11, 12, 13, 14], [0, 1, 2, 3, 4, 5, 6, 7, 8, 9, 10, 11, 12, 13, 14, 15], [0, 1, 2, 3, 4, 5, 6, 7, 8, 9, 10, 11, 12, 13, 14, 15], [], [0, 1, 2, 3, 4, 5, 6, 7, 8, 9, 10, 11, 12, 13, 14, 15, 16, 18], [0, 1, 2, 3, 4, 5, 6, 7, 8, 9, 10, 11, 12, 13, 14, 15, 16, 17, 18, 19]] j) → ∀ q ∈ [18], (q = 19 ∨ q ∈ clsAt [[], [0], [0, 1], [], [3], [0, 1, 2, 3, 4], [], [6], [], [], [8, 9], [], [], [11, 12], [0, 1, 2, 3, 4, 5, 6, 7, 8, 9, 10, 11, 12, 13], [0, 1, 2, 3, 4, 5, 6, 7, 8, 9, 10, 11, 12, 13, 14], [0, 1, 2, 3, 4, 5, 6, 7, 8, 9, 10, 11, 12, 13, 14, 15], [0, 1, 2, 3, 4, 5, 6, 7, 8, 9, 10, 11, 12, 13, 14, 15], [], [0, 1, 2, 3, 4, 5, 6, 7, 8, 9, 10, 11, 12, 13, 14, 15, 16, 18], [0, 1, 2, 3, 4, 5, 6, 7, 8, 9, 10, 11, 12, 13, 14, 15, 16, 17, 18, 19]] 19) → p ≠ q → val p ≠ val q) (fun _ ⟨g, h1, h2, _⟩ => ⟨g, h1, h2, fun h => by rw [fset_eq] at h; cases h⟩) (phiS_cons_st (C := fun j => j ≠ 19 ∧ 19 ∉ clsAt [[], [0], [0, 1], [], [3], [0, 1, 2, 3, 4], [], [6], [], [], [8, 9], [], [], [11, 12], [0, 1, 2, 3, 4, 5, 6, 7, 8, 9, 10, 11, 12, 13], [0, 1, 2, 3, 4, 5, 6, 7, 8, 9, 10, 11, 12, 13, 14], [0, 1, 2, 3, 4, 5, 6, 7, 8, 9, 10, 11, 12, 13, 14, 15], [0, 1, 2, 3, 4, 5, 6, 7, 8, 9, 10, 11, 12, 13, 14, 15], [], [0, 1, 2, 3, 4, 5, 6, 7, 8, 9, 10, 11, 12, 13, 14, 15, 16, 18], [0, 1, 2, 3, 4, 5, 6, 7, 8, 9, 10, 11, 12, 13, 14, 15, 16, 17, 18, 19]] j ∧ ∀ p ∈ [18], (p = j ∨ p ∈ clsAt [[], [0], [0, 1], [], [3], [0, 1, 2, 3, 4], [], [6], [], [], [8, 9], [], [], [11, 12], [0, 1, 2, 3, 4, 5, 6, 7, 8, 9, 10, 11, 12, 13], [0, 1, 2, 3, 4, 5, 6, 7, 8, 9, 10, 11, 12, 13, 14], [0, 1, 2, 3, 4, 5, 6, 7, 8, 9, 10, 11, 12, 13, 14, 15], [0, 1, 2, 3, 4, 5, 6, 7, 8, 9, 10, 11, 12, 13, 14, 15], [], [0, 1, 2, 3, 4, 5, 6, 7, 8, 9, 10, 11, 12, 13, 14, 15, 16, 18], [0, 1, 2, 3, 4, 5, 6, 7, 8, 9, 10, 11, 12, 13, 14, 15, 16, 17, 18, 19]] j) → ∀ q ∈ [18], (q = 19 ∨ q ∈ clsAt [[], [0], [0, 1], [], [3], [0, 1, 2, 3, 4], [], [6], [], [], [8, 9], [], [], [11, 12], [0, 1, 2, 3, 4, 5, 6, 7, 8, 9, 10, 11, 12, 13], [0, 1, 2, 3, 4, 5, 6, 7, 8, 9, 10, 11, 12, 13, 14], [0, 1, 2, 3, 4, 5, 6, 7, 8, 9, 10, 11, 12, 13, 14, 15], [0, 1, 2, 3, 4, 5, 6, 7, 8, 9, 10, 11, 12, 13, 14, 15], [], [0, 1, 2, 3, 4, 5, 6, 7, 8, 9, 10, 11, 12, 13, 14, 15, 16, 18], [0, 1, 2, 3, 4, 5, 6, 7, 8, 9, 10, 11, 12, 13, 14, 15, 16, 17, 18, 19]] 19) → p ≠ q → val p ≠ val q) (fun hc => absurd rfl hc.1) (fun _ _ h => h)))) j ⟨hj, hn, hA⟩
                · intro val fl wR21 hfl hb halc hd
                  have e0 : val 0 = .pointer (some ⟨g1, 0, none⟩) := hd 0 (by omega)
                  have e1 : val 1 = .agg #[.slice (some ⟨b2, o2, none⟩) rv.reaches.length c, .slice A' rv.shoals.length c'] := hd 1 (by omega)
                  have e3 : val 3 = .pointer (some ⟨g1, 2, none⟩) := hd 3 (by omega)
                  have e4 : val 4 = .slice (some ⟨bS, oS, none⟩) sides.length d := hd 4 (by omega)
                  have e6 : val 6 = .int .i64 ((j + 1 : Nat) : Int) := hd 6 (by omega)
                  have e7 : val 7 = .int .i64 (j : Nat) := hd 7 (by omega)
                  have e8 : val 8 = .int .i64 (p : Nat) := hd 8 (by omega)
                  have e9 : val 9 = .int .i64 (dn : Nat) := hd 9 (by omega)
                  have e10 : val 10 = .int .i64 ((p - dn : Nat) : Int) := hd 10 (by omega)
                  have e11 : val 11 = .int .i64 (q : Nat) := hd 11 (by omega)
                  have e12 : val 12 = .int .i64 (dn : Nat) := hd 12 (by omega)
                  have e13 : val 13 = .int .i64 ((q - dn : Nat) : Int) := hd 13 (by omega)
                  have e14 : val 14 = .tuple #[.agg #[.int .i64 (volOf rv.reaches sides j ((p - dn : Nat) : Int) (q - dn - (p - dn))).lo, .int .i64 (volOf rv.reaches sides j ((p - dn : Nat) : Int) (q - dn - (p - dn))).hi], .int .i64 0] := hd 14 (by omega)
                  have e15 : val 15 = .tuple #[.agg #[.int .i64 (volOf rv.reaches sides j ((p - dn : Nat) : Int) (q - dn - (p - dn))).lo, .int .i64 (volOf rv.reaches sides j ((p - dn : Nat) : Int) (q - dn - (p - dn))).hi], .int .i64 0] := hd 15 (by omega)
                  have e16 : val 16 = .agg #[.int .i64 (volOf rv.reaches sides j ((p - dn : Nat) : Int) (q - dn - (p - dn))).lo, .int .i64 (volOf rv.reaches sides j ((p - dn : Nat) : Int) (q - dn - (p - dn))).hi] := hd 16 (by omega)
                  have e17 : val 17 = .int .i64 0 := hd 17 (by omega)
                  obtain ⟨ga18_21, e18, qa18_21⟩ := hd 19 (by omega)
                  change val 18 = _ at e18
                  refine EL.ends (cs := [.pointer (some ⟨g1, 0, none⟩), .agg #[.slice (some ⟨b2, o2, none⟩) rv.reaches.length c, .slice A' rv.shoals.length c'], val 2, .pointer (some ⟨g1, 2, none⟩), .slice (some ⟨bS, oS, none⟩) sides.length d, val 5, .int .i64 ((j + 1 : Nat) : Int), .int .i64 (j : Nat), .int .i64 (p : Nat), .int .i64 (dn : Nat), .int .i64 ((p - dn : Nat) : Int), .int .i64 (q : Nat), .int .i64 (dn : Nat), .int .i64 ((q - dn : Nat) : Int), .tuple #[.agg #[.int .i64 (volOf rv.reaches sides j ((p - dn : Nat) : Int) (q - dn - (p - dn))).lo, .int .i64 (volOf rv.reaches sides j ((p - dn : Nat) : Int) (q - dn - (p - dn))).hi], .int .i64 0], .tuple #[.agg #[.int .i64 (volOf rv.reaches sides j ((p - dn : Nat) : Int) (q - dn - (p - dn))).lo, .int .i64 (volOf rv.reaches sides j ((p - dn : Nat) : Int) (q - dn - (p - dn))).hi], .int .i64 0], .agg #[.int .i64 (volOf rv.reaches sides j ((p - dn : Nat) : Int) (q - dn - (p - dn))).lo, .int .i64 (volOf rv.reaches sides j ((p - dn : Nat) : Int) (q - dn - (p - dn))).hi], .int .i64 0, .pointer (some ⟨ga18_21, 0, none⟩), val 19]) ⟨e0, e1, rfl, e3, e4, rfl, e6, e7, e8, e9, e10, e11, e12, e13, e14, e15, e16, e17, e18, rfl, trivial⟩ rfl ?_
                  replace q1 := q1.below hb q1.lt
                  replace qa13_7 := qa13_7.below hb qa13_7.lt
                  replace q8 := q8.below hb q8.lt
                  have bge13 := alc_ge halc (i := 18) rfl rfl e18
                  have n1_13 : g1 ≠ ga18_21 := Nat.ne_of_lt (Nat.lt_of_lt_of_le lt_1 bge13)
                  have n6_13 : ga13_7 ≠ ga18_21 := Nat.ne_of_lt (Nat.lt_of_lt_of_le lt_6 bge13)
                  have n8_13 : g8 ≠ ga18_21 := Nat.ne_of_lt (Nat.lt_of_lt_of_le lt_8 bge13)
                  have bhbw_13 := Nat.le_trans hbw.size bge13
                  replace hbw := Below.on hbw hb hbw.size
                  refine EL.val (x_assign rfl) rfl ?_
                  refine EL.nil ?_
                  refine EX.seq ?_
                  refine EC.seq ?_
                  refine EC.region ?_
                  refine EL.val (x_move rfl) rfl ?_
                  refine EL.val (x_eql rfl rfl (by first | assumption | exact decide_eq_true (by omega))) rfl ?_
                  refine EL.val (x_move rfl) rfl ?_
                  refine EL.valg rfl rfl (ld_23 rfl (qa13_7.at (j := 0) rfl) (qa13_7.at (j := 1) rfl)) rfl ?_
                  refine EL.valg rfl rfl (fa_23_0 rfl) rfl ?_
                  refine EL.valg rfl rfl (ld_3 rfl (qa18_21.at (j := 0) rfl)) rfl ?_
                  refine EL.valg rfl rfl (fa_23_0 rfl) rfl ?_
                  refine EL.valg rfl rfl (ld_3 rfl (q8.at (j := 0) rfl)) rfl ?_
                  refine EL.valg rfl rfl (x_add rfl rfl (by first | assumption | exact IntWalk.i64_in _ ⟨by omega, by omega⟩)) rfl ?_
                  refine EL.valg rfl rfl (fa_23_1 rfl) rfl ?_
                  refine EL.valg rfl rfl (ld_3 rfl (qa18_21.at (j := 1) rfl)) rfl ?_
                  refine EL.valg rfl rfl (fa_23_1 rfl) rfl ?_
                  refine EL.valg rfl rfl (ld_3 rfl (q8.at (j := 1) rfl)) rfl ?_
                  refine EL.valg rfl rfl (x_add rfl rfl (by first | assumption | exact IntWalk.i64_in _ ⟨by omega, by omega⟩)) rfl ?_
                  refine EL.valg rfl rfl (bd_23_0_1 rfl rfl) rfl ?_
                  refine EL.valg rfl rfl (eql_23 (r := true) rfl rfl (by simp only [decide_eq_true_eq]; exact ⟨hl2, hh2⟩)) rfl ?_
                  refine EL.val (x_pick_t rfl rfl) rfl ?_
                  refine EL.val (x_move rfl) rfl ?_
                  refine EL.callg rfl rfl cl_16 rfl (known_any _) ?_
                  rintro e w14 ⟨rfl, hc14⟩
                  refine ⟨_, rfl, ?_⟩
                  replace q1 := q1.below hc14 q1.lt
                  replace qa13_7 := qa13_7.below hc14 qa13_7.lt
                  replace q8 := q8.below hc14 q8.lt
                  replace qa18_21 := qa18_21.below hc14 qa18_21.lt
                  replace hbw := Below.on hbw hc14 hbw.size
                  clear hc14
                  refine EL.val (x_pick_t rfl rfl) rfl ?_
                  refine EL.val (x_assign rfl) rfl ?_
                  refine EL.nil ?_
                  refine EX.seq ?_
                  refine EC.ret ?_
                  exact EX.done (res1 rfl rfl) ⟨rfl, hbw⟩
end Go.Proofs.Ytncnlhkmdljgpaa
