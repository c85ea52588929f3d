/- X16, ExX17, X17: what EmptiesProvesProof needs of them (merged by trimpack.py). -/
import Derived.Test.YtabgmnmpdjnjoaaProvesT4
set_option linter.unusedVariables false
set_option linter.unusedSimpArgs false
namespace Go.Proofs.Ytabgmnmpdjnjoaa
open Go Go.RowKit
set_option maxHeartbeats 1000000 in
theorem rextra_any (nt : Net) (mv : List Int) (vp vw vm : Value) (w : World) (B : Nat) (hr : RdNet w B vp vw nt) (hrm : Rd w B 1 vm mv.length (ints mv)) (hB : B ≤ w.heap.size) (hv : netB nt = true) (hml : mv.length = nt.ways.length) (hok : okTo nt mv nt.ways.length = true) :
    Calls Try.prog 48 #[.agg #[vp, vw], vm] w fun e w' => (∃ v, e = .returned v ∧ w'.ownsRow w.heap.size 3 1 v nt.ports.length (ints (extL nt mv))) ∧ Below w.heap.size w w' := by
  obtain ⟨Ap, cp_, rfl, _⟩ := hr.ports.shape
  obtain ⟨Aw, cw_, rfl, _⟩ := hr.ways.shape
  obtain ⟨Am, cm_, rfl, _⟩ := hrm.shape
  obtain ⟨⟨hp1, hp60⟩, hw300, hvp, hvw⟩ := netB_ok hv
  have hbw := Below.refl w.heap.size w
  refine EC.enter 70 Try.func48 rfl rfl rfl ?_
  refine EC.seq ?_
  refine EC.region ?_
  refine EL.newP (bx_25 rfl) rfl ?_
  intro g1 w1 q1 hb1 hg1 hl1
  have bhbw_1 := Nat.le_trans hbw.size hg1
  replace hbw := Below.on hbw hb1 hbw.size
  clear hb1 hg1 hl1
  refine EL.val (x_assign rfl) rfl ?_
  refine EL.nil ?_
  refine EX.seq ?_
  refine EC.seq ?_
  refine EC.region ?_
  refine EL.newS bs_29_0 rfl ?_
  intro g2 w2 q2 hb2 hg2 hl2
  have n1_2 : g1 ≠ g2 := Nat.ne_of_lt (Nat.lt_of_lt_of_le q1.lt hg2)
  have bhbw_2 := Nat.le_trans hbw.size hg2
  replace q1 := q1.below hb2 q1.lt
  replace hbw := Below.on hbw hb2 hbw.size
  clear hb2 hl2
  have ho : World.ownsRow w2 w.heap.size 3 1 (.slice (some ⟨g2, 0, none⟩) 0 0) 0 [] := own_empty 1 q2 (by have := hbw.size; first | exact bhbw_2 | omega)
  refine EL.val (x_assign rfl) rfl ?_
  refine EL.nil ?_
  refine EX.seq ?_
  refine EC.seq ?_
  refine EC.seq ?_
  refine EC.region ?_
  refine EL.val (x_assign rfl) rfl ?_
  refine EL.nil ?_
  refine EX.seq ?_
  refine EC.block ?_
  refine EC.loopD [5, 6, 9, 10, 11, 12, 13, 14, 15, 16, 17, 18, 19, 20, 21, 22, 23, 24, 25, 26, 27, 28, 29, 30, 31] (fun x : Nat × Value => [(5, x.2), (6, .int .i64 (x.1 : Nat))]) (fun x W => x.1 ≤ nt.ports.length ∧ Blk W g1 25 #[.slice Ap nt.ports.length cp_, .slice Aw nt.ways.length cw_] ∧ W.ownsRow w.heap.size 3 1 x.2 x.1 (ints (ext0 nt x.1)) ∧ Below w.heap.size w W) (fun x => nt.ports.length - x.1) (0, .slice (some ⟨g2, 0, none⟩) 0 0) ⟨Nat.zero_le _, q1, ho, hbw⟩ ⟨rfl, rfl, trivial⟩ ?_
  clear q1 ho hbw
  rintro ⟨x, vl⟩ wx ⟨hx, q2x, ho, hbw⟩
  dsimp only at hx ho
  obtain ⟨Al, cl, rfl, _⟩ := (Rd.of_own ho).shape
  by_cases hlt : x < nt.ports.length
  ·
    have hbz := Below.refl wx.heap.size wx
    obtain ⟨bp, op, e_, _, pc0, pc1⟩ := prts_cells nt.ports x hlt _ _ _ _ _ hr.ports
    subst e_
    obtain ⟨⟨ph0, ph1⟩, pw0, pw1⟩ := hvp x hlt
    have hsl := ext0_succ (nt := nt) x
    obtain ⟨y, ey⟩ : ∃ z, z = nt.ports.getD x prt0 := ⟨_, rfl⟩
    rw [← ey] at pc0 pc1 ph0 ph1 pw0 pw1 hsl
    refine EC.seq ?_
    refine EC.seq ?_
    refine EC.region ?_
    refine EL.val (x_move rfl) rfl ?_
    refine EL.val (fa_25_0 rfl) rfl ?_
    refine EL.val (ld_22 rfl (q2x.at (j := 0) rfl)) rfl ?_
    refine EL.val (ln_22 rfl) rfl ?_
    refine EL.val (x_lss rfl rfl (decide_eq_true (show (((x : Nat) : Int) < ((nt.ports.length : Nat) : Int)) by omega))) rfl ?_
    refine EL.nil ?_
    refine EX.seq ?_
    refine EC.yes rfl ?_
    refine EC.skip ?_
    refine EX.seq ?_
    refine EC.seq ?_
    refine EC.block ?_
    have hW := below_row ho (w1 := wx) ⟨rfl, rfl, rfl, Nat.le_refl _, fun _ _ _ => rfl⟩ hbw.size
    clear hW
    have lt_1 := q2x.lt
    refine EC.regionS [[], [], [1], [], [1, 2, 3], [1, 2, 3, 4], [1, 2, 3, 4, 5], [], [7], [], [7, 8, 9], [7, 8, 9, 10], [7, 8, 9, 10, 11], [1, 2, 3, 4, 5, 6, 7, 8, 9, 10, 11, 12], [1, 2, 3, 4, 5, 6, 7, 8, 9, 10, 11, 12, 13], [0, 1, 2, 3, 4, 5, 6, 7, 8, 9, 10, 11, 12, 13, 14], [0, 1, 2, 3, 4, 5, 6, 7, 8, 9, 10, 11, 12, 13, 14, 15]] 16 [] [15] (fun fl w_ => wx.grownBy w_ ((.slice Al x cl) : Value).ownBlock ∧ (fl 15 = false → w_.ownsRow w.heap.size 3 1 (.slice Al x cl) x (ints (ext0 nt x)))) (phiS (fun i_ r => match i_ with | 0 => r 0 = .slice Al x cl | 1 => r 1 = .pointer (some ⟨g1, 0, none⟩) | 2 => r 2 = .slice (some ⟨bp, op, none⟩) nt.ports.length cp_ | 3 => r 3 = .int .i64 (x : Nat) | 4 => r 4 = .pointer (some ⟨bp, op + x * 2, none⟩) | 5 => r 5 = .pointer (some ⟨bp, op + x * 2, none⟩) | 6 => r 6 = .int .i64 y.has | 7 => r 7 = .pointer (some ⟨g1, 0, none⟩) | 8 => r 8 = .slice (some ⟨bp, op, none⟩) nt.ports.length cp_ | 9 => r 9 = .int .i64 (x : Nat) | 10 => r 10 = .pointer (some ⟨bp, op + x * 2, none⟩) | 11 => r 11 = .pointer (some ⟨bp, op + x * 2 + 1, none⟩) | 12 => r 12 = .int .i64 y.wants | 13 => r 13 = .int .i64 (y.has - y.wants) | _ => True) [(14, fun fl r w_ => fl 15 = false → (∃ g_, r 14 = .slice (some ⟨g_, 0, none⟩) 1 1 ∧ Blk w_ g_ 3 #[.int .i64 (y.has - y.wants)] ∧ wx.heap.size ≤ g_)), (15, fun _ r w_ => w_.ownsRow w.heap.size 3 1 (r 15) (x + 1) ((ints (ext0 nt x)) ++ [.int .i64 (y.has - y.wants)]) ∧ ∀ b, (r 15).ownBlock = some b → ((.slice Al x cl) : Value).ownBlock = some b ∨ wx.heap.size ≤ b)]) (by kernel_rfl) rfl rfl (by intro i hi; simp at hi; subst hi; exact ⟨by simp, by omega⟩) (base_row ho) (phiS_cons (monoS_till mono_bs) (phiS_cons (monoS_row (e := 15) (C := fun u_ => ∀ b, u_.ownBlock = some b → ((.slice Al x cl) : Value).ownBlock = some b ∨ wx.heap.size ≤ b)) (phiS_nil))) (fun i_ hi_ hs_ => ?_) (fun i_ hi_ => ?_) ?_
    · match i_, hi_ with
      | 0, _ =>
        intro val fl w1 a hb ha hd hfl
        obtain ⟨hgb, hg0⟩ := hb
        have hb := below_row ho hgb hbw.size
        have ha := ha.sub (Sub.ins (d := 5) (Sub.nil _) rfl)
        exact ss_val ha rfl rfl (x_move rfl) rfl rfl
      | 1, _ =>
        intro val fl w1 a hb ha hd hfl
        obtain ⟨hgb, hg0⟩ := hb
        have hb := below_row ho hgb hbw.size
        have ha := ha.sub (Sub.ins (d := 2) (Sub.nil _) rfl)
        exact ss_val ha rfl rfl (fa_25_0 rfl) rfl rfl
      | 2, _ =>
        intro val fl w1 a hb ha hd hfl
        obtain ⟨hgb, hg0⟩ := hb
        have hb := below_row ho hgb hbw.size
        have e1 : val 1 = .pointer (some ⟨g1, 0, none⟩) := hd 1 (memB_mem.1 rfl)
        have ha := ha.sub (Sub.ins (d := 17) (Sub.nil _) (dep_get rfl e1))
        exact ss_val ha rfl rfl (ld_22 rfl ((blk_grown q2x ho rfl hgb).at (j := 0) rfl)) rfl rfl
      | 3, _ =>
        intro val fl w1 a hb ha hd hfl
        obtain ⟨hgb, hg0⟩ := hb
        have hb := below_row ho hgb hbw.size
        have ha := ha.sub (Sub.ins (d := 6) (Sub.nil _) rfl)
        exact ss_val ha rfl rfl (x_move rfl) rfl rfl
      | 4, _ =>
        intro val fl w1 a hb ha hd hfl
        obtain ⟨hgb, hg0⟩ := hb
        have hb := below_row ho hgb hbw.size
        have e2 : val 2 = .slice (some ⟨bp, op, none⟩) nt.ports.length cp_ := hd 2 (memB_mem.1 rfl)
        have e3 : val 3 = .int .i64 (x : Nat) := hd 3 (memB_mem.1 rfl)
        have ha := ha.sub (Sub.ins (d := 19) (Sub.ins (d := 18) (Sub.nil _) (dep_get rfl e2)) (dep_get rfl e3))
        exact ss_val ha rfl rfl (ix_22 rfl rfl hlt) rfl rfl
      | 5, _ =>
        intro val fl w1 a hb ha hd hfl
        obtain ⟨hgb, hg0⟩ := hb
        have hb := below_row ho hgb hbw.size
        have e4 : val 4 = .pointer (some ⟨bp, op + x * 2, none⟩) := hd 4 (memB_mem.1 rfl)
        have ha := ha.sub (Sub.ins (d := 20) (Sub.nil _) (dep_get rfl e4))
        exact ss_val ha rfl rfl (fa_47_0 rfl) rfl rfl
      | 6, _ =>
        intro val fl w1 a hb ha hd hfl
        obtain ⟨hgb, hg0⟩ := hb
        have hb := below_row ho hgb hbw.size
        have e5 : val 5 = .pointer (some ⟨bp, op + x * 2, none⟩) := hd 5 (memB_mem.1 rfl)
        have ha := ha.sub (Sub.ins (d := 21) (Sub.nil _) (dep_get rfl e5))
        exact ss_val ha rfl rfl (ld_3 rfl (below_load (hbw.trans hb) pc0)) rfl rfl
      | 7, _ =>
        intro val fl w1 a hb ha hd hfl
        obtain ⟨hgb, hg0⟩ := hb
        have hb := below_row ho hgb hbw.size
        have ha := ha.sub (Sub.ins (d := 2) (Sub.nil _) rfl)
        exact ss_val ha rfl rfl (fa_25_0 rfl) rfl rfl
      | 8, _ =>
        intro val fl w1 a hb ha hd hfl
        obtain ⟨hgb, hg0⟩ := hb
        have hb := below_row ho hgb hbw.size
        have e7 : val 7 = .pointer (some ⟨g1, 0, none⟩) := hd 7 (memB_mem.1 rfl)
        have ha := ha.sub (Sub.ins (d := 23) (Sub.nil _) (dep_get rfl e7))
        exact ss_val ha rfl rfl (ld_22 rfl ((blk_grown q2x ho rfl hgb).at (j := 0) rfl)) rfl rfl
      | 9, _ =>
        intro val fl w1 a hb ha hd hfl
        obtain ⟨hgb, hg0⟩ := hb
        have hb := below_row ho hgb hbw.size
        have ha := ha.sub (Sub.ins (d := 6) (Sub.nil _) rfl)
        exact ss_val ha rfl rfl (x_move rfl) rfl rfl
      | 10, _ =>
        intro val fl w1 a hb ha hd hfl
        obtain ⟨hgb, hg0⟩ := hb
        have hb := below_row ho hgb hbw.size
        have e8 : val 8 = .slice (some ⟨bp, op, none⟩) nt.ports.length cp_ := hd 8 (memB_mem.1 rfl)
        have e9 : val 9 = .int .i64 (x : Nat) := hd 9 (memB_mem.1 rfl)
        have ha := ha.sub (Sub.ins (d := 25) (Sub.ins (d := 24) (Sub.nil _) (dep_get rfl e8)) (dep_get rfl e9))
        exact ss_val ha rfl rfl (ix_22 rfl rfl hlt) rfl rfl
      | 11, _ =>
        intro val fl w1 a hb ha hd hfl
        obtain ⟨hgb, hg0⟩ := hb
        have hb := below_row ho hgb hbw.size
        have e10 : val 10 = .pointer (some ⟨bp, op + x * 2, none⟩) := hd 10 (memB_mem.1 rfl)
        have ha := ha.sub (Sub.ins (d := 26) (Sub.nil _) (dep_get rfl e10))
        exact ss_val ha rfl rfl (fa_47_1 rfl) rfl rfl
      | 12, _ =>
        intro val fl w1 a hb ha hd hfl
        obtain ⟨hgb, hg0⟩ := hb
        have hb := below_row ho hgb hbw.size
        have e11 : val 11 = .pointer (some ⟨bp, op + x * 2 + 1, none⟩) := hd 11 (memB_mem.1 rfl)
        have ha := ha.sub (Sub.ins (d := 27) (Sub.nil _) (dep_get rfl e11))
        exact ss_val ha rfl rfl (ld_3 rfl (below_load (hbw.trans hb) pc1)) rfl rfl
      | 13, _ =>
        intro val fl w1 a hb ha hd hfl
        obtain ⟨hgb, hg0⟩ := hb
        have hb := below_row ho hgb hbw.size
        have e6 : val 6 = .int .i64 y.has := hd 6 (memB_mem.1 rfl)
        have e12 : val 12 = .int .i64 y.wants := hd 12 (memB_mem.1 rfl)
        have ha := ha.sub (Sub.ins (d := 28) (Sub.ins (d := 22) (Sub.nil _) (dep_get rfl e6)) (dep_get rfl e12))
        exact ss_val ha rfl rfl (x_sub rfl rfl (c := y.has - y.wants) (IntWalk.i64_in _ ⟨by omega, by omega⟩)) rfl rfl
      | 14, _ =>
        intro val fl w1 a hb ha hd hfl
        obtain ⟨hgb, hg0⟩ := hb
        have hb := below_row ho hgb hbw.size
        have e13 : val 13 = .int .i64 (y.has - y.wants) := hd 13 (memB_mem.1 rfl)
        have ha := ha.sub (Sub.ins (d := 29) (Sub.nil _) (dep_get rfl e13))
        exact ss_newS ha rfl rfl (bs_29_1 rfl) rfl (fun g w' hq _ hge => fun _ => ⟨g, rfl, hq, Nat.le_trans hgb.size hge⟩)
      | 15, _ =>
        exact absurd (by simp) hs_
      | k + 16, h => exact absurd h (by omega)
    · simp only [List.mem_singleton] at hi_; subst hi_
      intro val fl w1 a hb hfi ha hd hfl
      obtain ⟨hgb, hg0⟩ := hb
      have hb := below_row ho hgb hbw.size
      have e0 : val 0 = .slice Al x cl := hd 0 (memB_mem.1 rfl)
      obtain ⟨g14_, e14, q14_, h14_⟩ := hd 14 (memB_mem.1 rfl) hfi
      change val 14 = _ at e14
      have ha := ha.sub (Sub.ins (d := 30) (Sub.ins (d := 16) (Sub.nil _) (dep_get rfl e0)) (dep_get rfl e14))
      refine ts_push i64_elem ha rfl rfl rfl (hg0 hfi) (rd_one (l := [.int .i64 (y.has - y.wants)]) q14_ rfl) (by intro u hu; rw [List.mem_singleton.1 hu]; rfl) (by omega) rfl (Nat.le_trans hbw.size hgb.size) ?_
      intro v' w' ho' hgr hat
      refine ⟨v', rfl, hgr.size, ⟨grown_three hgb hgr, fun h => by rw [fset_eq] at h; cases h⟩, ⟨ho', fun b hb' => ?_⟩, fun j _ hj hn hA => ?_⟩
      · rcases hat with h | h
        · exact .inl (h ▸ hb')
        · refine .inr ?_
          change v'.ownBlock = some b at hb'
          rw [h] at hb'
          injection hb' with hb'
          have := hgb.size
          omega
      · exact phiS_cons_st (C := fun j => j ≠ 15 ∧ 15 ∉ clsAt [[], [], [1], [], [1, 2, 3], [1, 2, 3, 4], [1, 2, 3, 4, 5], [], [7], [], [7, 8, 9], [7, 8, 9, 10], [7, 8, 9, 10, 11], [1, 2, 3, 4, 5, 6, 7, 8, 9, 10, 11, 12], [1, 2, 3, 4, 5, 6, 7, 8, 9, 10, 11, 12, 13], [0, 1, 2, 3, 4, 5, 6, 7, 8, 9, 10, 11, 12, 13, 14], [0, 1, 2, 3, 4, 5, 6, 7, 8, 9, 10, 11, 12, 13, 14, 15]] j) (fun _ _ h => by rw [fset_eq] at h; cases h) (phiS_cons_st (C := fun j => j ≠ 15 ∧ 15 ∉ clsAt [[], [], [1], [], [1, 2, 3], [1, 2, 3, 4], [1, 2, 3, 4, 5], [], [7], [], [7, 8, 9], [7, 8, 9, 10], [7, 8, 9, 10, 11], [1, 2, 3, 4, 5, 6, 7, 8, 9, 10, 11, 12], [1, 2, 3, 4, 5, 6, 7, 8, 9, 10, 11, 12, 13], [0, 1, 2, 3, 4, 5, 6, 7, 8, 9, 10, 11, 12, 13, 14], [0, 1, 2, 3, 4, 5, 6, 7, 8, 9, 10, 11, 12, 13, 14, 15]] j) (fun hc => absurd rfl hc.1) (fun _ _ h => h)) j ⟨hj, hn⟩
    · intro val fl w' hfl hb halc hd
      obtain ⟨hgb, _⟩ := hb
      have hb := below_row ho hgb hbw.size
      have e0 : val 0 = .slice Al x cl := hd 0 (by omega)
      have e1 : val 1 = .pointer (some ⟨g1, 0, none⟩) := hd 1 (by omega)
      have e2 : val 2 = .slice (some ⟨bp, op, none⟩) nt.ports.length cp_ := hd 2 (by omega)
      have e3 : val 3 = .int .i64 (x : Nat) := hd 3 (by omega)
      have e4 : val 4 = .pointer (some ⟨bp, op + x * 2, none⟩) := hd 4 (by omega)
      have e5 : val 5 = .pointer (some ⟨bp, op + x * 2, none⟩) := hd 5 (by omega)
      have e6 : val 6 = .int .i64 y.has := hd 6 (by omega)
      have e7 : val 7 = .pointer (some ⟨g1, 0, none⟩) := hd 7 (by omega)
      have e8 : val 8 = .slice (some ⟨bp, op, none⟩) nt.ports.length cp_ := hd 8 (by omega)
      have e9 : val 9 = .int .i64 (x : Nat) := hd 9 (by omega)
      have e10 : val 10 = .pointer (some ⟨bp, op + x * 2, none⟩) := hd 10 (by omega)
      have e11 : val 11 = .pointer (some ⟨bp, op + x * 2 + 1, none⟩) := hd 11 (by omega)
      have e12 : val 12 = .int .i64 y.wants := hd 12 (by omega)
      have e13 : val 13 = .int .i64 (y.has - y.wants) := hd 13 (by omega)
      obtain ⟨ho15, hn15⟩ := hd 15 (by omega)
      change w'.ownsRow _ _ _ (val 15) _ _ at ho15
      refine EL.ends (cs := [.slice Al x cl, .pointer (some ⟨g1, 0, none⟩), .slice (some ⟨bp, op, none⟩) nt.ports.length cp_, .int .i64 (x : Nat), .pointer (some ⟨bp, op + x * 2, none⟩), .pointer (some ⟨bp, op + x * 2, none⟩), .int .i64 y.has, .pointer (some ⟨g1, 0, none⟩), .slice (some ⟨bp, op, none⟩) nt.ports.length cp_, .int .i64 (x : Nat), .pointer (some ⟨bp, op + x * 2, none⟩), .pointer (some ⟨bp, op + x * 2 + 1, none⟩), .int .i64 y.wants, .int .i64 (y.has - y.wants), val 14, val 15]) ⟨e0, e1, e2, e3, e4, e5, e6, e7, e8, e9, e10, e11, e12, e13, rfl, rfl, trivial⟩ rfl ?_
      replace q2x := blk_grown q2x ho rfl hgb
      replace hbw := hbw.trans (hb.mono (Nat.le_refl _))
      obtain ⟨v15, ev15⟩ : ∃ z, z = val 15 := ⟨_, rfl⟩
      rw [← ev15] at ho15 ⊢
      obtain ⟨A2, c2, rfl, _⟩ := (Rd.of_own ho15).shape
      refine EL.val (x_assign rfl) rfl ?_
      refine EL.nil ?_
      refine EX.blk ?_
      refine EX.seq ?_
      refine EC.region ?_
      refine EL.val (x_move rfl) rfl ?_
      refine EL.val (x_add rfl rfl (c := ((x + 1 : Nat) : Int)) ((IntWalk.i64_in _ ⟨by first | omega | (simp only; omega), by first | omega | (simp only; omega)⟩).trans (by first | omega | (simp only; omega)))) rfl ?_
      refine EL.val (x_assign rfl) rfl ?_
      refine EL.nil ?_
      refine EX.roundD (x + 1, _) ⟨rfl, rfl, trivial⟩ (by repeat first | with_reducible exact Sub.refl _ | refine sub_past rfl ?_ | exact Sub.refl _ | refine sub_del rfl ?_ | refine sub_insL_nil ?_) ⟨hlt, q2x, by show World.ownsRow _ _ _ _ _ (x + 1) (ints (ext0 nt (x + 1))); rw [hsl, ints_app]; exact ho15, hbw⟩ (by simp only; omega)
  ·
    have hxe : x = nt.ports.length := by omega
    subst hxe
    refine EC.seq ?_
    refine EC.seq ?_
    refine EC.region ?_
    refine EL.val (x_move rfl) rfl ?_
    refine EL.val (fa_25_0 rfl) rfl ?_
    refine EL.val (ld_22 rfl (q2x.at (j := 0) rfl)) rfl ?_
    refine EL.val (ln_22 rfl) rfl ?_
    refine EL.val (x_lss rfl rfl (decide_eq_false (show ¬(((nt.ports.length : Nat) : Int) < ((nt.ports.length : Nat) : Int)) by omega))) rfl ?_
    refine EL.nil ?_
    refine EX.seq ?_
    refine EC.no rfl ?_
    refine EC.exit ?_
    refine EX.seq_exit ?_
    refine EX.seq_exit ?_
    refine EX.blk_here ?_
    refine EX.seq ?_
    refine EC.seq ?_
    refine EC.seq ?_
    refine EC.region ?_
    refine EL.val (x_assign rfl) rfl ?_
    refine EL.nil ?_
    refine EX.seq ?_
    refine EC.block ?_
    obtain ⟨gl, rfl⟩ := own_ptr ho (by omega)
    refine EC.loopD [7, 32, 33, 34, 35, 36, 37, 38, 39, 40, 41, 42, 43, 44, 45, 46, 47, 48, 49, 50, 51, 52, 53, 54, 55, 56, 57, 58, 59, 60, 61, 62, 63, 64, 65, 66, 67, 68] (fun x : Nat => [(7, .int .i64 (x : Nat))]) (fun x W => x ≤ nt.ways.length ∧ Blk W g1 25 #[.slice Ap nt.ports.length cp_, .slice Aw nt.ways.length cw_] ∧ W.ownsRow w.heap.size 3 1 (.slice (some ⟨gl, 0, none⟩) nt.ports.length cl) nt.ports.length (ints (extTo nt mv x)) ∧ Below w.heap.size w W) (fun x => nt.ways.length - x) 0 ⟨Nat.zero_le _, q2x, ho, hbw⟩ ⟨rfl, trivial⟩ ?_
    clear q2x ho hbw
    rintro x wx ⟨hx, q2x, ho, hbw⟩
    by_cases hlt : x < nt.ways.length
    ·
      obtain ⟨bw, ow, e_, _, wc⟩ := ways_cells nt.ways x hlt _ _ _ _ _ hr.ways
      subst e_
      obtain ⟨bm, om, e_, _, mc⟩ := ints_cells mv x (by omega) _ _ _ _ _ hrm
      subst e_
      obtain ⟨⟨wf0, wf1⟩, ⟨wt0, wt1⟩, wne, ⟨wc0, wc1⟩, wr0, wr1⟩ := hvw x hlt
      have hel := extTo_len (nt := nt) (mv := mv) x
      have heb := ext_bd hv x hx (okTo_less hx hok)
      have hmb := okTo_at hok hlt
      have hen : extTo nt mv (x + 1) = extStep (extTo nt mv x) (nt.ways.getD x way0) (mv.getD x 0) := rfl
      obtain ⟨y, ey⟩ : ∃ z, z = nt.ways.getD x way0 := ⟨_, rfl⟩
      obtain ⟨m, em⟩ : ∃ z, z = mv.getD x 0 := ⟨_, rfl⟩
      rw [← em] at mc hen hmb
      rw [← ey] at wc wf0 wf1 wt0 wt1 wne wc0 wc1 wr0 wr1 hen hmb
      obtain ⟨el, eel⟩ : ∃ z, z = extTo nt mv x := ⟨_, rfl⟩
      rw [← eel] at ho hel heb hen
      have ef : y.fr = ((y.fr.toNat : Nat) : Int) := by omega
      have et : y.to = ((y.to.toNat : Nat) : Int) := by omega
      have hef := heb y.fr.toNat
      have het := heb y.to.toNat
      have het2 : -(2000 + 1000 * ((x : Nat) : Int)) ≤ (el.set y.fr.toNat (el.getD y.fr.toNat 0 - m)).getD y.to.toNat 0 ∧ (el.set y.fr.toNat (el.getD y.fr.toNat 0 - m)).getD y.to.toNat 0 ≤ 2000 + 1000 * ((x : Nat) : Int) := by rw [getD_set0 (by omega)]; split <;> omega
      refine EC.seq ?_
      refine EC.seq ?_
      refine EC.region ?_
      refine EL.val (x_move rfl) rfl ?_
      refine EL.val (fa_25_1 rfl) rfl ?_
      refine EL.val (ld_23 rfl (q2x.at (j := 1) rfl)) rfl ?_
      refine EL.val (ln_23 rfl) rfl ?_
      refine EL.val (x_lss rfl rfl (decide_eq_true (show (((x : Nat) : Int) < ((nt.ways.length : Nat) : Int)) by omega))) rfl ?_
      refine EL.nil ?_
      refine EX.seq ?_
      refine EC.yes rfl ?_
      refine EC.skip ?_
      refine EX.seq ?_
      refine EC.seq ?_
      refine EC.block ?_
      refine EC.seq ?_
      have rc9 := own_int_cell ho (k := y.fr.toNat) (by omega)
      have lt_1 := q2x.lt
      refine EC.regionP [[], [], [1], [], [1, 2, 3], [1, 2, 3, 4], [1, 2, 3, 4, 5], [0, 1, 2, 3, 4, 5, 6], [0, 1, 2, 3, 4, 5, 6, 7], [], [], [9, 10], [9, 10, 11], [0, 1, 2, 3, 4, 5, 6, 7, 8, 9, 10, 11, 12], [0, 1, 2, 3, 4, 5, 6, 7, 8, 9, 10, 11, 12, 13], [0, 1, 2, 3, 4, 5, 6, 7, 8, 9, 10, 11, 12, 13, 14]] 14 [] (phi (fun i_ r => match i_ with | 0 => r 0 = .slice (some ⟨gl, 0, none⟩) nt.ports.length cl | 1 => r 1 = .pointer (some ⟨g1, 1, none⟩) | 2 => r 2 = .slice (some ⟨bw, ow, none⟩) nt.ways.length cw_ | 3 => r 3 = .int .i64 (x : Nat) | 4 => r 4 = .pointer (some ⟨bw, ow + x * 4, none⟩) | 5 => r 5 = .pointer (some ⟨bw, ow + x * 4, none⟩) | 6 => r 6 = .int .i64 y.fr | 7 => r 7 = .pointer (some ⟨gl, 0 + y.fr.toNat, none⟩) | 8 => r 8 = .int .i64 ((el).getD y.fr.toNat 0) | 9 => r 9 = .slice (some ⟨bm, om, none⟩) mv.length cm_ | 10 => r 10 = .int .i64 (x : Nat) | 11 => r 11 = .pointer (some ⟨bm, om + x, none⟩) | 12 => r 12 = .int .i64 m | 13 => r 13 = .int .i64 (el.getD y.fr.toNat 0 - m) | _ => True) []) (by kernel_rfl) rfl rfl (phi_nil) (fun i_ hi_ => ?_) ?_
      · match i_, hi_ with
        | 0, _ =>
          intro val w1 a hb ha hd
          have ha := ha.sub (Sub.ins (d := 5) (Sub.nil _) rfl)
          exact hs_val ha rfl rfl (x_move rfl) rfl rfl
        | 1, _ =>
          intro val w1 a hb ha hd
          have ha := ha.sub (Sub.ins (d := 2) (Sub.nil _) rfl)
          exact hs_val ha rfl rfl (fa_25_1 rfl) rfl rfl
        | 2, _ =>
          intro val w1 a hb ha hd
          have e1 : val 1 = .pointer (some ⟨g1, 1, none⟩) := hd 1 (memB_mem.1 rfl)
          have ha := ha.sub (Sub.ins (d := 40) (Sub.nil _) (dep_get rfl e1))
          exact hs_val ha rfl rfl (ld_23 rfl ((q2x.below hb q2x.lt).at (j := 1) rfl)) rfl rfl
        | 3, _ =>
          intro val w1 a hb ha hd
          have ha := ha.sub (Sub.ins (d := 7) (Sub.nil _) rfl)
          exact hs_val ha rfl rfl (x_move rfl) rfl rfl
        | 4, _ =>
          intro val w1 a hb ha hd
          have e2 : val 2 = .slice (some ⟨bw, ow, none⟩) nt.ways.length cw_ := hd 2 (memB_mem.1 rfl)
          have e3 : val 3 = .int .i64 (x : Nat) := hd 3 (memB_mem.1 rfl)
          have ha := ha.sub (Sub.ins (d := 42) (Sub.ins (d := 41) (Sub.nil _) (dep_get rfl e2)) (dep_get rfl e3))
          exact hs_val ha rfl rfl (ix_23 rfl rfl hlt) rfl rfl
        | 5, _ =>
          intro val w1 a hb ha hd
          have e4 : val 4 = .pointer (some ⟨bw, ow + x * 4, none⟩) := hd 4 (memB_mem.1 rfl)
          have ha := ha.sub (Sub.ins (d := 43) (Sub.nil _) (dep_get rfl e4))
          exact hs_val ha rfl rfl (fa_56_0 rfl) rfl rfl
        | 6, _ =>
          intro val w1 a hb ha hd
          have e5 : val 5 = .pointer (some ⟨bw, ow + x * 4, none⟩) := hd 5 (memB_mem.1 rfl)
          have ha := ha.sub (Sub.ins (d := 44) (Sub.nil _) (dep_get rfl e5))
          exact hs_val ha rfl rfl (ld_3 rfl (below_load hb (below_load hbw wc.c0))) rfl rfl
        | 7, _ =>
          intro val w1 a hb ha hd
          have e0 : val 0 = .slice (some ⟨gl, 0, none⟩) nt.ports.length cl := hd 0 (memB_mem.1 rfl)
          have e6 : val 6 = .int .i64 y.fr := hd 6 (memB_mem.1 rfl)
          have ha := ha.sub (Sub.ins (d := 45) (Sub.ins (d := 39) (Sub.nil _) (dep_get rfl e0)) (dep_get rfl e6))
          exact hs_val ha rfl rfl (ix_29 rfl (by rw [← ef]; rfl) (show y.fr.toNat < nt.ports.length by omega)) rfl rfl
        | 8, _ =>
          intro val w1 a hb ha hd
          have e7 : val 7 = .pointer (some ⟨gl, 0 + y.fr.toNat, none⟩) := hd 7 (memB_mem.1 rfl)
          have ha := ha.sub (Sub.ins (d := 46) (Sub.nil _) (dep_get rfl e7))
          exact hs_val ha rfl rfl (ld_3 rfl (below_load hb rc9)) rfl rfl
        | 9, _ =>
          intro val w1 a hb ha hd
          have ha := ha.sub (Sub.ins (d := 1) (Sub.nil _) rfl)
          exact hs_val ha rfl rfl (x_move rfl) rfl rfl
        | 10, _ =>
          intro val w1 a hb ha hd
          have ha := ha.sub (Sub.ins (d := 7) (Sub.nil _) rfl)
          exact hs_val ha rfl rfl (x_move rfl) rfl rfl
        | 11, _ =>
          intro val w1 a hb ha hd
          have e9 : val 9 = .slice (some ⟨bm, om, none⟩) mv.length cm_ := hd 9 (memB_mem.1 rfl)
          have e10 : val 10 = .int .i64 (x : Nat) := hd 10 (memB_mem.1 rfl)
          have ha := ha.sub (Sub.ins (d := 49) (Sub.ins (d := 48) (Sub.nil _) (dep_get rfl e9)) (dep_get rfl e10))
          exact hs_val ha rfl rfl (ix_29 rfl rfl (show x < mv.length by omega)) rfl rfl
        | 12, _ =>
          intro val w1 a hb ha hd
          have e11 : val 11 = .pointer (some ⟨bm, om + x, none⟩) := hd 11 (memB_mem.1 rfl)
          have ha := ha.sub (Sub.ins (d := 50) (Sub.nil _) (dep_get rfl e11))
          exact hs_val ha rfl rfl (ld_3 rfl (below_load hb (below_load hbw mc))) rfl rfl
        | 13, _ =>
          intro val w1 a hb ha hd
          have e8 : val 8 = .int .i64 ((el).getD y.fr.toNat 0) := hd 8 (memB_mem.1 rfl)
          have e12 : val 12 = .int .i64 m := hd 12 (memB_mem.1 rfl)
          have ha := ha.sub (Sub.ins (d := 51) (Sub.ins (d := 47) (Sub.nil _) (dep_get rfl e8)) (dep_get rfl e12))
          exact hs_val ha rfl rfl (x_sub rfl rfl (IntWalk.i64_in _ ⟨by omega, by omega⟩)) rfl rfl
        | k + 14, h => exact absurd h (by omega)
      · intro val wR9 hb halc hd
        have e0 : val 0 = .slice (some ⟨gl, 0, none⟩) nt.ports.length cl := hd 0 (by omega)
        have e1 : val 1 = .pointer (some ⟨g1, 1, none⟩) := hd 1 (by omega)
        have e2 : val 2 = .slice (some ⟨bw, ow, none⟩) nt.ways.length cw_ := hd 2 (by omega)
        have e3 : val 3 = .int .i64 (x : Nat) := hd 3 (by omega)
        have e4 : val 4 = .pointer (some ⟨bw, ow + x * 4, none⟩) := hd 4 (by omega)
        have e5 : val 5 = .pointer (some ⟨bw, ow + x * 4, none⟩) := hd 5 (by omega)
        have e6 : val 6 = .int .i64 y.fr := hd 6 (by omega)
        have e7 : val 7 = .pointer (some ⟨gl, 0 + y.fr.toNat, none⟩) := hd 7 (by omega)
        have e8 : val 8 = .int .i64 ((el).getD y.fr.toNat 0) := hd 8 (by omega)
        have e9 : val 9 = .slice (some ⟨bm, om, none⟩) mv.length cm_ := hd 9 (by omega)
        have e10 : val 10 = .int .i64 (x : Nat) := hd 10 (by omega)
        have e11 : val 11 = .pointer (some ⟨bm, om + x, none⟩) := hd 11 (by omega)
        have e12 : val 12 = .int .i64 m := hd 12 (by omega)
        have e13 : val 13 = .int .i64 (el.getD y.fr.toNat 0 - m) := hd 13 (by omega)
        refine EL.ends (cs := [.slice (some ⟨gl, 0, none⟩) nt.ports.length cl, .pointer (some ⟨g1, 1, none⟩), .slice (some ⟨bw, ow, none⟩) nt.ways.length cw_, .int .i64 (x : Nat), .pointer (some ⟨bw, ow + x * 4, none⟩), .pointer (some ⟨bw, ow + x * 4, none⟩), .int .i64 y.fr, .pointer (some ⟨gl, 0 + y.fr.toNat, none⟩), .int .i64 ((el).getD y.fr.toNat 0), .slice (some ⟨bm, om, none⟩) mv.length cm_, .int .i64 (x : Nat), .pointer (some ⟨bm, om + x, none⟩), .int .i64 m, .int .i64 (el.getD y.fr.toNat 0 - m)]) ⟨e0, e1, e2, e3, e4, e5, e6, e7, e8, e9, e10, e11, e12, e13, trivial⟩ rfl ?_
        replace q2x := q2x.below hb q2x.lt
        replace ho := own_below ho hb (Nat.le_refl _)
        replace hbw := Below.on hbw hb hbw.size
        clear hb
        refine EL.val (ix_29 rfl (by rw [← ef]; rfl) (show y.fr.toNat < nt.ports.length by omega)) rfl ?_
        refine EL.storeRow (l' := [.int .i64 (el.getD y.fr.toNat 0 - m)]) rfl rfl ho sz_3 rfl rfl (by rw [ints_len, Nat.zero_add]; omega) rfl ?_
        intro w3 ho2 hgr
        rw [Nat.zero_add, spl_ints (by omega)] at ho2
        replace q2x := blk_grown q2x ho rfl hgr
        replace hbw := hbw.trans (below_row ho hgr hbw.size)
        clear ho hgr
        have ho := ho2
        clear ho2
        refine EL.nil ?_
        refine EX.seq ?_
        have rc10 := own_int_cell ho (k := y.to.toNat) (by rw [List.length_set]; omega)
        have lt_1 := q2x.lt
        refine EC.regionP [[], [], [1], [], [1, 2, 3], [1, 2, 3, 4], [1, 2, 3, 4, 5], [0, 1, 2, 3, 4, 5, 6], [0, 1, 2, 3, 4, 5, 6, 7], [], [], [9, 10], [9, 10, 11], [0, 1, 2, 3, 4, 5, 6, 7, 8, 9, 10, 11, 12], [0, 1, 2, 3, 4, 5, 6, 7, 8, 9, 10, 11, 12, 13], [0, 1, 2, 3, 4, 5, 6, 7, 8, 9, 10, 11, 12, 13, 14]] 14 [] (phi (fun i_ r => match i_ with | 0 => r 0 = .slice (some ⟨gl, 0, none⟩) nt.ports.length cl | 1 => r 1 = .pointer (some ⟨g1, 1, none⟩) | 2 => r 2 = .slice (some ⟨bw, ow, none⟩) nt.ways.length cw_ | 3 => r 3 = .int .i64 (x : Nat) | 4 => r 4 = .pointer (some ⟨bw, ow + x * 4, none⟩) | 5 => r 5 = .pointer (some ⟨bw, ow + x * 4 + 1, none⟩) | 6 => r 6 = .int .i64 y.to | 7 => r 7 = .pointer (some ⟨gl, 0 + y.to.toNat, none⟩) | 8 => r 8 = .int .i64 (((el.set y.fr.toNat (el.getD y.fr.toNat 0 - m))).getD y.to.toNat 0) | 9 => r 9 = .slice (some ⟨bm, om, none⟩) mv.length cm_ | 10 => r 10 = .int .i64 (x : Nat) | 11 => r 11 = .pointer (some ⟨bm, om + x, none⟩) | 12 => r 12 = .int .i64 m | 13 => r 13 = .int .i64 ((el.set y.fr.toNat (el.getD y.fr.toNat 0 - m)).getD y.to.toNat 0 + m) | _ => True) []) (by kernel_rfl) rfl rfl (phi_nil) (fun i_ hi_ => ?_) ?_
        · match i_, hi_ with
          | 0, _ =>
            intro val w1 a hb ha hd
            have ha := ha.sub (Sub.ins (d := 5) (Sub.nil _) rfl)
            exact hs_val ha rfl rfl (x_move rfl) rfl rfl
          | 1, _ =>
            intro val w1 a hb ha hd
            have ha := ha.sub (Sub.ins (d := 2) (Sub.nil _) rfl)
            exact hs_val ha rfl rfl (fa_25_1 rfl) rfl rfl
          | 2, _ =>
            intro val w1 a hb ha hd
            have e1 : val 1 = .pointer (some ⟨g1, 1, none⟩) := hd 1 (memB_mem.1 rfl)
            have ha := ha.sub (Sub.ins (d := 55) (Sub.nil _) (dep_get rfl e1))
            exact hs_val ha rfl rfl (ld_23 rfl ((q2x.below hb q2x.lt).at (j := 1) rfl)) rfl rfl
          | 3, _ =>
            intro val w1 a hb ha hd
            have ha := ha.sub (Sub.ins (d := 7) (Sub.nil _) rfl)
            exact hs_val ha rfl rfl (x_move rfl) rfl rfl
          | 4, _ =>
            intro val w1 a hb ha hd
            have e2 : val 2 = .slice (some ⟨bw, ow, none⟩) nt.ways.length cw_ := hd 2 (memB_mem.1 rfl)
            have e3 : val 3 = .int .i64 (x : Nat) := hd 3 (memB_mem.1 rfl)
            have ha := ha.sub (Sub.ins (d := 57) (Sub.ins (d := 56) (Sub.nil _) (dep_get rfl e2)) (dep_get rfl e3))
            exact hs_val ha rfl rfl (ix_23 rfl rfl hlt) rfl rfl
          | 5, _ =>
            intro val w1 a hb ha hd
            have e4 : val 4 = .pointer (some ⟨bw, ow + x * 4, none⟩) := hd 4 (memB_mem.1 rfl)
            have ha := ha.sub (Sub.ins (d := 58) (Sub.nil _) (dep_get rfl e4))
            exact hs_val ha rfl rfl (fa_56_1 rfl) rfl rfl
          | 6, _ =>
            intro val w1 a hb ha hd
            have e5 : val 5 = .pointer (some ⟨bw, ow + x * 4 + 1, none⟩) := hd 5 (memB_mem.1 rfl)
            have ha := ha.sub (Sub.ins (d := 59) (Sub.nil _) (dep_get rfl e5))
            exact hs_val ha rfl rfl (ld_3 rfl (below_load hb (below_load hbw wc.c1))) rfl rfl
          | 7, _ =>
            intro val w1 a hb ha hd
            have e0 : val 0 = .slice (some ⟨gl, 0, none⟩) nt.ports.length cl := hd 0 (memB_mem.1 rfl)
            have e6 : val 6 = .int .i64 y.to := hd 6 (memB_mem.1 rfl)
            have ha := ha.sub (Sub.ins (d := 60) (Sub.ins (d := 54) (Sub.nil _) (dep_get rfl e0)) (dep_get rfl e6))
            exact hs_val ha rfl rfl (ix_29 rfl (by rw [← et]; rfl) (show y.to.toNat < nt.ports.length by omega)) rfl rfl
          | 8, _ =>
            intro val w1 a hb ha hd
            have e7 : val 7 = .pointer (some ⟨gl, 0 + y.to.toNat, none⟩) := hd 7 (memB_mem.1 rfl)
            have ha := ha.sub (Sub.ins (d := 61) (Sub.nil _) (dep_get rfl e7))
            exact hs_val ha rfl rfl (ld_3 rfl (below_load hb rc10)) rfl rfl
          | 9, _ =>
            intro val w1 a hb ha hd
            have ha := ha.sub (Sub.ins (d := 1) (Sub.nil _) rfl)
            exact hs_val ha rfl rfl (x_move rfl) rfl rfl
          | 10, _ =>
            intro val w1 a hb ha hd
            have ha := ha.sub (Sub.ins (d := 7) (Sub.nil _) rfl)
            exact hs_val ha rfl rfl (x_move rfl) rfl rfl
          | 11, _ =>
            intro val w1 a hb ha hd
            have e9 : val 9 = .slice (some ⟨bm, om, none⟩) mv.length cm_ := hd 9 (memB_mem.1 rfl)
            have e10 : val 10 = .int .i64 (x : Nat) := hd 10 (memB_mem.1 rfl)
            have ha := ha.sub (Sub.ins (d := 64) (Sub.ins (d := 63) (Sub.nil _) (dep_get rfl e9)) (dep_get rfl e10))
            exact hs_val ha rfl rfl (ix_29 rfl rfl (show x < mv.length by omega)) rfl rfl
          | 12, _ =>
            intro val w1 a hb ha hd
            have e11 : val 11 = .pointer (some ⟨bm, om + x, none⟩) := hd 11 (memB_mem.1 rfl)
            have ha := ha.sub (Sub.ins (d := 65) (Sub.nil _) (dep_get rfl e11))
            exact hs_val ha rfl rfl (ld_3 rfl (below_load hb (below_load hbw mc))) rfl rfl
          | 13, _ =>
            intro val w1 a hb ha hd
            have e8 : val 8 = .int .i64 (((el.set y.fr.toNat (el.getD y.fr.toNat 0 - m))).getD y.to.toNat 0) := hd 8 (memB_mem.1 rfl)
            have e12 : val 12 = .int .i64 m := hd 12 (memB_mem.1 rfl)
            have ha := ha.sub (Sub.ins (d := 66) (Sub.ins (d := 62) (Sub.nil _) (dep_get rfl e8)) (dep_get rfl e12))
            exact hs_val ha rfl rfl (x_add rfl rfl (IntWalk.i64_in _ ⟨by omega, by omega⟩)) rfl rfl
          | k + 14, h => exact absurd h (by omega)
        · intro val wR10 hb halc hd
          have e0 : val 0 = .slice (some ⟨gl, 0, none⟩) nt.ports.length cl := hd 0 (by omega)
          have e1 : val 1 = .pointer (some ⟨g1, 1, none⟩) := hd 1 (by omega)
          have e2 : val 2 = .slice (some ⟨bw, ow, none⟩) nt.ways.length cw_ := hd 2 (by omega)
          have e3 : val 3 = .int .i64 (x : Nat) := hd 3 (by omega)
          have e4 : val 4 = .pointer (some ⟨bw, ow + x * 4, none⟩) := hd 4 (by omega)
          have e5 : val 5 = .pointer (some ⟨bw, ow + x * 4 + 1, none⟩) := hd 5 (by omega)
          have e6 : val 6 = .int .i64 y.to := hd 6 (by omega)
          have e7 : val 7 = .pointer (some ⟨gl, 0 + y.to.toNat, none⟩) := hd 7 (by omega)
          have e8 : val 8 = .int .i64 (((el.set y.fr.toNat (el.getD y.fr.toNat 0 - m))).getD y.to.toNat 0) := hd 8 (by omega)
          have e9 : val 9 = .slice (some ⟨bm, om, none⟩) mv.length cm_ := hd 9 (by omega)
          have e10 : val 10 = .int .i64 (x : Nat) := hd 10 (by omega)
          have e11 : val 11 = .pointer (some ⟨bm, om + x, none⟩) := hd 11 (by omega)
          have e12 : val 12 = .int .i64 m := hd 12 (by omega)
          have e13 : val 13 = .int .i64 ((el.set y.fr.toNat (el.getD y.fr.toNat 0 - m)).getD y.to.toNat 0 + m) := hd 13 (by omega)
          refine EL.ends (cs := [.slice (some ⟨gl, 0, none⟩) nt.ports.length cl, .pointer (some ⟨g1, 1, none⟩), .slice (some ⟨bw, ow, none⟩) nt.ways.length cw_, .int .i64 (x : Nat), .pointer (some ⟨bw, ow + x * 4, none⟩), .pointer (some ⟨bw, ow + x * 4 + 1, none⟩), .int .i64 y.to, .pointer (some ⟨gl, 0 + y.to.toNat, none⟩), .int .i64 (((el.set y.fr.toNat (el.getD y.fr.toNat 0 - m))).getD y.to.toNat 0), .slice (some ⟨bm, om, none⟩) mv.length cm_, .int .i64 (x : Nat), .pointer (some ⟨bm, om + x, none⟩), .int .i64 m, .int .i64 ((el.set y.fr.toNat (el.getD y.fr.toNat 0 - m)).getD y.to.toNat 0 + m)]) ⟨e0, e1, e2, e3, e4, e5, e6, e7, e8, e9, e10, e11, e12, e13, trivial⟩ rfl ?_
          replace q2x := q2x.below hb q2x.lt
          replace ho := own_below ho hb (Nat.le_refl _)
          replace hbw := Below.on hbw hb hbw.size
          clear hb
          refine EL.val (ix_29 rfl (by rw [← et]; rfl) (show y.to.toNat < nt.ports.length by omega)) rfl ?_
          refine EL.storeRow (l' := [.int .i64 ((el.set y.fr.toNat (el.getD y.fr.toNat 0 - m)).getD y.to.toNat 0 + m)]) rfl rfl ho sz_3 rfl rfl (by rw [ints_len, Nat.zero_add]; rw [List.length_set]; omega) rfl ?_
          intro w4 ho2 hgr
          rw [Nat.zero_add, spl_ints (by rw [List.length_set]; omega)] at ho2
          replace q2x := blk_grown q2x ho rfl hgr
          replace hbw := hbw.trans (below_row ho hgr hbw.size)
          clear ho hgr
          have ho := ho2
          clear ho2
          refine EL.nil ?_
          refine EX.blk ?_
          refine EX.seq ?_
          refine EC.region ?_
          refine EL.val (x_move rfl) rfl ?_
          refine EL.val (x_add rfl rfl (c := ((x + 1 : Nat) : Int)) ((IntWalk.i64_in _ ⟨by first | omega | (simp only; omega), by first | omega | (simp only; omega)⟩).trans (by first | omega | (simp only; omega)))) rfl ?_
          refine EL.val (x_assign rfl) rfl ?_
          refine EL.nil ?_
          refine EX.roundD (x + 1) ⟨rfl, trivial⟩ (by repeat first | with_reducible exact Sub.refl _ | refine sub_past rfl ?_ | exact Sub.refl _ | refine sub_del rfl ?_ | refine sub_insL_nil ?_) ⟨hlt, q2x, (by rw [hen]; exact ho), hbw⟩ (by omega)
    ·
      have hxe : x = nt.ways.length := by omega
      subst hxe
      refine EC.seq ?_
      refine EC.seq ?_
      refine EC.region ?_
      refine EL.val (x_move rfl) rfl ?_
      refine EL.val (fa_25_1 rfl) rfl ?_
      refine EL.val (ld_23 rfl (q2x.at (j := 1) rfl)) rfl ?_
      refine EL.val (ln_23 rfl) rfl ?_
      refine EL.val (x_lss rfl rfl (decide_eq_false (show ¬(((nt.ways.length : Nat) : Int) < ((nt.ways.length : Nat) : Int)) by omega))) rfl ?_
      refine EL.nil ?_
      refine EX.seq ?_
      refine EC.no rfl ?_
      refine EC.exit ?_
      refine EX.seq_exit ?_
      refine EX.seq_exit ?_
      refine EX.blk_here ?_
      refine EX.seq ?_
      refine EC.seq ?_
      refine EC.region ?_
      refine EL.val (x_move rfl) rfl ?_
      refine EL.val (x_assign rfl) rfl ?_
      refine EL.nil ?_
      refine EX.seq ?_
      refine EC.ret ?_
      exact EX.done (res1 rfl rfl) ⟨⟨_, rfl, ho⟩, hbw⟩
set_option maxHeartbeats 1000000 in
theorem rpossible_any (nt : Net) (mv : List Int) (vp vw vm : Value) (w : World) (B : Nat) (hr : RdNet w B vp vw nt) (hrm : Rd w B 1 vm mv.length (ints mv)) (hB : B ≤ w.heap.size) (hn : mv.length ≤ 1073741824) (hv : netB nt = true) :
    Calls Try.prog 19 #[.agg #[vp, vw], vm] w fun e w' => e = .returned (.int .i64 (aftErr nt mv)) ∧ Below w.heap.size w w' := by
  obtain ⟨Ap, cp_, rfl, _⟩ := hr.ports.shape
  obtain ⟨Aw, cw_, rfl, _⟩ := hr.ways.shape
  obtain ⟨Am, cm_, rfl, _⟩ := hrm.shape
  obtain ⟨⟨hp1, hp60⟩, hw300, hvp, hvw⟩ := netB_ok hv
  have hbw := Below.refl w.heap.size w
  refine EC.enter 46 Try.func19 rfl rfl rfl ?_
  refine EC.seq ?_
  refine EC.region ?_
  refine EL.newP (bx_25 rfl) rfl ?_
  intro g1 w1 q1 hb1 hg1 hl1
  have bhbw_1 := Nat.le_trans hbw.size hg1
  replace hbw := Below.on hbw hb1 hbw.size
  clear hb1 hg1 hl1
  refine EL.val (x_assign rfl) rfl ?_
  refine EL.nil ?_
  refine EX.seq ?_
  refine EC.seq ?_
  refine EC.seq ?_
  refine EC.region ?_
  refine EL.val (x_move rfl) rfl ?_
  refine EL.val (ln_29 rfl) rfl ?_
  refine EL.val (fa_25_1 rfl) rfl ?_
  refine EL.val (ld_23 rfl (q1.at (j := 1) rfl)) rfl ?_
  refine EL.val (ln_23 rfl) rfl ?_
  by_cases hlen : mv.length ≠ nt.ways.length
  ·
    refine EL.val (x_neq (r := true) rfl rfl (decide_eq_true (by omega))) rfl ?_
    refine EL.nil ?_
    refine EX.seq ?_
    refine EC.yes rfl ?_
    refine EC.seq ?_
    refine EC.region ?_
    refine EL.val (x_assign rfl) rfl ?_
    refine EL.nil ?_
    refine EX.seq ?_
    refine EC.ret ?_
    refine EX.seq_ret ?_
    exact EX.done (res1 rfl rfl) ⟨by rw [aft_len hlen], hbw⟩
  ·
    have hml : mv.length = nt.ways.length := by omega
    refine EL.val (x_neq (r := false) rfl rfl (decide_eq_false (by omega))) rfl ?_
    refine EL.nil ?_
    refine EX.seq ?_
    refine EC.no rfl ?_
    refine EC.skip ?_
    refine EX.seq ?_
    refine EC.seq ?_
    refine EC.seq ?_
    refine EC.region ?_
    refine EL.val (x_assign rfl) rfl ?_
    refine EL.nil ?_
    refine EX.seq ?_
    refine EC.block ?_
    refine EC.loopD [4, 5, 14, 15, 16, 17, 18, 19, 20, 21, 22, 23, 24, 25, 26, 27, 28, 29, 30, 31] (fun x : Nat => [(5, .int .i64 (x : Nat))]) (fun x W => x ≤ nt.ways.length ∧ okTo nt mv x = true ∧ Blk W g1 25 #[.slice Ap nt.ports.length cp_, .slice Aw nt.ways.length cw_] ∧ Below w.heap.size w W) (fun x => nt.ways.length - x) 0 ⟨Nat.zero_le _, rfl, q1, hbw⟩ ⟨rfl, trivial⟩ ?_
    clear q1 hbw
    rintro x wx ⟨hx, hok, q2x, hbw⟩
    by_cases hlt : x < nt.ways.length
    ·
      obtain ⟨bw, ow, e_, _, wc⟩ := ways_cells nt.ways x hlt _ _ _ _ _ hr.ways
      subst e_
      obtain ⟨bm, om, e_, _, mc⟩ := ints_cells mv x (by omega) _ _ _ _ _ hrm
      subst e_
      have hsu := okTo_succ (nt := nt) (mv := mv) (k := x)
      have hoa : okMv nt mv x = inB 0 (nt.ways.getD x way0).room (mv.getD x 0) := rfl
      cases hin : inB 0 (nt.ways.getD x way0).room (mv.getD x 0)
      ·
        refine EC.seq ?_
        refine EC.seq ?_
        refine EC.region ?_
        refine EL.val (x_move rfl) rfl ?_
        refine EL.val (x_move rfl) rfl ?_
        refine EL.val (ln_29 rfl) rfl ?_
        refine EL.val (x_lss rfl rfl (decide_eq_true (show (((x : Nat) : Int) < ((mv.length : Nat) : Int)) by omega))) rfl ?_
        refine EL.nil ?_
        refine EX.seq ?_
        refine EC.yes rfl ?_
        refine EC.skip ?_
        refine EX.seq ?_
        refine EC.seq ?_
        refine EC.block ?_
        refine EC.seq ?_
        refine EC.regionQ (by kernel_rfl) (by kernel_rfl) ?_
        refine EQ.val (fun _ hw => (x_move rfl)) rfl ?_
        refine EQ.val (fun _ hw => (x_move rfl)) rfl ?_
        refine EQ.val (fun _ hw => (ix_29 rfl rfl (show x < mv.length by omega))) rfl ?_
        refine EQ.val (fun _ hw => (ld_3 rfl (below_load hw (below_load hbw mc)))) rfl ?_
        refine EQ.val (fun _ hw => (fa_25_1 rfl)) rfl ?_
        refine EQ.val (fun _ hw => (ld_23 rfl (below_load hw (q2x.at (j := 1) rfl)))) rfl ?_
        refine EQ.val (fun _ hw => (x_move rfl)) rfl ?_
        refine EQ.val (fun _ hw => (ix_23 rfl rfl hlt)) rfl ?_
        refine EQ.val (fun _ hw => (fa_56_3 rfl)) rfl ?_
        refine EQ.val (fun _ hw => (ld_3 rfl (below_load hw (below_load hbw wc.c3)))) rfl ?_
        refine EQ.call (fun _ _ _ ha => cl_42 rfl rfl rfl _ ha) rfl (fun W hw => (rin_any W hin).mono fun e w' h => ⟨h.1, hw.trans (h.2.mono hw.size)⟩) ?_
        refine EQ.val (fun _ hw => (x_not rfl)) rfl ?_
        refine EQ.fin (fun w2 hw_ => ?_)
        replace q2x := q2x.below hw_ q2x.lt
        replace hbw := Below.on hbw hw_ hbw.size
        clear hw_
        refine EX.seq ?_
        refine EC.yes rfl ?_
        refine EC.seq ?_
        refine EC.region ?_
        refine EL.val (x_assign rfl) rfl ?_
        refine EL.nil ?_
        refine EX.seq ?_
        refine EC.ret ?_
        refine EX.blk_ret ?_
        refine EX.seq_ret ?_
        refine EX.seq_ret ?_
        refine EX.blk_ret ?_
        refine EX.seq_ret ?_
        exact EX.done (res1 rfl rfl) ⟨by rw [aft_range hlen (okTo_not hlt (hoa.trans hin))], hbw⟩
      ·
        refine EC.seq ?_
        refine EC.seq ?_
        refine EC.region ?_
        refine EL.val (x_move rfl) rfl ?_
        refine EL.val (x_move rfl) rfl ?_
        refine EL.val (ln_29 rfl) rfl ?_
        refine EL.val (x_lss rfl rfl (decide_eq_true (show (((x : Nat) : Int) < ((mv.length : Nat) : Int)) by omega))) rfl ?_
        refine EL.nil ?_
        refine EX.seq ?_
        refine EC.yes rfl ?_
        refine EC.skip ?_
        refine EX.seq ?_
        refine EC.seq ?_
        refine EC.block ?_
        refine EC.seq ?_
        refine EC.regionQ (by kernel_rfl) (by kernel_rfl) ?_
        refine EQ.val (fun _ hw => (x_move rfl)) rfl ?_
        refine EQ.val (fun _ hw => (x_move rfl)) rfl ?_
        refine EQ.val (fun _ hw => (ix_29 rfl rfl (show x < mv.length by omega))) rfl ?_
        refine EQ.val (fun _ hw => (ld_3 rfl (below_load hw (below_load hbw mc)))) rfl ?_
        refine EQ.val (fun _ hw => (fa_25_1 rfl)) rfl ?_
        refine EQ.val (fun _ hw => (ld_23 rfl (below_load hw (q2x.at (j := 1) rfl)))) rfl ?_
        refine EQ.val (fun _ hw => (x_move rfl)) rfl ?_
        refine EQ.val (fun _ hw => (ix_23 rfl rfl hlt)) rfl ?_
        refine EQ.val (fun _ hw => (fa_56_3 rfl)) rfl ?_
        refine EQ.val (fun _ hw => (ld_3 rfl (below_load hw (below_load hbw wc.c3)))) rfl ?_
        refine EQ.call (fun _ _ _ ha => cl_42 rfl rfl rfl _ ha) rfl (fun W hw => (rin_any W hin).mono fun e w' h => ⟨h.1, hw.trans (h.2.mono hw.size)⟩) ?_
        refine EQ.val (fun _ hw => (x_not rfl)) rfl ?_
        refine EQ.fin (fun w3 hw_ => ?_)
        replace q2x := q2x.below hw_ q2x.lt
        replace hbw := Below.on hbw hw_ hbw.size
        clear hw_
        refine EX.seq ?_
        refine EC.no rfl ?_
        refine EC.skip ?_
        refine EX.blk ?_
        refine EX.seq ?_
        refine EC.region ?_
        refine EL.val (x_move rfl) rfl ?_
        refine EL.val (x_add rfl rfl (c := ((x + 1 : Nat) : Int)) ((IntWalk.i64_in _ ⟨by first | omega | (simp only; omega), by first | omega | (simp only; omega)⟩).trans (by first | omega | (simp only; omega)))) rfl ?_
        refine EL.val (x_assign rfl) rfl ?_
        refine EL.nil ?_
        refine EX.roundD (x + 1) ⟨rfl, trivial⟩ (by repeat first | with_reducible exact Sub.refl _ | refine sub_past rfl ?_ | exact Sub.refl _ | refine sub_del rfl ?_ | refine sub_insL_nil ?_) ⟨hlt, (by rw [hsu, hok, hoa, hin]; rfl), q2x, hbw⟩ (by omega)
    ·
      have hxe : x = nt.ways.length := by omega
      subst hxe
      refine EC.seq ?_
      refine EC.seq ?_
      refine EC.region ?_
      refine EL.val (x_move rfl) rfl ?_
      refine EL.val (x_move rfl) rfl ?_
      refine EL.val (ln_29 rfl) rfl ?_
      refine EL.val (x_lss rfl rfl (decide_eq_false (show ¬(((nt.ways.length : Nat) : Int) < ((mv.length : Nat) : Int)) by omega))) rfl ?_
      refine EL.nil ?_
      refine EX.seq ?_
      refine EC.no rfl ?_
      refine EC.exit ?_
      refine EX.seq_exit ?_
      refine EX.seq_exit ?_
      refine EX.blk_here ?_
      refine EX.seq ?_
      refine EC.seq ?_
      refine EC.region ?_
      refine EL.val (ld_25 rfl (q2x.at (j := 0) rfl) (q2x.at (j := 1) rfl)) rfl ?_
      refine EL.val (x_move rfl) rfl ?_
      refine EL.call (cl_48 rfl rfl) rfl (rextra_any nt mv _ _ _ _ B (hr.below (hbw.mono hB)) (hrm.below (hbw.mono hB)) (Nat.le_trans hB hbw.size) hv hml hok) ?_
      rintro e w4 ⟨⟨ve, rfl, hex⟩, hc4⟩
      refine ⟨_, rfl, ?_⟩
      replace hex := own_less hex (Nat.zero_le _)
      have hel : (extL nt mv).length = nt.ports.length := extTo_len _
      replace q2x := q2x.below hc4 q2x.lt
      replace hbw := Below.on hbw hc4 hbw.size
      clear hc4
      obtain ⟨Ae, ce, rfl, _⟩ := (Rd.of_own hex).shape
      refine EL.val (x_assign rfl) rfl ?_
      refine EL.nil ?_
      refine EX.seq ?_
      refine EC.seq ?_
      refine EC.seq ?_
      refine EC.region ?_
      refine EL.val (x_assign rfl) rfl ?_
      refine EL.nil ?_
      refine EX.seq ?_
      refine EC.block ?_
      refine EC.loopD [4, 7, 35, 36, 37, 38, 39, 40, 41, 42, 43, 44, 45] (fun x : Nat => [(7, .int .i64 (x : Nat))]) (fun x W => x ≤ nt.ports.length ∧ ((extL nt mv).take x).any (fun y => decide (y < 0)) = false ∧ W.ownsRow 0 3 1 (.slice Ae nt.ports.length ce) nt.ports.length (ints (extL nt mv)) ∧ Below w.heap.size w W) (fun x => nt.ports.length - x) 0 ⟨Nat.zero_le _, rfl, hex, hbw⟩ ⟨rfl, trivial⟩ ?_
      clear q2x hex hbw
      rintro x wx ⟨hx, hno, hex, hbw⟩
      by_cases hlt : x < nt.ports.length
      ·
        obtain ⟨be, oe, e_, _, ec⟩ := ints_cells (extL nt mv) x (by omega) _ _ _ _ _ (Rd.of_own hex)
        subst e_
        have htk := any_take (p := fun y => decide (y < 0)) (d := 0) (show x < (extL nt mv).length by omega)
        rw [hno, Bool.false_or] at htk
        by_cases hng : (extL nt mv).getD x 0 < 0
        ·
          refine EC.seq ?_
          refine EC.seq ?_
          refine EC.region ?_
          refine EL.val (x_move rfl) rfl ?_
          refine EL.val (x_move rfl) rfl ?_
          refine EL.val (ln_29 rfl) rfl ?_
          refine EL.val (x_lss rfl rfl (decide_eq_true (show (((x : Nat) : Int) < ((nt.ports.length : Nat) : Int)) by omega))) rfl ?_
          refine EL.nil ?_
          refine EX.seq ?_
          refine EC.yes rfl ?_
          refine EC.skip ?_
          refine EX.seq ?_
          refine EC.seq ?_
          refine EC.block ?_
          refine EC.seq ?_
          refine EC.region ?_
          refine EL.val (x_move rfl) rfl ?_
          refine EL.val (x_move rfl) rfl ?_
          refine EL.val (ix_29 rfl rfl hlt) rfl ?_
          refine EL.val (ld_3 rfl ec) rfl ?_
          refine EL.val (x_lss (r := true) rfl rfl (decide_eq_true hng)) rfl ?_
          refine EL.nil ?_
          refine EX.seq ?_
          refine EC.yes rfl ?_
          refine EC.seq ?_
          refine EC.region ?_
          refine EL.val (x_assign rfl) rfl ?_
          refine EL.nil ?_
          refine EX.seq ?_
          refine EC.ret ?_
          refine EX.blk_ret ?_
          refine EX.seq_ret ?_
          refine EX.seq_ret ?_
          refine EX.blk_ret ?_
          refine EX.seq_ret ?_
          exact EX.done (res1 rfl rfl) ⟨by rw [aft_any hlen hok (any_at (d := 0) (by omega) (decide_eq_true hng))], hbw⟩
        ·
          refine EC.seq ?_
          refine EC.seq ?_
          refine EC.region ?_
          refine EL.val (x_move rfl) rfl ?_
          refine EL.val (x_move rfl) rfl ?_
          refine EL.val (ln_29 rfl) rfl ?_
          refine EL.val (x_lss rfl rfl (decide_eq_true (show (((x : Nat) : Int) < ((nt.ports.length : Nat) : Int)) by omega))) rfl ?_
          refine EL.nil ?_
          refine EX.seq ?_
          refine EC.yes rfl ?_
          refine EC.skip ?_
          refine EX.seq ?_
          refine EC.seq ?_
          refine EC.block ?_
          refine EC.seq ?_
          refine EC.region ?_
          refine EL.val (x_move rfl) rfl ?_
          refine EL.val (x_move rfl) rfl ?_
          refine EL.val (ix_29 rfl rfl hlt) rfl ?_
          refine EL.val (ld_3 rfl ec) rfl ?_
          refine EL.val (x_lss (r := false) rfl rfl (decide_eq_false hng)) rfl ?_
          refine EL.nil ?_
          refine EX.seq ?_
          refine EC.no rfl ?_
          refine EC.skip ?_
          refine EX.blk ?_
          refine EX.seq ?_
          refine EC.region ?_
          refine EL.val (x_move rfl) rfl ?_
          refine EL.val (x_add rfl rfl (c := ((x + 1 : Nat) : Int)) ((IntWalk.i64_in _ ⟨by first | omega | (simp only; omega), by first | omega | (simp only; omega)⟩).trans (by first | omega | (simp only; omega)))) rfl ?_
          refine EL.val (x_assign rfl) rfl ?_
          refine EL.nil ?_
          refine EX.roundD (x + 1) ⟨rfl, trivial⟩ (by repeat first | with_reducible exact Sub.refl _ | refine sub_past rfl ?_ | exact Sub.refl _ | refine sub_del rfl ?_ | refine sub_insL_nil ?_) ⟨hlt, htk.trans (decide_eq_false hng), hex, hbw⟩ (by omega)
      ·
        have hxe : x = nt.ports.length := by omega
        subst hxe
        rw [← hel, List.take_length] at hno
        refine EC.seq ?_
        refine EC.seq ?_
        refine EC.region ?_
        refine EL.val (x_move rfl) rfl ?_
        refine EL.val (x_move rfl) rfl ?_
        refine EL.val (ln_29 rfl) rfl ?_
        refine EL.val (x_lss rfl rfl (decide_eq_false (show ¬(((nt.ports.length : Nat) : Int) < ((nt.ports.length : Nat) : Int)) by omega))) rfl ?_
        refine EL.nil ?_
        refine EX.seq ?_
        refine EC.no rfl ?_
        refine EC.exit ?_
        refine EX.seq_exit ?_
        refine EX.seq_exit ?_
        refine EX.blk_here ?_
        refine EX.seq ?_
        refine EC.seq ?_
        refine EC.region ?_
        refine EL.val (x_assign rfl) rfl ?_
        refine EL.nil ?_
        refine EX.seq ?_
        refine EC.ret ?_
        exact EX.done (res1 rfl rfl) ⟨by rw [aft_ok hlen hok (by rw [hno]; decide)], hbw⟩
set_option maxHeartbeats 2000000 in
set_option maxRecDepth 100000 in
theorem rproves_any (nt : Net) (mv pr : List Int) (vp vw vm vr : Value) (w : World) (B : Nat) (hr : RdNet w B vp vw nt) (hrm : Rd w B 1 vm mv.length (ints mv)) (hrp : Rd w B 1 vr pr.length (ints pr)) (hB : B ≤ w.heap.size) (hv : netB nt = true) (ha : aftErr nt mv = 0) (hp0 : prErr nt pr = 0) :
    Calls Try.prog 22 #[.agg #[vp, vw], vm, vr] w fun e w' => e = .returned (.bool (provesB nt pr mv)) ∧ Below w.heap.size w w' := by
  obtain ⟨Ap, cp_, rfl, _⟩ := hr.ports.shape
  obtain ⟨Aw, cw_, rfl, _⟩ := hr.ways.shape
  obtain ⟨Am, cm_, rfl, _⟩ := hrm.shape
  obtain ⟨Ar, cr_, rfl, _⟩ := hrp.shape
  obtain ⟨⟨hp1, hp60⟩, hw300, hvp, hvw⟩ := netB_ok hv
  obtain ⟨hpl, hall⟩ := pr_zero hp0
  obtain ⟨hml, hok, _⟩ := aft_parts ha
  have hbw := Below.refl w.heap.size w
  refine EC.enter 80 Try.func22 rfl rfl rfl ?_
  refine EC.seq ?_
  refine EC.region ?_
  refine EL.newP (bx_25 rfl) rfl ?_
  intro g1 w1 q1 hb1 hg1 hl1
  have bhbw_1 := Nat.le_trans hbw.size hg1
  replace hbw := Below.on hbw hb1 hbw.size
  clear hb1 hg1 hl1
  refine EL.val (x_assign rfl) rfl ?_
  refine EL.nil ?_
  refine EX.seq ?_
  refine EC.seq ?_
  refine EC.region ?_
  refine EL.val (ld_25 rfl (q1.at (j := 0) rfl) (q1.at (j := 1) rfl)) rfl ?_
  refine EL.val (x_move rfl) rfl ?_
  refine EL.call (cl_48 rfl rfl) rfl (rextra_any nt mv _ _ _ _ B (hr.below (hbw.mono hB)) (hrm.below (hbw.mono hB)) (Nat.le_trans hB hbw.size) hv hml hok) ?_
  rintro e w2 ⟨⟨ve, rfl, hex⟩, hc2⟩
  refine ⟨_, rfl, ?_⟩
  replace hex := own_less hex (Nat.zero_le _)
  have hel : (extL nt mv).length = nt.ports.length := extTo_len _
  replace q1 := q1.below hc2 q1.lt
  replace hbw := Below.on hbw hc2 hbw.size
  clear hc2
  obtain ⟨Ae, ce, rfl, _⟩ := (Rd.of_own hex).shape
  refine EL.val (x_assign rfl) rfl ?_
  refine EL.nil ?_
  refine EX.seq ?_
  refine EC.seq ?_
  refine EC.seq ?_
  refine EC.region ?_
  refine EL.val (x_assign rfl) rfl ?_
  refine EL.nil ?_
  refine EX.seq ?_
  refine EC.block ?_
  refine EC.loopD [6, 8, 15, 16, 17, 18, 19, 20, 21, 22, 23, 24, 25, 26, 27, 28, 29, 30, 31, 32] (fun x : Nat => [(8, .int .i64 (x : Nat))]) (fun x W => x ≤ nt.ports.length ∧ (List.range x).all (prtP nt pr mv) = true ∧ Blk W g1 25 #[.slice Ap nt.ports.length cp_, .slice Aw nt.ways.length cw_] ∧ W.ownsRow 0 3 1 (.slice Ae nt.ports.length ce) nt.ports.length (ints (extL nt mv)) ∧ Below w.heap.size w W) (fun x => nt.ports.length - x) 0 ⟨Nat.zero_le _, rfl, q1, hex, hbw⟩ ⟨rfl, trivial⟩ ?_
  clear q1 hex hbw
  rintro x wx ⟨hx, hpp, q3x, hex, hbw⟩
  by_cases hlt : x < nt.ports.length
  ·
    obtain ⟨br, orr, e_, _, rc⟩ := ints_cells pr x (by omega) _ _ _ _ _ hrp
    subst e_
    obtain ⟨be, oe, e_, _, ec⟩ := ints_cells (extL nt mv) x (by omega) _ _ _ _ _ (Rd.of_own hex)
    subst e_
    have hpn := all_succ (p := prtP nt pr mv) (k := x)
    have hpx : prtP nt pr mv x = !(decide (0 < pr.getD x 0) && decide (0 < (extL nt mv).getD x 0)) := rfl
    rw [hpp, Bool.true_and] at hpn
    have hpa := pr_at hall x
    obtain ⟨p, ep⟩ : ∃ z, z = pr.getD x 0 := ⟨_, rfl⟩
    rw [← ep] at rc hpx hpa
    obtain ⟨ex, eex⟩ : ∃ z, z = (extL nt mv).getD x 0 := ⟨_, rfl⟩
    rw [← eex] at ec hpx
    by_cases h1 : 0 < ex
    ·
      by_cases h2 : 0 < p
      ·
        have hno : prtP nt pr mv x = false := by rw [hpx]; simp only [decide_eq_true (show (0 < p) by omega), decide_eq_true (show (0 < ex) by omega), Bool.and_true, Bool.true_and, Bool.and_false, Bool.false_and, Bool.not_true, Bool.not_false]
        refine EC.seq ?_
        refine EC.seq ?_
        refine EC.region ?_
        refine EL.val (x_move rfl) rfl ?_
        refine EL.val (x_move rfl) rfl ?_
        refine EL.val (ln_29 rfl) rfl ?_
        refine EL.val (x_lss rfl rfl (decide_eq_true (show (((x : Nat) : Int) < ((pr.length : Nat) : Int)) by omega))) rfl ?_
        refine EL.nil ?_
        refine EX.seq ?_
        refine EC.yes rfl ?_
        refine EC.skip ?_
        refine EX.seq ?_
        refine EC.seq ?_
        refine EC.block ?_
        refine EC.seq ?_
        refine EC.region ?_
        refine EL.val (x_move rfl) rfl ?_
        refine EL.val (x_move rfl) rfl ?_
        refine EL.val (ix_29 rfl rfl hlt) rfl ?_
        refine EL.val (ld_3 rfl ec) rfl ?_
        refine EL.val (x_gtr (r := true) rfl rfl (decide_eq_true (by omega))) rfl ?_
        refine EL.val (x_move rfl) rfl ?_
        refine EL.valg rfl rfl (x_move rfl) rfl ?_
        refine EL.valg rfl rfl (x_move rfl) rfl ?_
        refine EL.valg rfl rfl (ix_29 rfl rfl (show x < pr.length by omega)) rfl ?_
        refine EL.valg rfl rfl (ld_3 rfl (below_load hbw rc)) rfl ?_
        refine EL.valg rfl rfl (x_neq (r := true) rfl rfl (decide_eq_true (by omega))) rfl ?_
        refine EL.val (x_pick_t rfl rfl) rfl ?_
        refine EL.nil ?_
        refine EX.seq ?_
        refine EC.yes rfl ?_
        refine EC.seq ?_
        refine EC.region ?_
        refine EL.val (x_assign rfl) rfl ?_
        refine EL.nil ?_
        refine EX.seq ?_
        refine EC.ret ?_
        refine EX.blk_ret ?_
        refine EX.seq_ret ?_
        refine EX.seq_ret ?_
        refine EX.blk_ret ?_
        refine EX.seq_ret ?_
        exact EX.done (res1 rfl rfl) ⟨by rw [provesB, all_not hlt hno, Bool.and_false]; first | done | rfl, hbw⟩
      ·
        refine EC.seq ?_
        refine EC.seq ?_
        refine EC.region ?_
        refine EL.val (x_move rfl) rfl ?_
        refine EL.val (x_move rfl) rfl ?_
        refine EL.val (ln_29 rfl) rfl ?_
        refine EL.val (x_lss rfl rfl (decide_eq_true (show (((x : Nat) : Int) < ((pr.length : Nat) : Int)) by omega))) rfl ?_
        refine EL.nil ?_
        refine EX.seq ?_
        refine EC.yes rfl ?_
        refine EC.skip ?_
        refine EX.seq ?_
        refine EC.seq ?_
        refine EC.block ?_
        refine EC.seq ?_
        refine EC.region ?_
        refine EL.val (x_move rfl) rfl ?_
        refine EL.val (x_move rfl) rfl ?_
        refine EL.val (ix_29 rfl rfl hlt) rfl ?_
        refine EL.val (ld_3 rfl ec) rfl ?_
        refine EL.val (x_gtr (r := true) rfl rfl (decide_eq_true (by omega))) rfl ?_
        refine EL.val (x_move rfl) rfl ?_
        refine EL.valg rfl rfl (x_move rfl) rfl ?_
        refine EL.valg rfl rfl (x_move rfl) rfl ?_
        refine EL.valg rfl rfl (ix_29 rfl rfl (show x < pr.length by omega)) rfl ?_
        refine EL.valg rfl rfl (ld_3 rfl (below_load hbw rc)) rfl ?_
        refine EL.valg rfl rfl (x_neq (r := false) rfl rfl (decide_eq_false (by omega))) rfl ?_
        refine EL.val (x_pick_t rfl rfl) rfl ?_
        refine EL.nil ?_
        refine EX.seq ?_
        refine EC.no rfl ?_
        refine EC.skip ?_
        refine EX.blk ?_
        refine EX.seq ?_
        refine EC.region ?_
        refine EL.val (x_move rfl) rfl ?_
        refine EL.val (x_add rfl rfl (c := ((x + 1 : Nat) : Int)) ((IntWalk.i64_in _ ⟨by first | omega | (simp only; omega), by first | omega | (simp only; omega)⟩).trans (by first | omega | (simp only; omega)))) rfl ?_
        refine EL.val (x_assign rfl) rfl ?_
        refine EL.nil ?_
        refine EX.roundD (x + 1) ⟨rfl, trivial⟩ (by repeat first | with_reducible exact Sub.refl _ | refine sub_past rfl ?_ | exact Sub.refl _ | refine sub_del rfl ?_ | refine sub_insL_nil ?_) ⟨hlt, (by rw [hpn, hpx]; simp only [decide_eq_false (show ¬(0 < p) by omega), Bool.and_true, Bool.true_and, Bool.and_false, Bool.false_and, Bool.not_true, Bool.not_false]), q3x, hex, hbw⟩ (by omega)
    ·
      refine EC.seq ?_
      refine EC.seq ?_
      refine EC.region ?_
      refine EL.val (x_move rfl) rfl ?_
      refine EL.val (x_move rfl) rfl ?_
      refine EL.val (ln_29 rfl) rfl ?_
      refine EL.val (x_lss rfl rfl (decide_eq_true (show (((x : Nat) : Int) < ((pr.length : Nat) : Int)) by omega))) rfl ?_
      refine EL.nil ?_
      refine EX.seq ?_
      refine EC.yes rfl ?_
      refine EC.skip ?_
      refine EX.seq ?_
      refine EC.seq ?_
      refine EC.block ?_
      refine EC.seq ?_
      refine EC.region ?_
      refine EL.val (x_move rfl) rfl ?_
      refine EL.val (x_move rfl) rfl ?_
      refine EL.val (ix_29 rfl rfl hlt) rfl ?_
      refine EL.val (ld_3 rfl ec) rfl ?_
      refine EL.val (x_gtr (r := false) rfl rfl (decide_eq_false (by omega))) rfl ?_
      refine EL.val (x_move rfl) rfl ?_
      refine EL.skip rfl rfl rfl rfl ?_
      refine EL.skip rfl rfl rfl rfl ?_
      refine EL.skip rfl rfl rfl rfl ?_
      refine EL.skip rfl rfl rfl rfl ?_
      refine EL.skip rfl rfl rfl rfl ?_
      refine EL.val (x_pick_f rfl rfl) rfl ?_
      refine EL.nil ?_
      refine EX.seq ?_
      refine EC.no rfl ?_
      refine EC.skip ?_
      refine EX.blk ?_
      refine EX.seq ?_
      refine EC.region ?_
      refine EL.val (x_move rfl) rfl ?_
      refine EL.val (x_add rfl rfl (c := ((x + 1 : Nat) : Int)) ((IntWalk.i64_in _ ⟨by first | omega | (simp only; omega), by first | omega | (simp only; omega)⟩).trans (by first | omega | (simp only; omega)))) rfl ?_
      refine EL.val (x_assign rfl) rfl ?_
      refine EL.nil ?_
      refine EX.roundD (x + 1) ⟨rfl, trivial⟩ (by repeat first | with_reducible exact Sub.refl _ | refine sub_past rfl ?_ | exact Sub.refl _ | refine sub_del rfl ?_ | refine sub_insL_nil ?_) ⟨hlt, (by rw [hpn, hpx]; simp only [decide_eq_false (show ¬(0 < ex) by omega), Bool.and_true, Bool.true_and, Bool.and_false, Bool.false_and, Bool.not_true, Bool.not_false]), q3x, hex, hbw⟩ (by omega)
  ·
    have hxe : x = nt.ports.length := by omega
    subst hxe
    refine EC.seq ?_
    refine EC.seq ?_
    refine EC.region ?_
    refine EL.val (x_move rfl) rfl ?_
    refine EL.val (x_move rfl) rfl ?_
    refine EL.val (ln_29 rfl) rfl ?_
    refine EL.val (x_lss rfl rfl (decide_eq_false (show ¬(((nt.ports.length : Nat) : Int) < ((pr.length : Nat) : Int)) by omega))) rfl ?_
    refine EL.nil ?_
    refine EX.seq ?_
    refine EC.no rfl ?_
    refine EC.exit ?_
    refine EX.seq_exit ?_
    refine EX.seq_exit ?_
    refine EX.blk_here ?_
    refine EX.seq ?_
    refine EC.seq ?_
    refine EC.seq ?_
    refine EC.region ?_
    refine EL.val (x_assign rfl) rfl ?_
    refine EL.nil ?_
    refine EX.seq ?_
    refine EC.block ?_
    refine EC.loopD [6, 9, 10, 11, 33, 34, 35, 36, 37, 38, 39, 40, 41, 42, 43, 44, 45, 46, 47, 48, 49, 50, 51, 52, 53, 54, 55, 56, 57, 58, 59, 60, 61, 62, 63, 64, 65, 66, 67, 68, 69, 70, 71, 72, 73, 74, 75, 76, 77, 78, 79] (fun x : Nat => [(9, .int .i64 (x : Nat))]) (fun x W => x ≤ nt.ways.length ∧ (List.range x).all (wayP nt pr mv) = true ∧ Blk W g1 25 #[.slice Ap nt.ports.length cp_, .slice Aw nt.ways.length cw_] ∧ Below w.heap.size w W) (fun x => nt.ways.length - x) 0 ⟨Nat.zero_le _, rfl, q3x, hbw⟩ ⟨rfl, trivial⟩ ?_
    clear q3x hex hbw
    rintro x wx ⟨hx, hwp, q3x, hbw⟩
    by_cases hlt : x < nt.ways.length
    ·
      obtain ⟨bw, ow, e_, _, wc⟩ := ways_cells nt.ways x hlt _ _ _ _ _ hr.ways
      subst e_
      obtain ⟨bm, om, e_, _, mc⟩ := ints_cells mv x (by omega) _ _ _ _ _ hrm
      subst e_
      obtain ⟨⟨wf0, wf1⟩, ⟨wt0, wt1⟩, wne, ⟨wc0, wc1⟩, wr0, wr1⟩ := hvw x hlt
      have hmb := okTo_at hok hlt
      have hwn := all_succ (p := wayP nt pr mv) (k := x)
      have hwx : wayP nt pr mv x = (!(decide (gainW pr (nt.ways.getD x way0) < 0) && decide (0 < mv.getD x 0)) && !(decide (0 < gainW pr (nt.ways.getD x way0)) && decide (mv.getD x 0 < (nt.ways.getD x way0).room))) := rfl
      rw [hwp, Bool.true_and] at hwn
      obtain ⟨y, ey⟩ : ∃ z, z = nt.ways.getD x way0 := ⟨_, rfl⟩
      rw [← ey] at wc wf0 wf1 wt0 wt1 wne wc0 wc1 wr0 wr1 hwx hmb
      obtain ⟨m, em⟩ : ∃ z, z = mv.getD x 0 := ⟨_, rfl⟩
      rw [← em] at mc hwx hmb
      have ef : y.fr = ((y.fr.toNat : Nat) : Int) := by omega
      have et : y.to = ((y.to.toNat : Nat) : Int) := by omega
      obtain ⟨bt, ot, e_, _, ct⟩ := ints_cells pr y.to.toNat (by omega) _ _ _ _ _ hrp
      subst e_
      obtain ⟨bf, of_, e_, _, cf⟩ := ints_cells pr y.fr.toNat (by omega) _ _ _ _ _ hrp
      injection e_ with e_
      injection e_ with e1_ e2_
      subst e1_
      subst e2_
      have ht := pr_at hall y.to.toNat
      have hf := pr_at hall y.fr.toNat
      have hga : gainW pr y = pr.getD y.to.toNat 0 - pr.getD y.fr.toNat 0 - y.cost := rfl
      obtain ⟨ga, ega⟩ : ∃ z, z = gainW pr y := ⟨_, rfl⟩
      rw [← ega] at hwx hga
      by_cases h1 : ga < 0
      ·
        by_cases h2 : 0 < m
        ·
          have hno : wayP nt pr mv x = false := by rw [hwx]; simp only [decide_eq_true (show (ga < 0) by omega), decide_eq_true (show (0 < m) by omega), Bool.and_true, Bool.true_and, Bool.and_false, Bool.false_and, Bool.not_true, Bool.not_false]
          refine EC.seq ?_
          refine EC.seq ?_
          refine EC.region ?_
          refine EL.val (x_move rfl) rfl ?_
          refine EL.val (x_move rfl) rfl ?_
          refine EL.val (ln_29 rfl) rfl ?_
          refine EL.val (x_lss rfl rfl (decide_eq_true (show (((x : Nat) : Int) < ((mv.length : Nat) : Int)) by omega))) rfl ?_
          refine EL.nil ?_
          refine EX.seq ?_
          refine EC.yes rfl ?_
          refine EC.skip ?_
          refine EX.seq ?_
          refine EC.seq ?_
          refine EC.block ?_
          refine EC.seq ?_
          refine EC.region ?_
          refine EL.val (fa_25_1 rfl) rfl ?_
          refine EL.val (ld_23 rfl (q3x.at (j := 1) rfl)) rfl ?_
          refine EL.val (x_move rfl) rfl ?_
          refine EL.val (ix_23 rfl rfl hlt) rfl ?_
          refine EL.val (ld_56 rfl (below_load hbw wc.c0) (below_load hbw wc.c1) (below_load hbw wc.c2) (below_load hbw wc.c3)) rfl ?_
          refine EL.newP al_56 rfl ?_
          intro g3 w3 q3 hb3 hg3 hl3
          have n1_3 : g1 ≠ g3 := Nat.ne_of_lt (Nat.lt_of_lt_of_le q3x.lt hg3)
          have bhbw_3 := Nat.le_trans hbw.size hg3
          replace q3x := q3x.below hb3 q3x.lt
          replace hbw := Below.on hbw hb3 hbw.size
          clear hb3 hg3 hl3
          refine EL.store rfl rfl q3 sz_56 rfl rfl rfl rfl ?_
          intro w4 hq4 hg4
          replace q3x := q3x.grown hg4 (fun h => n1_3 (Option.some.inj h))
          replace hbw := below_store hbw hg4 bhbw_3
          replace q3 := hq4
          clear hg4 hq4
          refine EL.nil ?_
          refine EX.seq ?_
          refine EC.seq ?_
          refine EC.regionQ (by kernel_rfl) (by kernel_rfl) ?_
          refine EQ.val (fun _ hw => (x_move rfl)) rfl ?_
          refine EQ.val (fun _ hw => (fa_56_1 rfl)) rfl ?_
          refine EQ.val (fun _ hw => (ld_3 rfl (below_load hw (q3.at (j := 1) rfl)))) rfl ?_
          refine EQ.val (fun _ hw => (ix_29 rfl (by rw [← et]; rfl) (show y.to.toNat < pr.length by omega))) rfl ?_
          refine EQ.val (fun _ hw => (ld_3 rfl (below_load hw (below_load hbw ct)))) rfl ?_
          refine EQ.val (fun _ hw => (x_move rfl)) rfl ?_
          refine EQ.val (fun _ hw => (fa_56_0 rfl)) rfl ?_
          refine EQ.val (fun _ hw => (ld_3 rfl (below_load hw (q3.at (j := 0) rfl)))) rfl ?_
          refine EQ.val (fun _ hw => (ix_29 rfl (by rw [← ef]; rfl) (show y.fr.toNat < pr.length by omega))) rfl ?_
          refine EQ.val (fun _ hw => (ld_3 rfl (below_load hw (below_load hbw cf)))) rfl ?_
          refine EQ.val (fun _ hw => (x_sub rfl rfl (IntWalk.i64_in _ ⟨by omega, by omega⟩))) rfl ?_
          refine EQ.val (fun _ hw => (fa_56_2 rfl)) rfl ?_
          refine EQ.val (fun _ hw => (ld_3 rfl (below_load hw (q3.at (j := 2) rfl)))) rfl ?_
          refine EQ.val (fun _ hw => (x_sub rfl rfl (c := ga) ((IntWalk.i64_in _ ⟨by omega, by omega⟩).trans hga.symm))) rfl ?_
          refine EQ.val (fun _ hw => (x_assign rfl)) rfl ?_
          refine EQ.fin (fun w5 hw_ => ?_)
          replace q3x := q3x.below hw_ q3x.lt
          replace q3 := q3.below hw_ q3.lt
          replace hbw := Below.on hbw hw_ hbw.size
          clear hw_
          refine EX.seq ?_
          refine EC.seq ?_
          refine EC.regionQ (by kernel_rfl) (by kernel_rfl) ?_
          refine EQ.val (fun _ hw => (x_move rfl)) rfl ?_
          refine EQ.val (fun _ hw => (x_lss (r := true) rfl rfl (decide_eq_true (by omega)))) rfl ?_
          refine EQ.val (fun _ hw => (x_move rfl)) rfl ?_
          refine EQ.valg rfl rfl (fun _ hw => (x_move rfl)) rfl ?_
          refine EQ.valg rfl rfl (fun _ hw => (x_move rfl)) rfl ?_
          refine EQ.valg rfl rfl (fun _ hw => (ix_29 rfl rfl (show x < mv.length by omega))) rfl ?_
          refine EQ.valg rfl rfl (fun _ hw => (ld_3 rfl (below_load hw (below_load hbw mc)))) rfl ?_
          refine EQ.valg rfl rfl (fun _ hw => (x_neq (r := true) rfl rfl (decide_eq_true (by omega)))) rfl ?_
          refine EQ.val (fun _ hw => (x_pick_t rfl rfl)) rfl ?_
          refine EQ.val (fun _ hw => (x_move rfl)) rfl ?_
          refine EQ.skip rfl rfl rfl rfl ?_
          refine EQ.skip rfl rfl rfl rfl ?_
          refine EQ.skip rfl rfl rfl rfl ?_
          refine EQ.skip rfl rfl rfl rfl ?_
          refine EQ.skip rfl rfl rfl rfl ?_
          refine EQ.skip rfl rfl rfl rfl ?_
          refine EQ.skip rfl rfl rfl rfl ?_
          refine EQ.skip rfl rfl rfl rfl ?_
          refine EQ.skip rfl rfl rfl rfl ?_
          refine EQ.skip rfl rfl rfl rfl ?_
          refine EQ.skip rfl rfl rfl rfl ?_
          refine EQ.val (fun _ hw => (x_pick_t rfl rfl)) rfl ?_
          refine EQ.fin (fun w6 hw_ => ?_)
          replace q3x := q3x.below hw_ q3x.lt
          replace q3 := q3.below hw_ q3.lt
          replace hbw := Below.on hbw hw_ hbw.size
          clear hw_
          refine EX.seq ?_
          refine EC.yes rfl ?_
          refine EC.seq ?_
          refine EC.region ?_
          refine EL.val (x_assign rfl) rfl ?_
          refine EL.nil ?_
          refine EX.seq ?_
          refine EC.ret ?_
          refine EX.blk_ret ?_
          refine EX.seq_ret ?_
          refine EX.seq_ret ?_
          refine EX.blk_ret ?_
          refine EX.seq_ret ?_
          exact EX.done (res1 rfl rfl) ⟨by rw [provesB, all_not hlt hno]; first | done | rfl, hbw⟩
        ·
          refine EC.seq ?_
          refine EC.seq ?_
          refine EC.region ?_
          refine EL.val (x_move rfl) rfl ?_
          refine EL.val (x_move rfl) rfl ?_
          refine EL.val (ln_29 rfl) rfl ?_
          refine EL.val (x_lss rfl rfl (decide_eq_true (show (((x : Nat) : Int) < ((mv.length : Nat) : Int)) by omega))) rfl ?_
          refine EL.nil ?_
          refine EX.seq ?_
          refine EC.yes rfl ?_
          refine EC.skip ?_
          refine EX.seq ?_
          refine EC.seq ?_
          refine EC.block ?_
          refine EC.seq ?_
          refine EC.region ?_
          refine EL.val (fa_25_1 rfl) rfl ?_
          refine EL.val (ld_23 rfl (q3x.at (j := 1) rfl)) rfl ?_
          refine EL.val (x_move rfl) rfl ?_
          refine EL.val (ix_23 rfl rfl hlt) rfl ?_
          refine EL.val (ld_56 rfl (below_load hbw wc.c0) (below_load hbw wc.c1) (below_load hbw wc.c2) (below_load hbw wc.c3)) rfl ?_
          refine EL.newP al_56 rfl ?_
          intro g7 w7 q7 hb7 hg7 hl7
          have n1_7 : g1 ≠ g7 := Nat.ne_of_lt (Nat.lt_of_lt_of_le q3x.lt hg7)
          have bhbw_7 := Nat.le_trans hbw.size hg7
          replace q3x := q3x.below hb7 q3x.lt
          replace hbw := Below.on hbw hb7 hbw.size
          clear hb7 hg7 hl7
          refine EL.store rfl rfl q7 sz_56 rfl rfl rfl rfl ?_
          intro w8 hq8 hg8
          replace q3x := q3x.grown hg8 (fun h => n1_7 (Option.some.inj h))
          replace hbw := below_store hbw hg8 bhbw_7
          replace q7 := hq8
          clear hg8 hq8
          refine EL.nil ?_
          refine EX.seq ?_
          refine EC.seq ?_
          refine EC.regionQ (by kernel_rfl) (by kernel_rfl) ?_
          refine EQ.val (fun _ hw => (x_move rfl)) rfl ?_
          refine EQ.val (fun _ hw => (fa_56_1 rfl)) rfl ?_
          refine EQ.val (fun _ hw => (ld_3 rfl (below_load hw (q7.at (j := 1) rfl)))) rfl ?_
          refine EQ.val (fun _ hw => (ix_29 rfl (by rw [← et]; rfl) (show y.to.toNat < pr.length by omega))) rfl ?_
          refine EQ.val (fun _ hw => (ld_3 rfl (below_load hw (below_load hbw ct)))) rfl ?_
          refine EQ.val (fun _ hw => (x_move rfl)) rfl ?_
          refine EQ.val (fun _ hw => (fa_56_0 rfl)) rfl ?_
          refine EQ.val (fun _ hw => (ld_3 rfl (below_load hw (q7.at (j := 0) rfl)))) rfl ?_
          refine EQ.val (fun _ hw => (ix_29 rfl (by rw [← ef]; rfl) (show y.fr.toNat < pr.length by omega))) rfl ?_
          refine EQ.val (fun _ hw => (ld_3 rfl (below_load hw (below_load hbw cf)))) rfl ?_
          refine EQ.val (fun _ hw => (x_sub rfl rfl (IntWalk.i64_in _ ⟨by omega, by omega⟩))) rfl ?_
          refine EQ.val (fun _ hw => (fa_56_2 rfl)) rfl ?_
          refine EQ.val (fun _ hw => (ld_3 rfl (below_load hw (q7.at (j := 2) rfl)))) rfl ?_
          refine EQ.val (fun _ hw => (x_sub rfl rfl (c := ga) ((IntWalk.i64_in _ ⟨by omega, by omega⟩).trans hga.symm))) rfl ?_
          refine EQ.val (fun _ hw => (x_assign rfl)) rfl ?_
          refine EQ.fin (fun w9 hw_ => ?_)
          replace q3x := q3x.below hw_ q3x.lt
          replace q7 := q7.below hw_ q7.lt
          replace hbw := Below.on hbw hw_ hbw.size
          clear hw_
          refine EX.seq ?_
          refine EC.seq ?_
          refine EC.regionQ (by kernel_rfl) (by kernel_rfl) ?_
          refine EQ.val (fun _ hw => (x_move rfl)) rfl ?_
          refine EQ.val (fun _ hw => (x_lss (r := true) rfl rfl (decide_eq_true (by omega)))) rfl ?_
          refine EQ.val (fun _ hw => (x_move rfl)) rfl ?_
          refine EQ.valg rfl rfl (fun _ hw => (x_move rfl)) rfl ?_
          refine EQ.valg rfl rfl (fun _ hw => (x_move rfl)) rfl ?_
          refine EQ.valg rfl rfl (fun _ hw => (ix_29 rfl rfl (show x < mv.length by omega))) rfl ?_
          refine EQ.valg rfl rfl (fun _ hw => (ld_3 rfl (below_load hw (below_load hbw mc)))) rfl ?_
          refine EQ.valg rfl rfl (fun _ hw => (x_neq (r := false) rfl rfl (decide_eq_false (by omega)))) rfl ?_
          refine EQ.val (fun _ hw => (x_pick_t rfl rfl)) rfl ?_
          refine EQ.val (fun _ hw => (x_move rfl)) rfl ?_
          refine EQ.valg rfl rfl (fun _ hw => (x_move rfl)) rfl ?_
          refine EQ.valg rfl rfl (fun _ hw => (x_gtr (r := false) rfl rfl (decide_eq_false (by omega)))) rfl ?_
          refine EQ.valg rfl rfl (fun _ hw => (x_move rfl)) rfl ?_
          refine EQ.skip rfl rfl rfl rfl ?_
          refine EQ.skip rfl rfl rfl rfl ?_
          refine EQ.skip rfl rfl rfl rfl ?_
          refine EQ.skip rfl rfl rfl rfl ?_
          refine EQ.skip rfl rfl rfl rfl ?_
          refine EQ.skip rfl rfl rfl rfl ?_
          refine EQ.skip rfl rfl rfl rfl ?_
          refine EQ.valg rfl rfl (fun _ hw => (x_pick_f rfl rfl)) rfl ?_
          refine EQ.val (fun _ hw => (x_pick_f rfl rfl)) rfl ?_
          refine EQ.fin (fun w10 hw_ => ?_)
          replace q3x := q3x.below hw_ q3x.lt
          replace q7 := q7.below hw_ q7.lt
          replace hbw := Below.on hbw hw_ hbw.size
          clear hw_
          refine EX.seq ?_
          refine EC.no rfl ?_
          refine EC.skip ?_
          refine EX.blk ?_
          refine EX.seq ?_
          refine EC.region ?_
          refine EL.val (x_move rfl) rfl ?_
          refine EL.val (x_add rfl rfl (c := ((x + 1 : Nat) : Int)) ((IntWalk.i64_in _ ⟨by first | omega | (simp only; omega), by first | omega | (simp only; omega)⟩).trans (by first | omega | (simp only; omega)))) rfl ?_
          refine EL.val (x_assign rfl) rfl ?_
          refine EL.nil ?_
          refine EX.roundD (x + 1) ⟨rfl, trivial⟩ (by repeat first | with_reducible exact Sub.refl _ | refine sub_past rfl ?_ | exact Sub.refl _ | refine sub_del rfl ?_ | refine sub_insL_nil ?_) ⟨hlt, (by rw [hwn, hwx]; simp only [decide_eq_false (show ¬(0 < m) by omega), decide_eq_false (show ¬(0 < ga) by omega), Bool.and_true, Bool.true_and, Bool.and_false, Bool.false_and, Bool.not_true, Bool.not_false]), q3x, hbw⟩ (by omega)
      ·
        by_cases h3 : 0 < ga
        ·
          by_cases h4 : m < y.room
          ·
            have hno : wayP nt pr mv x = false := by rw [hwx]; simp only [decide_eq_true (show (0 < ga) by omega), decide_eq_true (show (m < y.room) by omega), Bool.and_true, Bool.true_and, Bool.and_false, Bool.false_and, Bool.not_true, Bool.not_false]
            refine EC.seq ?_
            refine EC.seq ?_
            refine EC.region ?_
            refine EL.val (x_move rfl) rfl ?_
            refine EL.val (x_move rfl) rfl ?_
            refine EL.val (ln_29 rfl) rfl ?_
            refine EL.val (x_lss rfl rfl (decide_eq_true (show (((x : Nat) : Int) < ((mv.length : Nat) : Int)) by omega))) rfl ?_
            refine EL.nil ?_
            refine EX.seq ?_
            refine EC.yes rfl ?_
            refine EC.skip ?_
            refine EX.seq ?_
            refine EC.seq ?_
            refine EC.block ?_
            refine EC.seq ?_
            refine EC.region ?_
            refine EL.val (fa_25_1 rfl) rfl ?_
            refine EL.val (ld_23 rfl (q3x.at (j := 1) rfl)) rfl ?_
            refine EL.val (x_move rfl) rfl ?_
            refine EL.val (ix_23 rfl rfl hlt) rfl ?_
            refine EL.val (ld_56 rfl (below_load hbw wc.c0) (below_load hbw wc.c1) (below_load hbw wc.c2) (below_load hbw wc.c3)) rfl ?_
            refine EL.newP al_56 rfl ?_
            intro g11 w11 q11 hb11 hg11 hl11
            have n1_11 : g1 ≠ g11 := Nat.ne_of_lt (Nat.lt_of_lt_of_le q3x.lt hg11)
            have bhbw_11 := Nat.le_trans hbw.size hg11
            replace q3x := q3x.below hb11 q3x.lt
            replace hbw := Below.on hbw hb11 hbw.size
            clear hb11 hg11 hl11
            refine EL.store rfl rfl q11 sz_56 rfl rfl rfl rfl ?_
            intro w12 hq12 hg12
            replace q3x := q3x.grown hg12 (fun h => n1_11 (Option.some.inj h))
            replace hbw := below_store hbw hg12 bhbw_11
            replace q11 := hq12
            clear hg12 hq12
            refine EL.nil ?_
            refine EX.seq ?_
            refine EC.seq ?_
            refine EC.regionQ (by kernel_rfl) (by kernel_rfl) ?_
            refine EQ.val (fun _ hw => (x_move rfl)) rfl ?_
            refine EQ.val (fun _ hw => (fa_56_1 rfl)) rfl ?_
            refine EQ.val (fun _ hw => (ld_3 rfl (below_load hw (q11.at (j := 1) rfl)))) rfl ?_
            refine EQ.val (fun _ hw => (ix_29 rfl (by rw [← et]; rfl) (show y.to.toNat < pr.length by omega))) rfl ?_
            refine EQ.val (fun _ hw => (ld_3 rfl (below_load hw (below_load hbw ct)))) rfl ?_
            refine EQ.val (fun _ hw => (x_move rfl)) rfl ?_
            refine EQ.val (fun _ hw => (fa_56_0 rfl)) rfl ?_
            refine EQ.val (fun _ hw => (ld_3 rfl (below_load hw (q11.at (j := 0) rfl)))) rfl ?_
            refine EQ.val (fun _ hw => (ix_29 rfl (by rw [← ef]; rfl) (show y.fr.toNat < pr.length by omega))) rfl ?_
            refine EQ.val (fun _ hw => (ld_3 rfl (below_load hw (below_load hbw cf)))) rfl ?_
            refine EQ.val (fun _ hw => (x_sub rfl rfl (IntWalk.i64_in _ ⟨by omega, by omega⟩))) rfl ?_
            refine EQ.val (fun _ hw => (fa_56_2 rfl)) rfl ?_
            refine EQ.val (fun _ hw => (ld_3 rfl (below_load hw (q11.at (j := 2) rfl)))) rfl ?_
            refine EQ.val (fun _ hw => (x_sub rfl rfl (c := ga) ((IntWalk.i64_in _ ⟨by omega, by omega⟩).trans hga.symm))) rfl ?_
            refine EQ.val (fun _ hw => (x_assign rfl)) rfl ?_
            refine EQ.fin (fun w13 hw_ => ?_)
            replace q3x := q3x.below hw_ q3x.lt
            replace q11 := q11.below hw_ q11.lt
            replace hbw := Below.on hbw hw_ hbw.size
            clear hw_
            refine EX.seq ?_
            refine EC.seq ?_
            refine EC.regionQ (by kernel_rfl) (by kernel_rfl) ?_
            refine EQ.val (fun _ hw => (x_move rfl)) rfl ?_
            refine EQ.val (fun _ hw => (x_lss (r := false) rfl rfl (decide_eq_false (by omega)))) rfl ?_
            refine EQ.val (fun _ hw => (x_move rfl)) rfl ?_
            refine EQ.skip rfl rfl rfl rfl ?_
            refine EQ.skip rfl rfl rfl rfl ?_
            refine EQ.skip rfl rfl rfl rfl ?_
            refine EQ.skip rfl rfl rfl rfl ?_
            refine EQ.skip rfl rfl rfl rfl ?_
            refine EQ.val (fun _ hw => (x_pick_f rfl rfl)) rfl ?_
            refine EQ.val (fun _ hw => (x_move rfl)) rfl ?_
            refine EQ.valg rfl rfl (fun _ hw => (x_move rfl)) rfl ?_
            refine EQ.valg rfl rfl (fun _ hw => (x_gtr (r := true) rfl rfl (decide_eq_true (by omega)))) rfl ?_
            refine EQ.valg rfl rfl (fun _ hw => (x_move rfl)) rfl ?_
            refine EQ.valg rfl rfl (fun _ hw => (x_move rfl)) rfl ?_
            refine EQ.valg rfl rfl (fun _ hw => (x_move rfl)) rfl ?_
            refine EQ.valg rfl rfl (fun _ hw => (ix_29 rfl rfl (show x < mv.length by omega))) rfl ?_
            refine EQ.valg rfl rfl (fun _ hw => (ld_3 rfl (below_load hw (below_load hbw mc)))) rfl ?_
            refine EQ.valg rfl rfl (fun _ hw => (fa_56_3 rfl)) rfl ?_
            refine EQ.valg rfl rfl (fun _ hw => (ld_3 rfl (below_load hw (q11.at (j := 3) rfl)))) rfl ?_
            refine EQ.valg rfl rfl (fun _ hw => (x_neq (r := true) rfl rfl (decide_eq_true (by omega)))) rfl ?_
            refine EQ.valg rfl rfl (fun _ hw => (x_pick_t rfl rfl)) rfl ?_
            refine EQ.val (fun _ hw => (x_pick_f rfl rfl)) rfl ?_
            refine EQ.fin (fun w14 hw_ => ?_)
            replace q3x := q3x.below hw_ q3x.lt
            replace q11 := q11.below hw_ q11.lt
            replace hbw := Below.on hbw hw_ hbw.size
            clear hw_
            refine EX.seq ?_
            refine EC.yes rfl ?_
            refine EC.seq ?_
            refine EC.region ?_
            refine EL.val (x_assign rfl) rfl ?_
            refine EL.nil ?_
            refine EX.seq ?_
            refine EC.ret ?_
            refine EX.blk_ret ?_
            refine EX.seq_ret ?_
            refine EX.seq_ret ?_
            refine EX.blk_ret ?_
            refine EX.seq_ret ?_
            exact EX.done (res1 rfl rfl) ⟨by rw [provesB, all_not hlt hno]; first | done | rfl, hbw⟩
          ·
            refine EC.seq ?_
            refine EC.seq ?_
            refine EC.region ?_
            refine EL.val (x_move rfl) rfl ?_
            refine EL.val (x_move rfl) rfl ?_
            refine EL.val (ln_29 rfl) rfl ?_
            refine EL.val (x_lss rfl rfl (decide_eq_true (show (((x : Nat) : Int) < ((mv.length : Nat) : Int)) by omega))) rfl ?_
            refine EL.nil ?_
            refine EX.seq ?_
            refine EC.yes rfl ?_
            refine EC.skip ?_
            refine EX.seq ?_
            refine EC.seq ?_
            refine EC.block ?_
            refine EC.seq ?_
            refine EC.region ?_
            refine EL.val (fa_25_1 rfl) rfl ?_
            refine EL.val (ld_23 rfl (q3x.at (j := 1) rfl)) rfl ?_
            refine EL.val (x_move rfl) rfl ?_
            refine EL.val (ix_23 rfl rfl hlt) rfl ?_
            refine EL.val (ld_56 rfl (below_load hbw wc.c0) (below_load hbw wc.c1) (below_load hbw wc.c2) (below_load hbw wc.c3)) rfl ?_
            refine EL.newP al_56 rfl ?_
            intro g15 w15 q15 hb15 hg15 hl15
            have n1_15 : g1 ≠ g15 := Nat.ne_of_lt (Nat.lt_of_lt_of_le q3x.lt hg15)
            have bhbw_15 := Nat.le_trans hbw.size hg15
            replace q3x := q3x.below hb15 q3x.lt
            replace hbw := Below.on hbw hb15 hbw.size
            clear hb15 hg15 hl15
            refine EL.store rfl rfl q15 sz_56 rfl rfl rfl rfl ?_
            intro w16 hq16 hg16
            replace q3x := q3x.grown hg16 (fun h => n1_15 (Option.some.inj h))
            replace hbw := below_store hbw hg16 bhbw_15
            replace q15 := hq16
            clear hg16 hq16
            refine EL.nil ?_
            refine EX.seq ?_
            refine EC.seq ?_
            refine EC.regionQ (by kernel_rfl) (by kernel_rfl) ?_
            refine EQ.val (fun _ hw => (x_move rfl)) rfl ?_
            refine EQ.val (fun _ hw => (fa_56_1 rfl)) rfl ?_
            refine EQ.val (fun _ hw => (ld_3 rfl (below_load hw (q15.at (j := 1) rfl)))) rfl ?_
            refine EQ.val (fun _ hw => (ix_29 rfl (by rw [← et]; rfl) (show y.to.toNat < pr.length by omega))) rfl ?_
            refine EQ.val (fun _ hw => (ld_3 rfl (below_load hw (below_load hbw ct)))) rfl ?_
            refine EQ.val (fun _ hw => (x_move rfl)) rfl ?_
            refine EQ.val (fun _ hw => (fa_56_0 rfl)) rfl ?_
            refine EQ.val (fun _ hw => (ld_3 rfl (below_load hw (q15.at (j := 0) rfl)))) rfl ?_
            refine EQ.val (fun _ hw => (ix_29 rfl (by rw [← ef]; rfl) (show y.fr.toNat < pr.length by omega))) rfl ?_
            refine EQ.val (fun _ hw => (ld_3 rfl (below_load hw (below_load hbw cf)))) rfl ?_
            refine EQ.val (fun _ hw => (x_sub rfl rfl (IntWalk.i64_in _ ⟨by omega, by omega⟩))) rfl ?_
            refine EQ.val (fun _ hw => (fa_56_2 rfl)) rfl ?_
            refine EQ.val (fun _ hw => (ld_3 rfl (below_load hw (q15.at (j := 2) rfl)))) rfl ?_
            refine EQ.val (fun _ hw => (x_sub rfl rfl (c := ga) ((IntWalk.i64_in _ ⟨by omega, by omega⟩).trans hga.symm))) rfl ?_
            refine EQ.val (fun _ hw => (x_assign rfl)) rfl ?_
            refine EQ.fin (fun w17 hw_ => ?_)
            replace q3x := q3x.below hw_ q3x.lt
            replace q15 := q15.below hw_ q15.lt
            replace hbw := Below.on hbw hw_ hbw.size
            clear hw_
            refine EX.seq ?_
            refine EC.seq ?_
            refine EC.regionQ (by kernel_rfl) (by kernel_rfl) ?_
            refine EQ.val (fun _ hw => (x_move rfl)) rfl ?_
            refine EQ.val (fun _ hw => (x_lss (r := false) rfl rfl (decide_eq_false (by omega)))) rfl ?_
            refine EQ.val (fun _ hw => (x_move rfl)) rfl ?_
            refine EQ.skip rfl rfl rfl rfl ?_
            refine EQ.skip rfl rfl rfl rfl ?_
            refine EQ.skip rfl rfl rfl rfl ?_
            refine EQ.skip rfl rfl rfl rfl ?_
            refine EQ.skip rfl rfl rfl rfl ?_
            refine EQ.val (fun _ hw => (x_pick_f rfl rfl)) rfl ?_
            refine EQ.val (fun _ hw => (x_move rfl)) rfl ?_
            refine EQ.valg rfl rfl (fun _ hw => (x_move rfl)) rfl ?_
            refine EQ.valg rfl rfl (fun _ hw => (x_gtr (r := true) rfl rfl (decide_eq_true (by omega)))) rfl ?_
            refine EQ.valg rfl rfl (fun _ hw => (x_move rfl)) rfl ?_
            refine EQ.valg rfl rfl (fun _ hw => (x_move rfl)) rfl ?_
            refine EQ.valg rfl rfl (fun _ hw => (x_move rfl)) rfl ?_
            refine EQ.valg rfl rfl (fun _ hw => (ix_29 rfl rfl (show x < mv.length by omega))) rfl ?_
            refine EQ.valg rfl rfl (fun _ hw => (ld_3 rfl (below_load hw (below_load hbw mc)))) rfl ?_
            refine EQ.valg rfl rfl (fun _ hw => (fa_56_3 rfl)) rfl ?_
            refine EQ.valg rfl rfl (fun _ hw => (ld_3 rfl (below_load hw (q15.at (j := 3) rfl)))) rfl ?_
            refine EQ.valg rfl rfl (fun _ hw => (x_neq (r := false) rfl rfl (decide_eq_false (by omega)))) rfl ?_
            refine EQ.valg rfl rfl (fun _ hw => (x_pick_t rfl rfl)) rfl ?_
            refine EQ.val (fun _ hw => (x_pick_f rfl rfl)) rfl ?_
            refine EQ.fin (fun w18 hw_ => ?_)
            replace q3x := q3x.below hw_ q3x.lt
            replace q15 := q15.below hw_ q15.lt
            replace hbw := Below.on hbw hw_ hbw.size
            clear hw_
            refine EX.seq ?_
            refine EC.no rfl ?_
            refine EC.skip ?_
            refine EX.blk ?_
            refine EX.seq ?_
            refine EC.region ?_
            refine EL.val (x_move rfl) rfl ?_
            refine EL.val (x_add rfl rfl (c := ((x + 1 : Nat) : Int)) ((IntWalk.i64_in _ ⟨by first | omega | (simp only; omega), by first | omega | (simp only; omega)⟩).trans (by first | omega | (simp only; omega)))) rfl ?_
            refine EL.val (x_assign rfl) rfl ?_
            refine EL.nil ?_
            refine EX.roundD (x + 1) ⟨rfl, trivial⟩ (by repeat first | with_reducible exact Sub.refl _ | refine sub_past rfl ?_ | exact Sub.refl _ | refine sub_del rfl ?_ | refine sub_insL_nil ?_) ⟨hlt, (by rw [hwn, hwx]; simp only [decide_eq_false (show ¬(ga < 0) by omega), decide_eq_false (show ¬(m < y.room) by omega), Bool.and_true, Bool.true_and, Bool.and_false, Bool.false_and, Bool.not_true, Bool.not_false]), q3x, hbw⟩ (by omega)
        ·
          refine EC.seq ?_
          refine EC.seq ?_
          refine EC.region ?_
          refine EL.val (x_move rfl) rfl ?_
          refine EL.val (x_move rfl) rfl ?_
          refine EL.val (ln_29 rfl) rfl ?_
          refine EL.val (x_lss rfl rfl (decide_eq_true (show (((x : Nat) : Int) < ((mv.length : Nat) : Int)) by omega))) rfl ?_
          refine EL.nil ?_
          refine EX.seq ?_
          refine EC.yes rfl ?_
          refine EC.skip ?_
          refine EX.seq ?_
          refine EC.seq ?_
          refine EC.block ?_
          refine EC.seq ?_
          refine EC.region ?_
          refine EL.val (fa_25_1 rfl) rfl ?_
          refine EL.val (ld_23 rfl (q3x.at (j := 1) rfl)) rfl ?_
          refine EL.val (x_move rfl) rfl ?_
          refine EL.val (ix_23 rfl rfl hlt) rfl ?_
          refine EL.val (ld_56 rfl (below_load hbw wc.c0) (below_load hbw wc.c1) (below_load hbw wc.c2) (below_load hbw wc.c3)) rfl ?_
          refine EL.newP al_56 rfl ?_
          intro g19 w19 q19 hb19 hg19 hl19
          have n1_19 : g1 ≠ g19 := Nat.ne_of_lt (Nat.lt_of_lt_of_le q3x.lt hg19)
          have bhbw_19 := Nat.le_trans hbw.size hg19
          replace q3x := q3x.below hb19 q3x.lt
          replace hbw := Below.on hbw hb19 hbw.size
          clear hb19 hg19 hl19
          refine EL.store rfl rfl q19 sz_56 rfl rfl rfl rfl ?_
          intro w20 hq20 hg20
          replace q3x := q3x.grown hg20 (fun h => n1_19 (Option.some.inj h))
          replace hbw := below_store hbw hg20 bhbw_19
          replace q19 := hq20
          clear hg20 hq20
          refine EL.nil ?_
          refine EX.seq ?_
          refine EC.seq ?_
          refine EC.regionQ (by kernel_rfl) (by kernel_rfl) ?_
          refine EQ.val (fun _ hw => (x_move rfl)) rfl ?_
          refine EQ.val (fun _ hw => (fa_56_1 rfl)) rfl ?_
          refine EQ.val (fun _ hw => (ld_3 rfl (below_load hw (q19.at (j := 1) rfl)))) rfl ?_
          refine EQ.val (fun _ hw => (ix_29 rfl (by rw [← et]; rfl) (show y.to.toNat < pr.length by omega))) rfl ?_
          refine EQ.val (fun _ hw => (ld_3 rfl (below_load hw (below_load hbw ct)))) rfl ?_
          refine EQ.val (fun _ hw => (x_move rfl)) rfl ?_
          refine EQ.val (fun _ hw => (fa_56_0 rfl)) rfl ?_
          refine EQ.val (fun _ hw => (ld_3 rfl (below_load hw (q19.at (j := 0) rfl)))) rfl ?_
          refine EQ.val (fun _ hw => (ix_29 rfl (by rw [← ef]; rfl) (show y.fr.toNat < pr.length by omega))) rfl ?_
          refine EQ.val (fun _ hw => (ld_3 rfl (below_load hw (below_load hbw cf)))) rfl ?_
          refine EQ.val (fun _ hw => (x_sub rfl rfl (IntWalk.i64_in _ ⟨by omega, by omega⟩))) rfl ?_
          refine EQ.val (fun _ hw => (fa_56_2 rfl)) rfl ?_
          refine EQ.val (fun _ hw => (ld_3 rfl (below_load hw (q19.at (j := 2) rfl)))) rfl ?_
          refine EQ.val (fun _ hw => (x_sub rfl rfl (c := ga) ((IntWalk.i64_in _ ⟨by omega, by omega⟩).trans hga.symm))) rfl ?_
          refine EQ.val (fun _ hw => (x_assign rfl)) rfl ?_
          refine EQ.fin (fun w21 hw_ => ?_)
          replace q3x := q3x.below hw_ q3x.lt
          replace q19 := q19.below hw_ q19.lt
          replace hbw := Below.on hbw hw_ hbw.size
          clear hw_
          refine EX.seq ?_
          refine EC.seq ?_
          refine EC.regionQ (by kernel_rfl) (by kernel_rfl) ?_
          refine EQ.val (fun _ hw => (x_move rfl)) rfl ?_
          refine EQ.val (fun _ hw => (x_lss (r := false) rfl rfl (decide_eq_false (by omega)))) rfl ?_
          refine EQ.val (fun _ hw => (x_move rfl)) rfl ?_
          refine EQ.skip rfl rfl rfl rfl ?_
          refine EQ.skip rfl rfl rfl rfl ?_
          refine EQ.skip rfl rfl rfl rfl ?_
          refine EQ.skip rfl rfl rfl rfl ?_
          refine EQ.skip rfl rfl rfl rfl ?_
          refine EQ.val (fun _ hw => (x_pick_f rfl rfl)) rfl ?_
          refine EQ.val (fun _ hw => (x_move rfl)) rfl ?_
          refine EQ.valg rfl rfl (fun _ hw => (x_move rfl)) rfl ?_
          refine EQ.valg rfl rfl (fun _ hw => (x_gtr (r := false) rfl rfl (decide_eq_false (by omega)))) rfl ?_
          refine EQ.valg rfl rfl (fun _ hw => (x_move rfl)) rfl ?_
          refine EQ.skip rfl rfl rfl rfl ?_
          refine EQ.skip rfl rfl rfl rfl ?_
          refine EQ.skip rfl rfl rfl rfl ?_
          refine EQ.skip rfl rfl rfl rfl ?_
          refine EQ.skip rfl rfl rfl rfl ?_
          refine EQ.skip rfl rfl rfl rfl ?_
          refine EQ.skip rfl rfl rfl rfl ?_
          refine EQ.valg rfl rfl (fun _ hw => (x_pick_f rfl rfl)) rfl ?_
          refine EQ.val (fun _ hw => (x_pick_f rfl rfl)) rfl ?_
          refine EQ.fin (fun w22 hw_ => ?_)
          replace q3x := q3x.below hw_ q3x.lt
          replace q19 := q19.below hw_ q19.lt
          replace hbw := Below.on hbw hw_ hbw.size
          clear hw_
          refine EX.seq ?_
          refine EC.no rfl ?_
          refine EC.skip ?_
          refine EX.blk ?_
          refine EX.seq ?_
          refine EC.region ?_
          refine EL.val (x_move rfl) rfl ?_
          refine EL.val (x_add rfl rfl (c := ((x + 1 : Nat) : Int)) ((IntWalk.i64_in _ ⟨by first | omega | (simp only; omega), by first | omega | (simp only; omega)⟩).trans (by first | omega | (simp only; omega)))) rfl ?_
          refine EL.val (x_assign rfl) rfl ?_
          refine EL.nil ?_
          refine EX.roundD (x + 1) ⟨rfl, trivial⟩ (by repeat first | with_reducible exact Sub.refl _ | refine sub_past rfl ?_ | exact Sub.refl _ | refine sub_del rfl ?_ | refine sub_insL_nil ?_) ⟨hlt, (by rw [hwn, hwx]; simp only [decide_eq_false (show ¬(ga < 0) by omega), decide_eq_false (show ¬(0 < ga) by omega), Bool.and_true, Bool.true_and, Bool.and_false, Bool.false_and, Bool.not_true, Bool.not_false]), q3x, hbw⟩ (by omega)
    ·
      have hxe : x = nt.ways.length := by omega
      subst hxe
      refine EC.seq ?_
      refine EC.seq ?_
      refine EC.region ?_
      refine EL.val (x_move rfl) rfl ?_
      refine EL.val (x_move rfl) rfl ?_
      refine EL.val (ln_29 rfl) rfl ?_
      refine EL.val (x_lss rfl rfl (decide_eq_false (show ¬(((nt.ways.length : Nat) : Int) < ((mv.length : Nat) : Int)) by omega))) rfl ?_
      refine EL.nil ?_
      refine EX.seq ?_
      refine EC.no rfl ?_
      refine EC.exit ?_
      refine EX.seq_exit ?_
      refine EX.seq_exit ?_
      refine EX.blk_here ?_
      refine EX.seq ?_
      refine EC.seq ?_
      refine EC.region ?_
      refine EL.val (x_assign rfl) rfl ?_
      refine EL.nil ?_
      refine EX.seq ?_
      refine EC.ret ?_
      exact EX.done (res1 rfl rfl) ⟨by rw [provesB, hwp, hpp]; first | done | rfl, hbw⟩
end Go.Proofs.Ytabgmnmpdjnjoaa
set_option linter.unusedVariables false
set_option linter.unusedSimpArgs false
namespace Go.Proofs.Ytabgmnmpdjnjoaa
open Go Go.RowKit
section
variable {n : Nat} {σ : Sg} {w : World} {dst : Option Tmp} {ty : TypeId} {pos : String} {af : Array Edge} {g : Option (Nat × Bool)} {x y z : Operand} {at' : Array TypeId}
theorem cl_29 {x0 : Operand} {v0 : Value} (h0 : evS σ x0 = some v0) (a : Act) (ha : Env n σ a) : (execOp a.eval ⟨dst, .call { callee := .value (.func 29), args := #[x0], argTypes := at' }, ty, pos, af, g⟩).run Try.prog w = .ok (.enter 29 #[v0]) w := by
  simp only [execOp, resolve, List.map_toArray, List.map_cons, List.map_nil, ha.eval h0]
  simp [go_sem, Act.eval]
theorem cl_13  (a : Act) (_ : Env n σ a) : (execOp a.eval ⟨dst, .call { callee := .value (.func 13), args := #[], argTypes := at' }, ty, pos, af, g⟩).run Try.prog w = .ok (.enter 13 #[]) w := by
  simp only [execOp, resolve, List.map_toArray, List.map_nil]
  simp [go_sem, Act.eval]
theorem cl_14 {x0 : Operand} {v0 : Value} (h0 : evS σ x0 = some v0) (a : Act) (ha : Env n σ a) : (execOp a.eval ⟨dst, .call { callee := .value (.func 14), args := #[x0], argTypes := at' }, ty, pos, af, g⟩).run Try.prog w = .ok (.enter 14 #[v0]) w := by
  simp only [execOp, resolve, List.map_toArray, List.map_cons, List.map_nil, ha.eval h0]
  simp [go_sem, Act.eval]
theorem cl_30 {x0 : Operand} {v0 : Value} (h0 : evS σ x0 = some v0) (a : Act) (ha : Env n σ a) : (execOp a.eval ⟨dst, .call { callee := .value (.func 30), args := #[x0], argTypes := at' }, ty, pos, af, g⟩).run Try.prog w = .ok (.enter 30 #[v0]) w := by
  simp only [execOp, resolve, List.map_toArray, List.map_cons, List.map_nil, ha.eval h0]
  simp [go_sem, Act.eval]
theorem cl_25 {x0 x1 : Operand} {v0 v1 : Value} (h0 : evS σ x0 = some v0) (h1 : evS σ x1 = some v1) (a : Act) (ha : Env n σ a) : (execOp a.eval ⟨dst, .call { callee := .value (.func 25), args := #[x0, x1], argTypes := at' }, ty, pos, af, g⟩).run Try.prog w = .ok (.enter 25 #[v0, v1]) w := by
  simp only [execOp, resolve, List.map_toArray, List.map_cons, List.map_nil, ha.eval h0, ha.eval h1]
  simp [go_sem, Act.eval]
theorem cl_17 {x0 : Operand} {v0 : Value} (h0 : evS σ x0 = some v0) (a : Act) (ha : Env n σ a) : (execOp a.eval ⟨dst, .call { callee := .value (.func 17), args := #[x0], argTypes := at' }, ty, pos, af, g⟩).run Try.prog w = .ok (.enter 17 #[v0]) w := by
  simp only [execOp, resolve, List.map_toArray, List.map_cons, List.map_nil, ha.eval h0]
  simp [go_sem, Act.eval]
theorem cl_19 {x0 x1 : Operand} {v0 v1 : Value} (h0 : evS σ x0 = some v0) (h1 : evS σ x1 = some v1) (a : Act) (ha : Env n σ a) : (execOp a.eval ⟨dst, .call { callee := .value (.func 19), args := #[x0, x1], argTypes := at' }, ty, pos, af, g⟩).run Try.prog w = .ok (.enter 19 #[v0, v1]) w := by
  simp only [execOp, resolve, List.map_toArray, List.map_cons, List.map_nil, ha.eval h0, ha.eval h1]
  simp [go_sem, Act.eval]
theorem cl_33 {x0 x1 x2 : Operand} {v0 v1 v2 : Value} (h0 : evS σ x0 = some v0) (h1 : evS σ x1 = some v1) (h2 : evS σ x2 = some v2) (a : Act) (ha : Env n σ a) : (execOp a.eval ⟨dst, .call { callee := .value (.func 33), args := #[x0, x1, x2], argTypes := at' }, ty, pos, af, g⟩).run Try.prog w = .ok (.enter 33 #[v0, v1, v2]) w := by
  simp only [execOp, resolve, List.map_toArray, List.map_cons, List.map_nil, ha.eval h0, ha.eval h1, ha.eval h2]
  simp [go_sem, Act.eval]
theorem cl_20 {x0 x1 : Operand} {v0 v1 : Value} (h0 : evS σ x0 = some v0) (h1 : evS σ x1 = some v1) (a : Act) (ha : Env n σ a) : (execOp a.eval ⟨dst, .call { callee := .value (.func 20), args := #[x0, x1], argTypes := at' }, ty, pos, af, g⟩).run Try.prog w = .ok (.enter 20 #[v0, v1]) w := by
  simp only [execOp, resolve, List.map_toArray, List.map_cons, List.map_nil, ha.eval h0, ha.eval h1]
  simp [go_sem, Act.eval]
theorem cl_34 {x0 x1 : Operand} {v0 v1 : Value} (h0 : evS σ x0 = some v0) (h1 : evS σ x1 = some v1) (a : Act) (ha : Env n σ a) : (execOp a.eval ⟨dst, .call { callee := .value (.func 34), args := #[x0, x1], argTypes := at' }, ty, pos, af, g⟩).run Try.prog w = .ok (.enter 34 #[v0, v1]) w := by
  simp only [execOp, resolve, List.map_toArray, List.map_cons, List.map_nil, ha.eval h0, ha.eval h1]
  simp [go_sem, Act.eval]
theorem cl_22 {x0 x1 x2 : Operand} {v0 v1 v2 : Value} (h0 : evS σ x0 = some v0) (h1 : evS σ x1 = some v1) (h2 : evS σ x2 = some v2) (a : Act) (ha : Env n σ a) : (execOp a.eval ⟨dst, .call { callee := .value (.func 22), args := #[x0, x1, x2], argTypes := at' }, ty, pos, af, g⟩).run Try.prog w = .ok (.enter 22 #[v0, v1, v2]) w := by
  simp only [execOp, resolve, List.map_toArray, List.map_cons, List.map_nil, ha.eval h0, ha.eval h1, ha.eval h2]
  simp [go_sem, Act.eval]
end
end Go.Proofs.Ytabgmnmpdjnjoaa
set_option linter.unusedVariables false
set_option linter.unusedSimpArgs false
namespace Go.Proofs.Ytabgmnmpdjnjoaa
open Go Go.RowKit
theorem rpossible_to {nt : Net} {mv : List Int} {e : Int} (h : aftErr nt mv = e) (vp vw vm : Value) (w : World) (B : Nat) (hr : RdNet w B vp vw nt) (hrm : Rd w B 1 vm mv.length (ints mv)) (hB : B ≤ w.heap.size) (hn : mv.length ≤ 1073741824) (hv : netB nt = true) :
    Calls Try.prog 19 #[.agg #[vp, vw], vm] w fun e' w' => e' = .returned (.int .i64 e) ∧ Below w.heap.size w w' := h ▸ rpossible_any nt mv vp vw vm w B hr hrm hB hn hv
section
variable {n : Nat} {σ : Sg} {w : World} {dst : Option Tmp} {ty : TypeId} {t' : TypeId} {pos : String} {af : Array Edge} {g : Option (Nat × Bool)} {x y z : Operand}
theorem eql_bool {p q r : Bool} (hx : evS σ x = some (.bool p)) (hy : evS σ y = some (.bool q)) (hr : (p == q) = r) : Gives Try.prog n σ w ⟨dst, .binOp .eql 4 x y t', ty, pos, af, g⟩ (.bool r) := fun a ha => by
  simp only [execOp, ha.eval hx, ha.eval hy]
  subst hr
  cases p <;> cases q <;> simp [go_sem]
end
theorem proves_five (nt : Net) (mv pr : List Int) : (netB nt = false ∧ bndE nt pr = 2 ∧ bndV nt pr = 0 ∧ prvE nt mv pr = 2 ∧ prvV nt mv pr = false) ∨
    (netB nt = true ∧ prErr nt pr ≠ 0 ∧ aftErr nt mv ≠ 0 ∧ bndE nt pr = prErr nt pr ∧ bndV nt pr = 0 ∧ prvE nt mv pr = aftErr nt mv ∧ prvV nt mv pr = false) ∨
    (netB nt = true ∧ prErr nt pr ≠ 0 ∧ aftErr nt mv = 0 ∧ bndE nt pr = prErr nt pr ∧ bndV nt pr = 0 ∧ prvE nt mv pr = prErr nt pr ∧ prvV nt mv pr = false) ∨
    (netB nt = true ∧ prErr nt pr = 0 ∧ aftErr nt mv ≠ 0 ∧ bndE nt pr = 0 ∧ bndV nt pr = bndL nt pr ∧ prvE nt mv pr = aftErr nt mv ∧ prvV nt mv pr = false) ∨
    (netB nt = true ∧ prErr nt pr = 0 ∧ aftErr nt mv = 0 ∧ bndE nt pr = 0 ∧ bndV nt pr = bndL nt pr ∧ prvE nt mv pr = 0 ∧ prvV nt mv pr = provesB nt pr mv) := by
  cases hv : netB nt with
  | false =>
    have h0 : ¬netB nt = true := by rw [hv]; decide
    exact .inl ⟨rfl, by rw [bndE, if_neg h0], by rw [bndV, bndE, if_neg h0]; rfl, by rw [prvE, if_neg h0], by rw [prvV, decide_eq_false h0]; rfl⟩
  | true =>
    have hE : bndE nt pr = prErr nt pr := by rw [bndE, if_pos hv]
    by_cases hp : prErr nt pr = 0 <;> by_cases ha : aftErr nt mv = 0
    · exact .inr (.inr (.inr (.inr ⟨rfl, hp, ha, by rw [hE, hp], by rw [bndV, hE, if_pos hp], by rw [prvE, if_pos hv, if_pos ha, hp], by rw [prvV, decide_eq_true hv, decide_eq_true ha, decide_eq_true hp]; rfl⟩)))
    · exact .inr (.inr (.inr (.inl ⟨rfl, hp, ha, by rw [hE, hp], by rw [bndV, hE, if_pos hp], by rw [prvE, if_pos hv, if_neg ha], by rw [prvV, decide_eq_true hv, decide_eq_false ha]; rfl⟩)))
    · exact .inr (.inr (.inl ⟨rfl, hp, ha, hE, by rw [bndV, hE, if_neg hp], by rw [prvE, if_pos hv, if_pos ha], by rw [prvV, decide_eq_true hv, decide_eq_true ha, decide_eq_false hp]; rfl⟩))
    · exact .inr (.inl ⟨rfl, hp, ha, hE, by rw [bndV, hE, if_neg hp], by rw [prvE, if_pos hv, if_neg ha], by rw [prvV, decide_eq_true hv, decide_eq_false ha]; rfl⟩)
theorem bound_to {nt : Net} {pr : List Int} {c e : Int} (hc : bndV nt pr = c) (he : bndE nt pr = e) (vp vw : Value) (w : World) (B : Nat) (hr : RdNet w B vp vw nt) (hB : B ≤ w.heap.size) (hn1 : nt.ports.length ≤ 1073741824) (hn2 : nt.ways.length ≤ 1073741824) (vr : Value) (hrp : Rd w B 1 vr pr.length (ints pr)) (hnp : pr.length ≤ 1073741824) :
    Calls Try.prog 32 #[.agg #[vp, vw], vr] w fun e' w' => e' = .returned (.tuple #[.int .i64 c, .int .i64 e]) ∧ Below w.heap.size w w' := hc ▸ he ▸ bound_any nt vp vw w B hr hB hn1 hn2 pr vr hrp hnp
theorem proves_to {nt : Net} {mv pr : List Int} {c : Bool} {e : Int} (hc : prvV nt mv pr = c) (he : prvE nt mv pr = e) (vp vw : Value) (w : World) (B : Nat) (hr : RdNet w B vp vw nt) (hB : B ≤ w.heap.size) (hn1 : nt.ports.length ≤ 1073741824) (hn2 : nt.ways.length ≤ 1073741824) (vm vr : Value) (hrm : Rd w B 1 vm mv.length (ints mv)) (hrp : Rd w B 1 vr pr.length (ints pr)) (hn : mv.length ≤ 1073741824) (hnp : pr.length ≤ 1073741824) :
    Calls Try.prog 33 #[.agg #[vp, vw], vm, vr] w fun e' w' => e' = .returned (.tuple #[.bool c, .int .i64 e]) ∧ Below w.heap.size w w' := hc ▸ he ▸ proves_any nt vp vw w B hr hB hn1 hn2 mv pr vm vr hrm hrp hn hnp
theorem rprices_to {nt : Net} {pr : List Int} {e : Int} (h : prErr nt pr = e) (vp vw vr : Value) (w : World) (B : Nat) (hr : RdNet w B vp vw nt) (hrp : Rd w B 1 vr pr.length (ints pr)) (hB : B ≤ w.heap.size) (hn1 : nt.ports.length ≤ 1073741824) (hnp : pr.length ≤ 1073741824) :
    Calls Try.prog 20 #[.agg #[vp, vw], vr] w fun e' w' => e' = .returned (.int .i64 e) ∧ Below w.heap.size w w' := h ▸ rprices_any nt pr vp vw vr w B hr hrp hB hn1 hnp
set_option maxHeartbeats 2000000 in
set_option maxRecDepth 100000 in
theorem proves_law (nt : Net) (vp vw : Value) (w : World) (B : Nat) (hr : RdNet w B vp vw nt) (hB : B ≤ w.heap.size) (hm1 : nt.ports.length ≤ 9223372036854775807) (hm2 : nt.ways.length ≤ 9223372036854775807) (mv pr : List Int) (vm vr : Value) (hrm : Rd w B 1 vm mv.length (ints mv)) (hrp : Rd w B 1 vr pr.length (ints pr)) (hml : mv.length ≤ 9223372036854775807) (hpl0 : pr.length ≤ 9223372036854775807) :
    Calls Try.prog 9 #[.agg #[vp, vw], vm, vr] w fun e w' => e = .returned (.bool true) ∧ Below w.heap.size w w' := by
  obtain ⟨Ap, cp_, rfl, _⟩ := hr.ports.shape
  obtain ⟨Aw, cw_, rfl, _⟩ := hr.ways.shape
  obtain ⟨Am, cm_, rfl, _⟩ := hrm.shape
  obtain ⟨Ar, cr_, rfl, _⟩ := hrp.shape
  have hbw := Below.refl w.heap.size w
  refine EC.enter 122 Try.func9 rfl rfl rfl ?_
  refine EC.seq ?_
  refine EC.region ?_
  refine EL.newP (bx_25 rfl) rfl ?_
  intro g1 w1 q1 hb1 hg1 hl1
  have bhbw_1 := Nat.le_trans hbw.size hg1
  replace hbw := Below.on hbw hb1 hbw.size
  clear hb1 hg1 hl1
  refine EL.val (x_assign rfl) rfl ?_
  refine EL.nil ?_
  refine EX.seq ?_
  refine EC.seq ?_
  refine EC.seq ?_
  refine EC.region ?_
  refine EL.val (ld_25 rfl (q1.at (j := 0) rfl) (q1.at (j := 1) rfl)) rfl ?_
  cases hlg : largeB nt
  ·
    obtain ⟨hn1, hn2⟩ := largeB_no hlg
    refine EL.call (cl_29 rfl) rfl (large_to (b := false) hlg _ _ _ B (hr.below (hbw.mono hB))) ?_
    rintro e w2 ⟨rfl, hc2⟩
    refine ⟨_, rfl, ?_⟩
    replace q1 := q1.below hc2 q1.lt
    replace hbw := Below.on hbw hc2 hbw.size
    clear hc2
    refine EL.val (x_move rfl) rfl ?_
    refine EL.valg rfl rfl (x_move rfl) rfl ?_
    refine EL.valg rfl rfl (ln_29 rfl) rfl ?_
    by_cases hlong : 320 < mv.length
    ·
      refine EL.valg rfl rfl (x_gtr (r := true) rfl rfl (decide_eq_true (by omega))) rfl ?_
      refine EL.val (x_pick_f rfl rfl) rfl ?_
      refine EL.val (x_move rfl) rfl ?_
      refine EL.skip rfl rfl rfl rfl ?_
      refine EL.skip rfl rfl rfl rfl ?_
      refine EL.skip rfl rfl rfl rfl ?_
      refine EL.val (x_pick_t rfl rfl) rfl ?_
      refine EL.nil ?_
      refine EX.seq ?_
      refine EC.yes rfl ?_
      refine EC.seq ?_
      refine EC.region ?_
      refine EL.call cl_13 rfl (known_any _) ?_
      rintro e w3 ⟨rfl, hc3⟩
      refine ⟨_, rfl, ?_⟩
      replace q1 := q1.below hc3 q1.lt
      replace hbw := Below.on hbw hc3 hbw.size
      clear hc3
      refine EL.val (x_assign rfl) rfl ?_
      refine EL.nil ?_
      refine EX.seq ?_
      refine EC.ret ?_
      refine EX.seq_ret ?_
      exact EX.done (res1 rfl rfl) ⟨rfl, hbw⟩
    ·
      refine EL.valg rfl rfl (x_gtr (r := false) rfl rfl (decide_eq_false (by omega))) rfl ?_
      refine EL.val (x_pick_f rfl rfl) rfl ?_
      refine EL.val (x_move rfl) rfl ?_
      refine EL.valg rfl rfl (x_move rfl) rfl ?_
      refine EL.valg rfl rfl (ln_29 rfl) rfl ?_
      by_cases hlong2 : 70 < pr.length
      ·
        refine EL.valg rfl rfl (x_gtr (r := true) rfl rfl (decide_eq_true (by omega))) rfl ?_
        refine EL.val (x_pick_f rfl rfl) rfl ?_
        refine EL.nil ?_
        refine EX.seq ?_
        refine EC.yes rfl ?_
        refine EC.seq ?_
        refine EC.region ?_
        refine EL.call cl_13 rfl (known_any _) ?_
        rintro e w4 ⟨rfl, hc4⟩
        refine ⟨_, rfl, ?_⟩
        replace q1 := q1.below hc4 q1.lt
        replace hbw := Below.on hbw hc4 hbw.size
        clear hc4
        refine EL.val (x_assign rfl) rfl ?_
        refine EL.nil ?_
        refine EX.seq ?_
        refine EC.ret ?_
        refine EX.seq_ret ?_
        exact EX.done (res1 rfl rfl) ⟨rfl, hbw⟩
      ·
        refine EL.valg rfl rfl (x_gtr (r := false) rfl rfl (decide_eq_false (by omega))) rfl ?_
        refine EL.val (x_pick_f rfl rfl) rfl ?_
        refine EL.nil ?_
        refine EX.seq ?_
        refine EC.no rfl ?_
        refine EC.skip ?_
        refine EX.seq ?_
        refine EC.seq ?_
        refine EC.region ?_
        refine EL.val (x_move rfl) rfl ?_
        refine EL.call (cl_30 rfl) rfl (ints_any pr _ _ B (hrp.below (hbw.mono hB)) (Nat.le_trans hB hbw.size) (by omega)) ?_
        rintro e w5 ⟨⟨vl5, rfl, hop⟩, hc5⟩
        refine ⟨_, rfl, ?_⟩
        replace q1 := q1.below hc5 q1.lt
        replace hbw := Below.on hbw hc5 hbw.size
        clear hc5
        obtain ⟨Al5, cl5, rfl, _⟩ := (Rd.of_own hop).shape
        refine EL.val (x_assign rfl) rfl ?_
        refine EL.nil ?_
        refine EX.seq ?_
        refine EC.seq ?_
        refine EC.region ?_
        refine EL.val (ld_25 rfl (q1.at (j := 0) rfl) (q1.at (j := 1) rfl)) rfl ?_
        refine EL.call (cl_14 rfl) rfl (copied_any nt _ _ _ B (hr.below (hbw.mono hB)) (Nat.le_trans hB hbw.size) (by omega) (by omega)) ?_
        rintro e w6 ⟨⟨vp6, vw6, rfl, hoc⟩, hc6⟩
        refine ⟨_, rfl, ?_⟩
        replace q1 := q1.below hc6 q1.lt
        replace hop := own_below hop hc6 (Nat.le_refl _)
        replace hbw := Below.on hbw hc6 hbw.size
        clear hc6
        obtain ⟨Bp6, dp6, rfl, _⟩ := (Rd.of_own hoc.ports).shape
        obtain ⟨Bw6, dw6, rfl, _⟩ := (Rd.of_own hoc.ways).shape
        refine EL.val (x_move rfl) rfl ?_
        rcases proves_five nt mv pr with ⟨hv, hBE, hBV, hPE, hPV⟩ | ⟨hv, hp, ha, hBE, hBV, hPE, hPV⟩ | ⟨hv, hp, ha, hBE, hBV, hPE, hPV⟩ | ⟨hv, hp, ha, hBE, hBV, hPE, hPV⟩ | ⟨hv, hp, ha, hBE, hBV, hPE, hPV⟩
        ·
          refine EL.call (cl_32 rfl rfl) rfl (bound_to hBV hBE _ _ _ _ hoc.rd (Nat.le_refl _) (by omega) (by omega) _ (Rd.of_own hop) (by omega)) ?_
          rintro e w7 ⟨rfl, hc7⟩
          refine ⟨_, rfl, ?_⟩
          replace q1 := q1.below hc7 q1.lt
          replace hop := own_below hop hc7 (Nat.le_refl _)
          replace hoc := hoc.below hc7
          replace hbw := Below.on hbw hc7 hbw.size
          clear hc7
          refine EL.val (x_move rfl) rfl ?_
          refine EL.val (x_extract rfl rfl) rfl ?_
          refine EL.val (x_extract rfl rfl) rfl ?_
          refine EL.val (x_assign rfl) rfl ?_
          refine EL.val (x_assign rfl) rfl ?_
          refine EL.nil ?_
          refine EX.seq ?_
          refine EC.seq ?_
          refine EC.region ?_
          refine EL.val (ld_25 rfl (q1.at (j := 0) rfl) (q1.at (j := 1) rfl)) rfl ?_
          refine EL.call (cl_14 rfl) rfl (copied_any nt _ _ _ B (hr.below (hbw.mono hB)) (Nat.le_trans hB hbw.size) (by omega) (by omega)) ?_
          rintro e w8 ⟨⟨vp8, vw8, rfl, hod⟩, hc8⟩
          refine ⟨_, rfl, ?_⟩
          replace q1 := q1.below hc8 q1.lt
          replace hop := own_below hop hc8 (Nat.le_refl _)
          replace hoc := hoc.below hc8
          replace hbw := Below.on hbw hc8 hbw.size
          clear hc8
          obtain ⟨Bp8, dp8, rfl, _⟩ := (Rd.of_own hod.ports).shape
          obtain ⟨Bw8, dw8, rfl, _⟩ := (Rd.of_own hod.ways).shape
          refine EL.val (x_move rfl) rfl ?_
          refine EL.call (cl_30 rfl) rfl (ints_any mv _ _ B (hrm.below (hbw.mono hB)) (Nat.le_trans hB hbw.size) (by omega)) ?_
          rintro e w9 ⟨⟨vl9, rfl, hoi⟩, hc9⟩
          refine ⟨_, rfl, ?_⟩
          replace q1 := q1.below hc9 q1.lt
          replace hop := own_below hop hc9 (Nat.le_refl _)
          replace hoc := hoc.below hc9
          replace hod := hod.below hc9
          replace hbw := Below.on hbw hc9 hbw.size
          clear hc9
          obtain ⟨Al9, cl9, rfl, _⟩ := (Rd.of_own hoi).shape
          refine EL.val (x_move rfl) rfl ?_
          refine EL.call (cl_33 rfl rfl rfl) rfl (proves_to hPV hPE _ _ _ _ hod.rd (Nat.le_refl _) (by omega) (by omega) _ _ (Rd.of_own hoi) (Rd.of_own hop) (by omega) (by omega)) ?_
          rintro e w10 ⟨rfl, hc10⟩
          refine ⟨_, rfl, ?_⟩
          replace q1 := q1.below hc10 q1.lt
          replace hop := own_below hop hc10 (Nat.le_refl _)
          replace hoc := hoc.below hc10
          replace hod := hod.below hc10
          replace hoi := own_below hoi hc10 (Nat.le_refl _)
          replace hbw := Below.on hbw hc10 hbw.size
          clear hc10
          refine EL.val (x_move rfl) rfl ?_
          refine EL.val (x_extract rfl rfl) rfl ?_
          refine EL.val (x_extract rfl rfl) rfl ?_
          refine EL.val (x_assign rfl) rfl ?_
          refine EL.val (x_assign rfl) rfl ?_
          refine EL.nil ?_
          refine EX.seq ?_
          refine EC.seq ?_
          refine EC.seq ?_
          refine EC.region ?_
          refine EL.val (x_move rfl) rfl ?_
          refine EL.val (x_move rfl) rfl ?_
          refine EL.call (cl_25 rfl rfl) rfl (equal_same pr _ _ _ _ (Rd.of_own hop) ((hrp.below (hbw.mono hB)).more (Nat.le_trans hB hbw.size)) (Nat.le_refl _) (by omega)) ?_
          rintro e w11 ⟨rfl, hc11⟩
          refine ⟨_, rfl, ?_⟩
          replace q1 := q1.below hc11 q1.lt
          replace hop := own_below hop hc11 (Nat.le_refl _)
          replace hoc := hoc.below hc11
          replace hod := hod.below hc11
          replace hoi := own_below hoi hc11 (Nat.le_refl _)
          replace hbw := Below.on hbw hc11 hbw.size
          clear hc11
          refine EL.val (x_not rfl) rfl ?_
          refine EL.nil ?_
          refine EX.seq ?_
          refine EC.no rfl ?_
          refine EC.skip ?_
          refine EX.seq ?_
          refine EC.seq ?_
          refine EC.seq ?_
          refine EC.region ?_
          refine EL.val (ld_25 rfl (q1.at (j := 0) rfl) (q1.at (j := 1) rfl)) rfl ?_
          refine EL.call (cl_17 rfl) rfl (rnet_to (b := false) hv _ _ _ B (hr.below (hbw.mono hB)) (Nat.le_trans hB hbw.size) (by omega) (by omega)) ?_
          rintro e w12 ⟨rfl, hc12⟩
          refine ⟨_, rfl, ?_⟩
          replace q1 := q1.below hc12 q1.lt
          replace hop := own_below hop hc12 (Nat.le_refl _)
          replace hoc := hoc.below hc12
          replace hod := hod.below hc12
          replace hoi := own_below hoi hc12 (Nat.le_refl _)
          replace hbw := Below.on hbw hc12 hbw.size
          clear hc12
          refine EL.val (x_not rfl) rfl ?_
          refine EL.nil ?_
          refine EX.seq ?_
          refine EC.yes rfl ?_
          refine EC.seq ?_
          refine EC.region ?_
          refine EL.val (x_move rfl) rfl ?_
          refine EL.val (x_eql (r := true) rfl rfl (decide_eq_true rfl)) rfl ?_
          refine EL.val (x_move rfl) rfl ?_
          refine EL.valg rfl rfl (x_move rfl) rfl ?_
          refine EL.valg rfl rfl (x_move rfl) rfl ?_
          refine EL.valg rfl rfl (x_eql (r := true) rfl rfl (decide_eq_true rfl)) rfl ?_
          refine EL.val (x_pick_t rfl rfl) rfl ?_
          refine EL.val (x_move rfl) rfl ?_
          refine EL.valg rfl rfl (x_move rfl) rfl ?_
          refine EL.valg rfl rfl (x_eql (r := true) rfl rfl (decide_eq_true rfl)) rfl ?_
          refine EL.val (x_pick_t rfl rfl) rfl ?_
          refine EL.val (x_move rfl) rfl ?_
          refine EL.valg rfl rfl (x_move rfl) rfl ?_
          refine EL.valg rfl rfl (x_not rfl) rfl ?_
          refine EL.val (x_pick_t rfl rfl) rfl ?_
          refine EL.val (x_move rfl) rfl ?_
          refine EL.callg rfl rfl cl_13 rfl (known_any _) ?_
          rintro e w13 ⟨rfl, hc13⟩
          refine ⟨_, rfl, ?_⟩
          replace q1 := q1.below hc13 q1.lt
          replace hop := own_below hop hc13 (Nat.le_refl _)
          replace hoc := hoc.below hc13
          replace hod := hod.below hc13
          replace hoi := own_below hoi hc13 (Nat.le_refl _)
          replace hbw := Below.on hbw hc13 hbw.size
          clear hc13
          refine EL.val (x_pick_t rfl rfl) rfl ?_
          refine EL.val (x_assign rfl) rfl ?_
          refine EL.nil ?_
          refine EX.seq ?_
          refine EC.ret ?_
          refine EX.seq_ret ?_
          exact EX.done (res1 rfl rfl) ⟨rfl, hbw⟩
        ·
          refine EL.call (cl_32 rfl rfl) rfl (bound_to hBV hBE _ _ _ _ hoc.rd (Nat.le_refl _) (by omega) (by omega) _ (Rd.of_own hop) (by omega)) ?_
          rintro e w14 ⟨rfl, hc14⟩
          refine ⟨_, rfl, ?_⟩
          replace q1 := q1.below hc14 q1.lt
          replace hop := own_below hop hc14 (Nat.le_refl _)
          replace hoc := hoc.below hc14
          replace hbw := Below.on hbw hc14 hbw.size
          clear hc14
          refine EL.val (x_move rfl) rfl ?_
          refine EL.val (x_extract rfl rfl) rfl ?_
          refine EL.val (x_extract rfl rfl) rfl ?_
          refine EL.val (x_assign rfl) rfl ?_
          refine EL.val (x_assign rfl) rfl ?_
          refine EL.nil ?_
          refine EX.seq ?_
          refine EC.seq ?_
          refine EC.region ?_
          refine EL.val (ld_25 rfl (q1.at (j := 0) rfl) (q1.at (j := 1) rfl)) rfl ?_
          refine EL.call (cl_14 rfl) rfl (copied_any nt _ _ _ B (hr.below (hbw.mono hB)) (Nat.le_trans hB hbw.size) (by omega) (by omega)) ?_
          rintro e w15 ⟨⟨vp15, vw15, rfl, hod⟩, hc15⟩
          refine ⟨_, rfl, ?_⟩
          replace q1 := q1.below hc15 q1.lt
          replace hop := own_below hop hc15 (Nat.le_refl _)
          replace hoc := hoc.below hc15
          replace hbw := Below.on hbw hc15 hbw.size
          clear hc15
          obtain ⟨Bp15, dp15, rfl, _⟩ := (Rd.of_own hod.ports).shape
          obtain ⟨Bw15, dw15, rfl, _⟩ := (Rd.of_own hod.ways).shape
          refine EL.val (x_move rfl) rfl ?_
          refine EL.call (cl_30 rfl) rfl (ints_any mv _ _ B (hrm.below (hbw.mono hB)) (Nat.le_trans hB hbw.size) (by omega)) ?_
          rintro e w16 ⟨⟨vl16, rfl, hoi⟩, hc16⟩
          refine ⟨_, rfl, ?_⟩
          replace q1 := q1.below hc16 q1.lt
          replace hop := own_below hop hc16 (Nat.le_refl _)
          replace hoc := hoc.below hc16
          replace hod := hod.below hc16
          replace hbw := Below.on hbw hc16 hbw.size
          clear hc16
          obtain ⟨Al16, cl16, rfl, _⟩ := (Rd.of_own hoi).shape
          refine EL.val (x_move rfl) rfl ?_
          refine EL.call (cl_33 rfl rfl rfl) rfl (proves_to hPV hPE _ _ _ _ hod.rd (Nat.le_refl _) (by omega) (by omega) _ _ (Rd.of_own hoi) (Rd.of_own hop) (by omega) (by omega)) ?_
          rintro e w17 ⟨rfl, hc17⟩
          refine ⟨_, rfl, ?_⟩
          replace q1 := q1.below hc17 q1.lt
          replace hop := own_below hop hc17 (Nat.le_refl _)
          replace hoc := hoc.below hc17
          replace hod := hod.below hc17
          replace hoi := own_below hoi hc17 (Nat.le_refl _)
          replace hbw := Below.on hbw hc17 hbw.size
          clear hc17
          refine EL.val (x_move rfl) rfl ?_
          refine EL.val (x_extract rfl rfl) rfl ?_
          refine EL.val (x_extract rfl rfl) rfl ?_
          refine EL.val (x_assign rfl) rfl ?_
          refine EL.val (x_assign rfl) rfl ?_
          refine EL.nil ?_
          refine EX.seq ?_
          refine EC.seq ?_
          refine EC.seq ?_
          refine EC.region ?_
          refine EL.val (x_move rfl) rfl ?_
          refine EL.val (x_move rfl) rfl ?_
          refine EL.call (cl_25 rfl rfl) rfl (equal_same pr _ _ _ _ (Rd.of_own hop) ((hrp.below (hbw.mono hB)).more (Nat.le_trans hB hbw.size)) (Nat.le_refl _) (by omega)) ?_
          rintro e w18 ⟨rfl, hc18⟩
          refine ⟨_, rfl, ?_⟩
          replace q1 := q1.below hc18 q1.lt
          replace hop := own_below hop hc18 (Nat.le_refl _)
          replace hoc := hoc.below hc18
          replace hod := hod.below hc18
          replace hoi := own_below hoi hc18 (Nat.le_refl _)
          replace hbw := Below.on hbw hc18 hbw.size
          clear hc18
          refine EL.val (x_not rfl) rfl ?_
          refine EL.nil ?_
          refine EX.seq ?_
          refine EC.no rfl ?_
          refine EC.skip ?_
          refine EX.seq ?_
          refine EC.seq ?_
          refine EC.seq ?_
          refine EC.region ?_
          refine EL.val (ld_25 rfl (q1.at (j := 0) rfl) (q1.at (j := 1) rfl)) rfl ?_
          refine EL.call (cl_17 rfl) rfl (rnet_to (b := true) hv _ _ _ B (hr.below (hbw.mono hB)) (Nat.le_trans hB hbw.size) (by omega) (by omega)) ?_
          rintro e w19 ⟨rfl, hc19⟩
          refine ⟨_, rfl, ?_⟩
          replace q1 := q1.below hc19 q1.lt
          replace hop := own_below hop hc19 (Nat.le_refl _)
          replace hoc := hoc.below hc19
          replace hod := hod.below hc19
          replace hoi := own_below hoi hc19 (Nat.le_refl _)
          replace hbw := Below.on hbw hc19 hbw.size
          clear hc19
          refine EL.val (x_not rfl) rfl ?_
          refine EL.nil ?_
          refine EX.seq ?_
          refine EC.no rfl ?_
          refine EC.skip ?_
          refine EX.seq ?_
          refine EC.seq ?_
          refine EC.regionQ (by kernel_rfl) (by kernel_rfl) ?_
          refine EQ.val (fun _ hw => (ld_25 rfl (below_load hw (q1.at (j := 0) rfl)) (below_load hw (q1.at (j := 1) rfl)))) rfl ?_
          refine EQ.val (fun _ hw => (x_move rfl)) rfl ?_
          refine EQ.call (fun _ _ _ ha => cl_20 rfl rfl _ ha) rfl (fun W hw => (rprices_any nt pr _ _ _ W B (hr.below ((hbw.trans (hw.mono hbw.size)).mono hB)) (hrp.below ((hbw.trans (hw.mono hbw.size)).mono hB)) (Nat.le_trans hB (Nat.le_trans hbw.size hw.size)) (by omega) (by omega)).mono fun e w' h => ⟨h.1, hw.trans (h.2.mono hw.size)⟩) ?_
          refine EQ.val (fun _ hw => (ld_25 rfl (below_load hw (q1.at (j := 0) rfl)) (below_load hw (q1.at (j := 1) rfl)))) rfl ?_
          refine EQ.val (fun _ hw => (x_move rfl)) rfl ?_
          refine EQ.call (fun _ _ _ ha => cl_19 rfl rfl _ ha) rfl (fun W hw => (rpossible_any nt mv _ _ _ W B (hr.below ((hbw.trans (hw.mono hbw.size)).mono hB)) (hrm.below ((hbw.trans (hw.mono hbw.size)).mono hB)) (Nat.le_trans hB (Nat.le_trans hbw.size hw.size)) (by omega) hv).mono fun e w' h => ⟨h.1, hw.trans (h.2.mono hw.size)⟩) ?_
          refine EQ.val (fun _ hw => (x_assign rfl)) rfl ?_
          refine EQ.val (fun _ hw => (x_assign rfl)) rfl ?_
          refine EQ.fin (fun w20 hw_ => ?_)
          replace q1 := q1.below hw_ q1.lt
          replace hop := own_below hop hw_ (Nat.le_refl _)
          replace hoc := hoc.below hw_
          replace hod := hod.below hw_
          replace hoi := own_below hoi hw_ (Nat.le_refl _)
          replace hbw := Below.on hbw hw_ hbw.size
          clear hw_
          refine EX.seq ?_
          refine EC.seq ?_
          refine EC.seq ?_
          refine EC.region ?_
          refine EL.val (x_move rfl) rfl ?_
          refine EL.val (x_neq (r := true) rfl rfl (decide_eq_true hp)) rfl ?_
          refine EL.nil ?_
          refine EX.seq ?_
          refine EC.yes rfl ?_
          refine EC.seq ?_
          refine EC.region ?_
          refine EL.val (x_move rfl) rfl ?_
          refine EL.val (x_move rfl) rfl ?_
          refine EL.val (x_neq (r := false) rfl rfl (decide_eq_false (fun h => h rfl))) rfl ?_
          refine EL.val (x_move rfl) rfl ?_
          refine EL.valg rfl rfl (x_move rfl) rfl ?_
          refine EL.valg rfl rfl (x_neq (r := false) rfl rfl (decide_eq_false (fun h => h rfl))) rfl ?_
          refine EL.val (x_pick_f rfl rfl) rfl ?_
          refine EL.nil ?_
          refine EX.seq ?_
          refine EC.no rfl ?_
          refine EC.skip ?_
          refine EX.seq ?_
          refine EC.seq ?_
          refine EC.seq ?_
          refine EC.region ?_
          refine EL.val (x_move rfl) rfl ?_
          refine EL.val (x_neq (r := true) rfl rfl (decide_eq_true ha)) rfl ?_
          refine EL.nil ?_
          refine EX.seq ?_
          refine EC.yes rfl ?_
          refine EC.region ?_
          refine EL.val (x_move rfl) rfl ?_
          refine EL.val (x_assign rfl) rfl ?_
          refine EL.nil ?_
          refine EX.seq ?_
          refine EC.seq ?_
          refine EC.seq ?_
          refine EC.region ?_
          refine EL.val (x_move rfl) rfl ?_
          refine EL.val (x_neq (r := true) rfl rfl (decide_eq_true ha)) rfl ?_
          refine EL.nil ?_
          refine EX.seq ?_
          refine EC.yes rfl ?_
          refine EC.seq ?_
          refine EC.region ?_
          refine EL.val (x_move rfl) rfl ?_
          refine EL.val (x_move rfl) rfl ?_
          refine EL.val (x_eql (r := true) rfl rfl (decide_eq_true rfl)) rfl ?_
          refine EL.val (x_move rfl) rfl ?_
          refine EL.valg rfl rfl (x_move rfl) rfl ?_
          refine EL.valg rfl rfl (x_not rfl) rfl ?_
          refine EL.val (x_pick_t rfl rfl) rfl ?_
          refine EL.val (x_move rfl) rfl ?_
          refine EL.callg rfl rfl cl_13 rfl (known_any _) ?_
          rintro e w21 ⟨rfl, hc21⟩
          refine ⟨_, rfl, ?_⟩
          replace q1 := q1.below hc21 q1.lt
          replace hop := own_below hop hc21 (Nat.le_refl _)
          replace hoc := hoc.below hc21
          replace hod := hod.below hc21
          replace hoi := own_below hoi hc21 (Nat.le_refl _)
          replace hbw := Below.on hbw hc21 hbw.size
          clear hc21
          refine EL.val (x_pick_t rfl rfl) rfl ?_
          refine EL.val (x_assign rfl) rfl ?_
          refine EL.nil ?_
          refine EX.seq ?_
          refine EC.ret ?_
          refine EX.seq_ret ?_
          exact EX.done (res1 rfl rfl) ⟨rfl, hbw⟩
        ·
          refine EL.call (cl_32 rfl rfl) rfl (bound_to hBV hBE _ _ _ _ hoc.rd (Nat.le_refl _) (by omega) (by omega) _ (Rd.of_own hop) (by omega)) ?_
          rintro e w22 ⟨rfl, hc22⟩
          refine ⟨_, rfl, ?_⟩
          replace q1 := q1.below hc22 q1.lt
          replace hop := own_below hop hc22 (Nat.le_refl _)
          replace hoc := hoc.below hc22
          replace hbw := Below.on hbw hc22 hbw.size
          clear hc22
          refine EL.val (x_move rfl) rfl ?_
          refine EL.val (x_extract rfl rfl) rfl ?_
          refine EL.val (x_extract rfl rfl) rfl ?_
          refine EL.val (x_assign rfl) rfl ?_
          refine EL.val (x_assign rfl) rfl ?_
          refine EL.nil ?_
          refine EX.seq ?_
          refine EC.seq ?_
          refine EC.region ?_
          refine EL.val (ld_25 rfl (q1.at (j := 0) rfl) (q1.at (j := 1) rfl)) rfl ?_
          refine EL.call (cl_14 rfl) rfl (copied_any nt _ _ _ B (hr.below (hbw.mono hB)) (Nat.le_trans hB hbw.size) (by omega) (by omega)) ?_
          rintro e w23 ⟨⟨vp23, vw23, rfl, hod⟩, hc23⟩
          refine ⟨_, rfl, ?_⟩
          replace q1 := q1.below hc23 q1.lt
          replace hop := own_below hop hc23 (Nat.le_refl _)
          replace hoc := hoc.below hc23
          replace hbw := Below.on hbw hc23 hbw.size
          clear hc23
          obtain ⟨Bp23, dp23, rfl, _⟩ := (Rd.of_own hod.ports).shape
          obtain ⟨Bw23, dw23, rfl, _⟩ := (Rd.of_own hod.ways).shape
          refine EL.val (x_move rfl) rfl ?_
          refine EL.call (cl_30 rfl) rfl (ints_any mv _ _ B (hrm.below (hbw.mono hB)) (Nat.le_trans hB hbw.size) (by omega)) ?_
          rintro e w24 ⟨⟨vl24, rfl, hoi⟩, hc24⟩
          refine ⟨_, rfl, ?_⟩
          replace q1 := q1.below hc24 q1.lt
          replace hop := own_below hop hc24 (Nat.le_refl _)
          replace hoc := hoc.below hc24
          replace hod := hod.below hc24
          replace hbw := Below.on hbw hc24 hbw.size
          clear hc24
          obtain ⟨Al24, cl24, rfl, _⟩ := (Rd.of_own hoi).shape
          refine EL.val (x_move rfl) rfl ?_
          refine EL.call (cl_33 rfl rfl rfl) rfl (proves_to hPV hPE _ _ _ _ hod.rd (Nat.le_refl _) (by omega) (by omega) _ _ (Rd.of_own hoi) (Rd.of_own hop) (by omega) (by omega)) ?_
          rintro e w25 ⟨rfl, hc25⟩
          refine ⟨_, rfl, ?_⟩
          replace q1 := q1.below hc25 q1.lt
          replace hop := own_below hop hc25 (Nat.le_refl _)
          replace hoc := hoc.below hc25
          replace hod := hod.below hc25
          replace hoi := own_below hoi hc25 (Nat.le_refl _)
          replace hbw := Below.on hbw hc25 hbw.size
          clear hc25
          refine EL.val (x_move rfl) rfl ?_
          refine EL.val (x_extract rfl rfl) rfl ?_
          refine EL.val (x_extract rfl rfl) rfl ?_
          refine EL.val (x_assign rfl) rfl ?_
          refine EL.val (x_assign rfl) rfl ?_
          refine EL.nil ?_
          refine EX.seq ?_
          refine EC.seq ?_
          refine EC.seq ?_
          refine EC.region ?_
          refine EL.val (x_move rfl) rfl ?_
          refine EL.val (x_move rfl) rfl ?_
          refine EL.call (cl_25 rfl rfl) rfl (equal_same pr _ _ _ _ (Rd.of_own hop) ((hrp.below (hbw.mono hB)).more (Nat.le_trans hB hbw.size)) (Nat.le_refl _) (by omega)) ?_
          rintro e w26 ⟨rfl, hc26⟩
          refine ⟨_, rfl, ?_⟩
          replace q1 := q1.below hc26 q1.lt
          replace hop := own_below hop hc26 (Nat.le_refl _)
          replace hoc := hoc.below hc26
          replace hod := hod.below hc26
          replace hoi := own_below hoi hc26 (Nat.le_refl _)
          replace hbw := Below.on hbw hc26 hbw.size
          clear hc26
          refine EL.val (x_not rfl) rfl ?_
          refine EL.nil ?_
          refine EX.seq ?_
          refine EC.no rfl ?_
          refine EC.skip ?_
          refine EX.seq ?_
          refine EC.seq ?_
          refine EC.seq ?_
          refine EC.region ?_
          refine EL.val (ld_25 rfl (q1.at (j := 0) rfl) (q1.at (j := 1) rfl)) rfl ?_
          refine EL.call (cl_17 rfl) rfl (rnet_to (b := true) hv _ _ _ B (hr.below (hbw.mono hB)) (Nat.le_trans hB hbw.size) (by omega) (by omega)) ?_
          rintro e w27 ⟨rfl, hc27⟩
          refine ⟨_, rfl, ?_⟩
          replace q1 := q1.below hc27 q1.lt
          replace hop := own_below hop hc27 (Nat.le_refl _)
          replace hoc := hoc.below hc27
          replace hod := hod.below hc27
          replace hoi := own_below hoi hc27 (Nat.le_refl _)
          replace hbw := Below.on hbw hc27 hbw.size
          clear hc27
          refine EL.val (x_not rfl) rfl ?_
          refine EL.nil ?_
          refine EX.seq ?_
          refine EC.no rfl ?_
          refine EC.skip ?_
          refine EX.seq ?_
          refine EC.seq ?_
          refine EC.regionQ (by kernel_rfl) (by kernel_rfl) ?_
          refine EQ.val (fun _ hw => (ld_25 rfl (below_load hw (q1.at (j := 0) rfl)) (below_load hw (q1.at (j := 1) rfl)))) rfl ?_
          refine EQ.val (fun _ hw => (x_move rfl)) rfl ?_
          refine EQ.call (fun _ _ _ ha => cl_20 rfl rfl _ ha) rfl (fun W hw => (rprices_any nt pr _ _ _ W B (hr.below ((hbw.trans (hw.mono hbw.size)).mono hB)) (hrp.below ((hbw.trans (hw.mono hbw.size)).mono hB)) (Nat.le_trans hB (Nat.le_trans hbw.size hw.size)) (by omega) (by omega)).mono fun e w' h => ⟨h.1, hw.trans (h.2.mono hw.size)⟩) ?_
          refine EQ.val (fun _ hw => (ld_25 rfl (below_load hw (q1.at (j := 0) rfl)) (below_load hw (q1.at (j := 1) rfl)))) rfl ?_
          refine EQ.val (fun _ hw => (x_move rfl)) rfl ?_
          refine EQ.call (fun _ _ _ ha => cl_19 rfl rfl _ ha) rfl (fun W hw => (rpossible_to ha _ _ _ W B (hr.below ((hbw.trans (hw.mono hbw.size)).mono hB)) (hrm.below ((hbw.trans (hw.mono hbw.size)).mono hB)) (Nat.le_trans hB (Nat.le_trans hbw.size hw.size)) (by omega) hv).mono fun e w' h => ⟨h.1, hw.trans (h.2.mono hw.size)⟩) ?_
          refine EQ.val (fun _ hw => (x_assign rfl)) rfl ?_
          refine EQ.val (fun _ hw => (x_assign rfl)) rfl ?_
          refine EQ.fin (fun w28 hw_ => ?_)
          replace q1 := q1.below hw_ q1.lt
          replace hop := own_below hop hw_ (Nat.le_refl _)
          replace hoc := hoc.below hw_
          replace hod := hod.below hw_
          replace hoi := own_below hoi hw_ (Nat.le_refl _)
          replace hbw := Below.on hbw hw_ hbw.size
          clear hw_
          refine EX.seq ?_
          refine EC.seq ?_
          refine EC.seq ?_
          refine EC.region ?_
          refine EL.val (x_move rfl) rfl ?_
          refine EL.val (x_neq (r := true) rfl rfl (decide_eq_true hp)) rfl ?_
          refine EL.nil ?_
          refine EX.seq ?_
          refine EC.yes rfl ?_
          refine EC.seq ?_
          refine EC.region ?_
          refine EL.val (x_move rfl) rfl ?_
          refine EL.val (x_move rfl) rfl ?_
          refine EL.val (x_neq (r := false) rfl rfl (decide_eq_false (fun h => h rfl))) rfl ?_
          refine EL.val (x_move rfl) rfl ?_
          refine EL.valg rfl rfl (x_move rfl) rfl ?_
          refine EL.valg rfl rfl (x_neq (r := false) rfl rfl (decide_eq_false (fun h => h rfl))) rfl ?_
          refine EL.val (x_pick_f rfl rfl) rfl ?_
          refine EL.nil ?_
          refine EX.seq ?_
          refine EC.no rfl ?_
          refine EC.skip ?_
          refine EX.seq ?_
          refine EC.seq ?_
          refine EC.seq ?_
          refine EC.region ?_
          refine EL.val (x_move rfl) rfl ?_
          refine EL.val (x_neq (r := false) rfl rfl (decide_eq_false (fun h => h rfl))) rfl ?_
          refine EL.nil ?_
          refine EX.seq ?_
          refine EC.no rfl ?_
          refine EC.skip ?_
          refine EX.seq ?_
          refine EC.seq ?_
          refine EC.seq ?_
          refine EC.region ?_
          refine EL.val (x_move rfl) rfl ?_
          refine EL.val (x_neq (r := true) rfl rfl (decide_eq_true hp)) rfl ?_
          refine EL.nil ?_
          refine EX.seq ?_
          refine EC.yes rfl ?_
          refine EC.seq ?_
          refine EC.region ?_
          refine EL.val (x_move rfl) rfl ?_
          refine EL.val (x_move rfl) rfl ?_
          refine EL.val (x_eql (r := true) rfl rfl (decide_eq_true rfl)) rfl ?_
          refine EL.val (x_move rfl) rfl ?_
          refine EL.valg rfl rfl (x_move rfl) rfl ?_
          refine EL.valg rfl rfl (x_not rfl) rfl ?_
          refine EL.val (x_pick_t rfl rfl) rfl ?_
          refine EL.val (x_move rfl) rfl ?_
          refine EL.callg rfl rfl cl_13 rfl (known_any _) ?_
          rintro e w29 ⟨rfl, hc29⟩
          refine ⟨_, rfl, ?_⟩
          replace q1 := q1.below hc29 q1.lt
          replace hop := own_below hop hc29 (Nat.le_refl _)
          replace hoc := hoc.below hc29
          replace hod := hod.below hc29
          replace hoi := own_below hoi hc29 (Nat.le_refl _)
          replace hbw := Below.on hbw hc29 hbw.size
          clear hc29
          refine EL.val (x_pick_t rfl rfl) rfl ?_
          refine EL.val (x_assign rfl) rfl ?_
          refine EL.nil ?_
          refine EX.seq ?_
          refine EC.ret ?_
          refine EX.seq_ret ?_
          exact EX.done (res1 rfl rfl) ⟨rfl, hbw⟩
        ·
          refine EL.call (cl_32 rfl rfl) rfl (bound_to hBV hBE _ _ _ _ hoc.rd (Nat.le_refl _) (by omega) (by omega) _ (Rd.of_own hop) (by omega)) ?_
          rintro e w30 ⟨rfl, hc30⟩
          refine ⟨_, rfl, ?_⟩
          replace q1 := q1.below hc30 q1.lt
          replace hop := own_below hop hc30 (Nat.le_refl _)
          replace hoc := hoc.below hc30
          replace hbw := Below.on hbw hc30 hbw.size
          clear hc30
          refine EL.val (x_move rfl) rfl ?_
          refine EL.val (x_extract rfl rfl) rfl ?_
          refine EL.val (x_extract rfl rfl) rfl ?_
          refine EL.val (x_assign rfl) rfl ?_
          refine EL.val (x_assign rfl) rfl ?_
          refine EL.nil ?_
          refine EX.seq ?_
          refine EC.seq ?_
          refine EC.region ?_
          refine EL.val (ld_25 rfl (q1.at (j := 0) rfl) (q1.at (j := 1) rfl)) rfl ?_
          refine EL.call (cl_14 rfl) rfl (copied_any nt _ _ _ B (hr.below (hbw.mono hB)) (Nat.le_trans hB hbw.size) (by omega) (by omega)) ?_
          rintro e w31 ⟨⟨vp31, vw31, rfl, hod⟩, hc31⟩
          refine ⟨_, rfl, ?_⟩
          replace q1 := q1.below hc31 q1.lt
          replace hop := own_below hop hc31 (Nat.le_refl _)
          replace hoc := hoc.below hc31
          replace hbw := Below.on hbw hc31 hbw.size
          clear hc31
          obtain ⟨Bp31, dp31, rfl, _⟩ := (Rd.of_own hod.ports).shape
          obtain ⟨Bw31, dw31, rfl, _⟩ := (Rd.of_own hod.ways).shape
          refine EL.val (x_move rfl) rfl ?_
          refine EL.call (cl_30 rfl) rfl (ints_any mv _ _ B (hrm.below (hbw.mono hB)) (Nat.le_trans hB hbw.size) (by omega)) ?_
          rintro e w32 ⟨⟨vl32, rfl, hoi⟩, hc32⟩
          refine ⟨_, rfl, ?_⟩
          replace q1 := q1.below hc32 q1.lt
          replace hop := own_below hop hc32 (Nat.le_refl _)
          replace hoc := hoc.below hc32
          replace hod := hod.below hc32
          replace hbw := Below.on hbw hc32 hbw.size
          clear hc32
          obtain ⟨Al32, cl32, rfl, _⟩ := (Rd.of_own hoi).shape
          refine EL.val (x_move rfl) rfl ?_
          refine EL.call (cl_33 rfl rfl rfl) rfl (proves_to hPV hPE _ _ _ _ hod.rd (Nat.le_refl _) (by omega) (by omega) _ _ (Rd.of_own hoi) (Rd.of_own hop) (by omega) (by omega)) ?_
          rintro e w33 ⟨rfl, hc33⟩
          refine ⟨_, rfl, ?_⟩
          replace q1 := q1.below hc33 q1.lt
          replace hop := own_below hop hc33 (Nat.le_refl _)
          replace hoc := hoc.below hc33
          replace hod := hod.below hc33
          replace hoi := own_below hoi hc33 (Nat.le_refl _)
          replace hbw := Below.on hbw hc33 hbw.size
          clear hc33
          refine EL.val (x_move rfl) rfl ?_
          refine EL.val (x_extract rfl rfl) rfl ?_
          refine EL.val (x_extract rfl rfl) rfl ?_
          refine EL.val (x_assign rfl) rfl ?_
          refine EL.val (x_assign rfl) rfl ?_
          refine EL.nil ?_
          refine EX.seq ?_
          refine EC.seq ?_
          refine EC.seq ?_
          refine EC.region ?_
          refine EL.val (x_move rfl) rfl ?_
          refine EL.val (x_move rfl) rfl ?_
          refine EL.call (cl_25 rfl rfl) rfl (equal_same pr _ _ _ _ (Rd.of_own hop) ((hrp.below (hbw.mono hB)).more (Nat.le_trans hB hbw.size)) (Nat.le_refl _) (by omega)) ?_
          rintro e w34 ⟨rfl, hc34⟩
          refine ⟨_, rfl, ?_⟩
          replace q1 := q1.below hc34 q1.lt
          replace hop := own_below hop hc34 (Nat.le_refl _)
          replace hoc := hoc.below hc34
          replace hod := hod.below hc34
          replace hoi := own_below hoi hc34 (Nat.le_refl _)
          replace hbw := Below.on hbw hc34 hbw.size
          clear hc34
          refine EL.val (x_not rfl) rfl ?_
          refine EL.nil ?_
          refine EX.seq ?_
          refine EC.no rfl ?_
          refine EC.skip ?_
          refine EX.seq ?_
          refine EC.seq ?_
          refine EC.seq ?_
          refine EC.region ?_
          refine EL.val (ld_25 rfl (q1.at (j := 0) rfl) (q1.at (j := 1) rfl)) rfl ?_
          refine EL.call (cl_17 rfl) rfl (rnet_to (b := true) hv _ _ _ B (hr.below (hbw.mono hB)) (Nat.le_trans hB hbw.size) (by omega) (by omega)) ?_
          rintro e w35 ⟨rfl, hc35⟩
          refine ⟨_, rfl, ?_⟩
          replace q1 := q1.below hc35 q1.lt
          replace hop := own_below hop hc35 (Nat.le_refl _)
          replace hoc := hoc.below hc35
          replace hod := hod.below hc35
          replace hoi := own_below hoi hc35 (Nat.le_refl _)
          replace hbw := Below.on hbw hc35 hbw.size
          clear hc35
          refine EL.val (x_not rfl) rfl ?_
          refine EL.nil ?_
          refine EX.seq ?_
          refine EC.no rfl ?_
          refine EC.skip ?_
          refine EX.seq ?_
          refine EC.seq ?_
          refine EC.regionQ (by kernel_rfl) (by kernel_rfl) ?_
          refine EQ.val (fun _ hw => (ld_25 rfl (below_load hw (q1.at (j := 0) rfl)) (below_load hw (q1.at (j := 1) rfl)))) rfl ?_
          refine EQ.val (fun _ hw => (x_move rfl)) rfl ?_
          refine EQ.call (fun _ _ _ ha => cl_20 rfl rfl _ ha) rfl (fun W hw => (rprices_to hp _ _ _ W B (hr.below ((hbw.trans (hw.mono hbw.size)).mono hB)) (hrp.below ((hbw.trans (hw.mono hbw.size)).mono hB)) (Nat.le_trans hB (Nat.le_trans hbw.size hw.size)) (by omega) (by omega)).mono fun e w' h => ⟨h.1, hw.trans (h.2.mono hw.size)⟩) ?_
          refine EQ.val (fun _ hw => (ld_25 rfl (below_load hw (q1.at (j := 0) rfl)) (below_load hw (q1.at (j := 1) rfl)))) rfl ?_
          refine EQ.val (fun _ hw => (x_move rfl)) rfl ?_
          refine EQ.call (fun _ _ _ ha => cl_19 rfl rfl _ ha) rfl (fun W hw => (rpossible_any nt mv _ _ _ W B (hr.below ((hbw.trans (hw.mono hbw.size)).mono hB)) (hrm.below ((hbw.trans (hw.mono hbw.size)).mono hB)) (Nat.le_trans hB (Nat.le_trans hbw.size hw.size)) (by omega) hv).mono fun e w' h => ⟨h.1, hw.trans (h.2.mono hw.size)⟩) ?_
          refine EQ.val (fun _ hw => (x_assign rfl)) rfl ?_
          refine EQ.val (fun _ hw => (x_assign rfl)) rfl ?_
          refine EQ.fin (fun w36 hw_ => ?_)
          replace q1 := q1.below hw_ q1.lt
          replace hop := own_below hop hw_ (Nat.le_refl _)
          replace hoc := hoc.below hw_
          replace hod := hod.below hw_
          replace hoi := own_below hoi hw_ (Nat.le_refl _)
          replace hbw := Below.on hbw hw_ hbw.size
          clear hw_
          refine EX.seq ?_
          refine EC.seq ?_
          refine EC.seq ?_
          refine EC.region ?_
          refine EL.val (x_move rfl) rfl ?_
          refine EL.val (x_neq (r := false) rfl rfl (decide_eq_false (fun h => h rfl))) rfl ?_
          refine EL.nil ?_
          refine EX.seq ?_
          refine EC.no rfl ?_
          refine EC.seq ?_
          refine EC.region ?_
          refine EL.val (x_move rfl) rfl ?_
          refine EL.val (x_neq (r := false) rfl rfl (decide_eq_false (fun h => h rfl))) rfl ?_
          refine EL.val (x_move rfl) rfl ?_
          refine EL.valg rfl rfl (x_move rfl) rfl ?_
          refine EL.valg rfl rfl (ld_25 rfl (q1.at (j := 0) rfl) (q1.at (j := 1) rfl)) rfl ?_
          refine EL.valg rfl rfl (x_move rfl) rfl ?_
          refine EL.callg rfl rfl (cl_34 rfl rfl) rfl (rbound_any nt pr _ _ _ _ B (hr.below (hbw.mono hB)) (hrp.below (hbw.mono hB)) (Nat.le_trans hB hbw.size) hv hp) ?_
          rintro e w37 ⟨rfl, hc37⟩
          refine ⟨_, rfl, ?_⟩
          replace q1 := q1.below hc37 q1.lt
          replace hop := own_below hop hc37 (Nat.le_refl _)
          replace hoc := hoc.below hc37
          replace hod := hod.below hc37
          replace hoi := own_below hoi hc37 (Nat.le_refl _)
          replace hbw := Below.on hbw hc37 hbw.size
          clear hc37
          refine EL.valg rfl rfl (x_neq (r := false) rfl rfl (decide_eq_false (fun h => h rfl))) rfl ?_
          refine EL.val (x_pick_f rfl rfl) rfl ?_
          refine EL.nil ?_
          refine EX.seq ?_
          refine EC.no rfl ?_
          refine EC.skip ?_
          refine EX.seq ?_
          refine EC.seq ?_
          refine EC.seq ?_
          refine EC.region ?_
          refine EL.val (x_move rfl) rfl ?_
          refine EL.val (x_neq (r := true) rfl rfl (decide_eq_true ha)) rfl ?_
          refine EL.nil ?_
          refine EX.seq ?_
          refine EC.yes rfl ?_
          refine EC.region ?_
          refine EL.val (x_move rfl) rfl ?_
          refine EL.val (x_assign rfl) rfl ?_
          refine EL.nil ?_
          refine EX.seq ?_
          refine EC.seq ?_
          refine EC.seq ?_
          refine EC.region ?_
          refine EL.val (x_move rfl) rfl ?_
          refine EL.val (x_neq (r := true) rfl rfl (decide_eq_true ha)) rfl ?_
          refine EL.nil ?_
          refine EX.seq ?_
          refine EC.yes rfl ?_
          refine EC.seq ?_
          refine EC.region ?_
          refine EL.val (x_move rfl) rfl ?_
          refine EL.val (x_move rfl) rfl ?_
          refine EL.val (x_eql (r := true) rfl rfl (decide_eq_true rfl)) rfl ?_
          refine EL.val (x_move rfl) rfl ?_
          refine EL.valg rfl rfl (x_move rfl) rfl ?_
          refine EL.valg rfl rfl (x_not rfl) rfl ?_
          refine EL.val (x_pick_t rfl rfl) rfl ?_
          refine EL.val (x_move rfl) rfl ?_
          refine EL.callg rfl rfl cl_13 rfl (known_any _) ?_
          rintro e w38 ⟨rfl, hc38⟩
          refine ⟨_, rfl, ?_⟩
          replace q1 := q1.below hc38 q1.lt
          replace hop := own_below hop hc38 (Nat.le_refl _)
          replace hoc := hoc.below hc38
          replace hod := hod.below hc38
          replace hoi := own_below hoi hc38 (Nat.le_refl _)
          replace hbw := Below.on hbw hc38 hbw.size
          clear hc38
          refine EL.val (x_pick_t rfl rfl) rfl ?_
          refine EL.val (x_assign rfl) rfl ?_
          refine EL.nil ?_
          refine EX.seq ?_
          refine EC.ret ?_
          refine EX.seq_ret ?_
          exact EX.done (res1 rfl rfl) ⟨rfl, hbw⟩
        ·
          refine EL.call (cl_32 rfl rfl) rfl (bound_to hBV hBE _ _ _ _ hoc.rd (Nat.le_refl _) (by omega) (by omega) _ (Rd.of_own hop) (by omega)) ?_
          rintro e w39 ⟨rfl, hc39⟩
          refine ⟨_, rfl, ?_⟩
          replace q1 := q1.below hc39 q1.lt
          replace hop := own_below hop hc39 (Nat.le_refl _)
          replace hoc := hoc.below hc39
          replace hbw := Below.on hbw hc39 hbw.size
          clear hc39
          refine EL.val (x_move rfl) rfl ?_
          refine EL.val (x_extract rfl rfl) rfl ?_
          refine EL.val (x_extract rfl rfl) rfl ?_
          refine EL.val (x_assign rfl) rfl ?_
          refine EL.val (x_assign rfl) rfl ?_
          refine EL.nil ?_
          refine EX.seq ?_
          refine EC.seq ?_
          refine EC.region ?_
          refine EL.val (ld_25 rfl (q1.at (j := 0) rfl) (q1.at (j := 1) rfl)) rfl ?_
          refine EL.call (cl_14 rfl) rfl (copied_any nt _ _ _ B (hr.below (hbw.mono hB)) (Nat.le_trans hB hbw.size) (by omega) (by omega)) ?_
          rintro e w40 ⟨⟨vp40, vw40, rfl, hod⟩, hc40⟩
          refine ⟨_, rfl, ?_⟩
          replace q1 := q1.below hc40 q1.lt
          replace hop := own_below hop hc40 (Nat.le_refl _)
          replace hoc := hoc.below hc40
          replace hbw := Below.on hbw hc40 hbw.size
          clear hc40
          obtain ⟨Bp40, dp40, rfl, _⟩ := (Rd.of_own hod.ports).shape
          obtain ⟨Bw40, dw40, rfl, _⟩ := (Rd.of_own hod.ways).shape
          refine EL.val (x_move rfl) rfl ?_
          refine EL.call (cl_30 rfl) rfl (ints_any mv _ _ B (hrm.below (hbw.mono hB)) (Nat.le_trans hB hbw.size) (by omega)) ?_
          rintro e w41 ⟨⟨vl41, rfl, hoi⟩, hc41⟩
          refine ⟨_, rfl, ?_⟩
          replace q1 := q1.below hc41 q1.lt
          replace hop := own_below hop hc41 (Nat.le_refl _)
          replace hoc := hoc.below hc41
          replace hod := hod.below hc41
          replace hbw := Below.on hbw hc41 hbw.size
          clear hc41
          obtain ⟨Al41, cl41, rfl, _⟩ := (Rd.of_own hoi).shape
          refine EL.val (x_move rfl) rfl ?_
          refine EL.call (cl_33 rfl rfl rfl) rfl (proves_to hPV hPE _ _ _ _ hod.rd (Nat.le_refl _) (by omega) (by omega) _ _ (Rd.of_own hoi) (Rd.of_own hop) (by omega) (by omega)) ?_
          rintro e w42 ⟨rfl, hc42⟩
          refine ⟨_, rfl, ?_⟩
          replace q1 := q1.below hc42 q1.lt
          replace hop := own_below hop hc42 (Nat.le_refl _)
          replace hoc := hoc.below hc42
          replace hod := hod.below hc42
          replace hoi := own_below hoi hc42 (Nat.le_refl _)
          replace hbw := Below.on hbw hc42 hbw.size
          clear hc42
          refine EL.val (x_move rfl) rfl ?_
          refine EL.val (x_extract rfl rfl) rfl ?_
          refine EL.val (x_extract rfl rfl) rfl ?_
          refine EL.val (x_assign rfl) rfl ?_
          refine EL.val (x_assign rfl) rfl ?_
          refine EL.nil ?_
          refine EX.seq ?_
          refine EC.seq ?_
          refine EC.seq ?_
          refine EC.region ?_
          refine EL.val (x_move rfl) rfl ?_
          refine EL.val (x_move rfl) rfl ?_
          refine EL.call (cl_25 rfl rfl) rfl (equal_same pr _ _ _ _ (Rd.of_own hop) ((hrp.below (hbw.mono hB)).more (Nat.le_trans hB hbw.size)) (Nat.le_refl _) (by omega)) ?_
          rintro e w43 ⟨rfl, hc43⟩
          refine ⟨_, rfl, ?_⟩
          replace q1 := q1.below hc43 q1.lt
          replace hop := own_below hop hc43 (Nat.le_refl _)
          replace hoc := hoc.below hc43
          replace hod := hod.below hc43
          replace hoi := own_below hoi hc43 (Nat.le_refl _)
          replace hbw := Below.on hbw hc43 hbw.size
          clear hc43
          refine EL.val (x_not rfl) rfl ?_
          refine EL.nil ?_
          refine EX.seq ?_
          refine EC.no rfl ?_
          refine EC.skip ?_
          refine EX.seq ?_
          refine EC.seq ?_
          refine EC.seq ?_
          refine EC.region ?_
          refine EL.val (ld_25 rfl (q1.at (j := 0) rfl) (q1.at (j := 1) rfl)) rfl ?_
          refine EL.call (cl_17 rfl) rfl (rnet_to (b := true) hv _ _ _ B (hr.below (hbw.mono hB)) (Nat.le_trans hB hbw.size) (by omega) (by omega)) ?_
          rintro e w44 ⟨rfl, hc44⟩
          refine ⟨_, rfl, ?_⟩
          replace q1 := q1.below hc44 q1.lt
          replace hop := own_below hop hc44 (Nat.le_refl _)
          replace hoc := hoc.below hc44
          replace hod := hod.below hc44
          replace hoi := own_below hoi hc44 (Nat.le_refl _)
          replace hbw := Below.on hbw hc44 hbw.size
          clear hc44
          refine EL.val (x_not rfl) rfl ?_
          refine EL.nil ?_
          refine EX.seq ?_
          refine EC.no rfl ?_
          refine EC.skip ?_
          refine EX.seq ?_
          refine EC.seq ?_
          refine EC.regionQ (by kernel_rfl) (by kernel_rfl) ?_
          refine EQ.val (fun _ hw => (ld_25 rfl (below_load hw (q1.at (j := 0) rfl)) (below_load hw (q1.at (j := 1) rfl)))) rfl ?_
          refine EQ.val (fun _ hw => (x_move rfl)) rfl ?_
          refine EQ.call (fun _ _ _ ha => cl_20 rfl rfl _ ha) rfl (fun W hw => (rprices_to hp _ _ _ W B (hr.below ((hbw.trans (hw.mono hbw.size)).mono hB)) (hrp.below ((hbw.trans (hw.mono hbw.size)).mono hB)) (Nat.le_trans hB (Nat.le_trans hbw.size hw.size)) (by omega) (by omega)).mono fun e w' h => ⟨h.1, hw.trans (h.2.mono hw.size)⟩) ?_
          refine EQ.val (fun _ hw => (ld_25 rfl (below_load hw (q1.at (j := 0) rfl)) (below_load hw (q1.at (j := 1) rfl)))) rfl ?_
          refine EQ.val (fun _ hw => (x_move rfl)) rfl ?_
          refine EQ.call (fun _ _ _ ha => cl_19 rfl rfl _ ha) rfl (fun W hw => (rpossible_to ha _ _ _ W B (hr.below ((hbw.trans (hw.mono hbw.size)).mono hB)) (hrm.below ((hbw.trans (hw.mono hbw.size)).mono hB)) (Nat.le_trans hB (Nat.le_trans hbw.size hw.size)) (by omega) hv).mono fun e w' h => ⟨h.1, hw.trans (h.2.mono hw.size)⟩) ?_
          refine EQ.val (fun _ hw => (x_assign rfl)) rfl ?_
          refine EQ.val (fun _ hw => (x_assign rfl)) rfl ?_
          refine EQ.fin (fun w45 hw_ => ?_)
          replace q1 := q1.below hw_ q1.lt
          replace hop := own_below hop hw_ (Nat.le_refl _)
          replace hoc := hoc.below hw_
          replace hod := hod.below hw_
          replace hoi := own_below hoi hw_ (Nat.le_refl _)
          replace hbw := Below.on hbw hw_ hbw.size
          clear hw_
          refine EX.seq ?_
          refine EC.seq ?_
          refine EC.seq ?_
          refine EC.region ?_
          refine EL.val (x_move rfl) rfl ?_
          refine EL.val (x_neq (r := false) rfl rfl (decide_eq_false (fun h => h rfl))) rfl ?_
          refine EL.nil ?_
          refine EX.seq ?_
          refine EC.no rfl ?_
          refine EC.seq ?_
          refine EC.region ?_
          refine EL.val (x_move rfl) rfl ?_
          refine EL.val (x_neq (r := false) rfl rfl (decide_eq_false (fun h => h rfl))) rfl ?_
          refine EL.val (x_move rfl) rfl ?_
          refine EL.valg rfl rfl (x_move rfl) rfl ?_
          refine EL.valg rfl rfl (ld_25 rfl (q1.at (j := 0) rfl) (q1.at (j := 1) rfl)) rfl ?_
          refine EL.valg rfl rfl (x_move rfl) rfl ?_
          refine EL.callg rfl rfl (cl_34 rfl rfl) rfl (rbound_any nt pr _ _ _ _ B (hr.below (hbw.mono hB)) (hrp.below (hbw.mono hB)) (Nat.le_trans hB hbw.size) hv hp) ?_
          rintro e w46 ⟨rfl, hc46⟩
          refine ⟨_, rfl, ?_⟩
          replace q1 := q1.below hc46 q1.lt
          replace hop := own_below hop hc46 (Nat.le_refl _)
          replace hoc := hoc.below hc46
          replace hod := hod.below hc46
          replace hoi := own_below hoi hc46 (Nat.le_refl _)
          replace hbw := Below.on hbw hc46 hbw.size
          clear hc46
          refine EL.valg rfl rfl (x_neq (r := false) rfl rfl (decide_eq_false (fun h => h rfl))) rfl ?_
          refine EL.val (x_pick_f rfl rfl) rfl ?_
          refine EL.nil ?_
          refine EX.seq ?_
          refine EC.no rfl ?_
          refine EC.skip ?_
          refine EX.seq ?_
          refine EC.seq ?_
          refine EC.seq ?_
          refine EC.region ?_
          refine EL.val (x_move rfl) rfl ?_
          refine EL.val (x_neq (r := false) rfl rfl (decide_eq_false (fun h => h rfl))) rfl ?_
          refine EL.nil ?_
          refine EX.seq ?_
          refine EC.no rfl ?_
          refine EC.skip ?_
          refine EX.seq ?_
          refine EC.seq ?_
          refine EC.seq ?_
          refine EC.region ?_
          refine EL.val (x_move rfl) rfl ?_
          refine EL.val (x_neq (r := false) rfl rfl (decide_eq_false (fun h => h rfl))) rfl ?_
          refine EL.nil ?_
          refine EX.seq ?_
          refine EC.no rfl ?_
          refine EC.skip ?_
          refine EX.seq ?_
          refine EC.seq ?_
          refine EC.region ?_
          refine EL.val (x_move rfl) rfl ?_
          refine EL.val (x_eql (r := true) rfl rfl (decide_eq_true rfl)) rfl ?_
          refine EL.val (x_move rfl) rfl ?_
          refine EL.valg rfl rfl (x_move rfl) rfl ?_
          refine EL.valg rfl rfl (ld_25 rfl (q1.at (j := 0) rfl) (q1.at (j := 1) rfl)) rfl ?_
          refine EL.valg rfl rfl (x_move rfl) rfl ?_
          refine EL.valg rfl rfl (x_move rfl) rfl ?_
          refine EL.callg rfl rfl (cl_22 rfl rfl rfl) rfl (rproves_any nt mv pr _ _ _ _ _ B (hr.below (hbw.mono hB)) (hrm.below (hbw.mono hB)) (hrp.below (hbw.mono hB)) (Nat.le_trans hB hbw.size) hv ha hp) ?_
          rintro e w47 ⟨rfl, hc47⟩
          refine ⟨_, rfl, ?_⟩
          replace q1 := q1.below hc47 q1.lt
          replace hop := own_below hop hc47 (Nat.le_refl _)
          replace hoc := hoc.below hc47
          replace hod := hod.below hc47
          replace hoi := own_below hoi hc47 (Nat.le_refl _)
          replace hbw := Below.on hbw hc47 hbw.size
          clear hc47
          refine EL.valg rfl rfl (eql_bool (r := true) rfl rfl (by simp)) rfl ?_
          refine EL.val (x_pick_t rfl rfl) rfl ?_
          refine EL.val (x_move rfl) rfl ?_
          refine EL.callg rfl rfl cl_13 rfl (known_any _) ?_
          rintro e w48 ⟨rfl, hc48⟩
          refine ⟨_, rfl, ?_⟩
          replace q1 := q1.below hc48 q1.lt
          replace hop := own_below hop hc48 (Nat.le_refl _)
          replace hoc := hoc.below hc48
          replace hod := hod.below hc48
          replace hoi := own_below hoi hc48 (Nat.le_refl _)
          replace hbw := Below.on hbw hc48 hbw.size
          clear hc48
          refine EL.val (x_pick_t rfl rfl) rfl ?_
          refine EL.val (x_assign rfl) rfl ?_
          refine EL.nil ?_
          refine EX.seq ?_
          refine EC.ret ?_
          exact EX.done (res1 rfl rfl) ⟨rfl, hbw⟩
  ·
    refine EL.call (cl_29 rfl) rfl (large_to (b := true) hlg _ _ _ B (hr.below (hbw.mono hB))) ?_
    rintro e w49 ⟨rfl, hc49⟩
    refine ⟨_, rfl, ?_⟩
    replace q1 := q1.below hc49 q1.lt
    replace hbw := Below.on hbw hc49 hbw.size
    clear hc49
    refine EL.val (x_move rfl) rfl ?_
    refine EL.skip rfl rfl rfl rfl ?_
    refine EL.skip rfl rfl rfl rfl ?_
    refine EL.skip rfl rfl rfl rfl ?_
    refine EL.val (x_pick_t rfl rfl) rfl ?_
    refine EL.val (x_move rfl) rfl ?_
    refine EL.skip rfl rfl rfl rfl ?_
    refine EL.skip rfl rfl rfl rfl ?_
    refine EL.skip rfl rfl rfl rfl ?_
    refine EL.val (x_pick_t rfl rfl) rfl ?_
    refine EL.nil ?_
    refine EX.seq ?_
    refine EC.yes rfl ?_
    refine EC.seq ?_
    refine EC.region ?_
    refine EL.call cl_13 rfl (known_any _) ?_
    rintro e w50 ⟨rfl, hc50⟩
    refine ⟨_, rfl, ?_⟩
    replace q1 := q1.below hc50 q1.lt
    replace hbw := Below.on hbw hc50 hbw.size
    clear hc50
    refine EL.val (x_assign rfl) rfl ?_
    refine EL.nil ?_
    refine EX.seq ?_
    refine EC.ret ?_
    refine EX.seq_ret ?_
    exact EX.done (res1 rfl rfl) ⟨rfl, hbw⟩
end Go.Proofs.Ytabgmnmpdjnjoaa
