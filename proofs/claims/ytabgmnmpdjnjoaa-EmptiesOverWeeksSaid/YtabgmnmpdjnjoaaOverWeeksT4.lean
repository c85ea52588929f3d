/- X12, EmRun, ExX13, X13, ExX14, X14, ELift, X15, ExX17, EmDual, EmOpt, EmWeek, EmPlan, ExX31, X31, E20, E21, ExX32, X32, ExX33, X33, ExX34: what EmptiesOverWeeksProof needs of them (merged by trimpack.py). -/
import Derived.Test.YtabgmnmpdjnjoaaOverWeeksT3
set_option linter.unusedVariables false
set_option linter.unusedSimpArgs false
namespace Go.Proofs.Ytabgmnmpdjnjoaa
open Go Go.RowKit
theorem run_eqlS {P : Program} {w : World} {t e : TypeId} {b o m c : Nat} (ht : P.underlying t = some (.slice e)) : (binOp .eql t (.slice (some ⟨b, o, none⟩) m c) (.slice none 0 0)).run P w = .ok (.bool false) w := by
  have h : ∀ d : Nat, (Op.equalIn (d + 1) t (.slice (some ⟨b, o, none⟩) m c) (.slice none 0 0)).run P w = .ok false w := fun d => by
    simp [Op.equalIn, run_underlying ht]
  simp only [binOp]
  simp [Op.equal, Op.maxDepth, h 9999]
theorem x_eqlS {P : Program} {n : Nat} {σ : Sg} {w : World} {dst : Option Tmp} {ty t t' e : TypeId} {pos : String} {af : Array Edge} {g : Option (Nat × Bool)} {x y : Operand} {b o m c : Nat} (ht : P.underlying t = some (.slice e)) (hx : evS σ x = some (.slice (some ⟨b, o, none⟩) m c)) (hy : evS σ y = some (.slice none 0 0)) : Gives P n σ w ⟨dst, .binOp .eql t x y t', ty, pos, af, g⟩ (.bool false) := fun a ha => by
  simp only [execOp, ha.eval hx, ha.eval hy]
  simp [run_eqlS ht, Result.andThen, eqGuard, ha.eval hx, ha.eval hy]
theorem EL.copy {P : Program} {n : Nat} {L : List Oper} {Q : Exit → Act → World → Prop} {rest : List Oper} {σ : Sg} {w : World} {d ty t e size bytes base B mm g : Nat} {s x : Operand} {pos : String} {af : Array Edge} (E : Elem P t e size bytes) {src : Value} {news : List Value} (hs : evS σ s = some (.slice (some ⟨g, 0, none⟩) 0 0)) (hx : evS σ x = some src)
    (hq : Blk w g e #[]) (hg : base ≤ g) (hr : Rd w B size src mm news) (h1 : ∀ u ∈ news, u.oneCell' = true) (hm : mm ≤ 1048576) (hby : bytes ≤ 1048576) (hbase : base ≤ w.heap.size) (hd : Nat.blt d n = true)
    (next : ∀ v' w', w'.ownsRow base e size v' mm news → Below w.heap.size w w' → EL P n L Q rest (ins σ d v') w') : EL P n L Q (⟨some d, .call { callee := .builtin .append, args := #[s, x], argTypes := #[t, t] }, ty, pos, af, none⟩ :: rest) σ w := fun a ha => by
  obtain ⟨v', w', h2, h3, h4⟩ := run_copy (P := P) (ty := ty) E hq hg hr h1 hm hby hbase
  exact wpL_run (wanted_none rfl _) (run_append_call rfl (ha.eval hs) (ha.eval hx) h2) (next v' w' h3 h4 _ (ha.put hd _))
theorem clone_any (l : List Prt) (v : Value) (w : World) (B : Nat) (hr : Rd w B 2 v l.length (prtsC l)) (hB : B ≤ w.heap.size) (h0 : 0 < l.length) (hn : l.length ≤ 1048576) :
    Calls Try.prog 53 #[v] w fun e w' => (∃ v', e = .returned v' ∧ w'.ownsRow w.heap.size 47 2 v' l.length (prtsC l)) ∧ Below w.heap.size w w' := by
  obtain ⟨A, c, rfl, _⟩ := hr.shape
  obtain ⟨b0, o0, e0_, _⟩ := prts_cells l 0 h0 _ _ _ _ _ hr
  subst e0_
  have hbw := Below.refl w.heap.size w
  refine EC.enter 8 Try.func53 rfl rfl rfl ?_
  refine EC.seq ?_
  refine EC.region ?_
  refine EL.val (x_assign rfl) rfl ?_
  refine EL.nil ?_
  refine EX.seq ?_
  refine EC.seq ?_
  refine EC.seq ?_
  refine EC.region ?_
  refine EL.val (x_move rfl) rfl ?_
  refine EL.val (x_eqlS Try.underlying22 rfl rfl) rfl ?_
  refine EL.nil ?_
  refine EX.seq ?_
  refine EC.no rfl ?_
  refine EC.skip ?_
  refine EX.seq ?_
  refine EC.seq ?_
  refine EC.region ?_
  have hsz := hbw.size
  refine EL.newS bs_22_0 rfl ?_
  intro g1 w1 q1 hb1 hg1 hl1
  have bhbw_1 := Nat.le_trans hbw.size hg1
  replace hbw := Below.on hbw hb1 hbw.size
  clear hb1 hl1
  have hsz2 := hbw.size
  refine EL.val (x_move rfl) rfl ?_
  refine EL.copy prt_elem rfl rfl (base := w.heap.size) q1 (Nat.le_trans hsz hg1) (hr.below (hbw.mono hB)) (prtsC_one l) (by omega) (by omega) hbw.size rfl ?_
  intro v2 w2 ho hb2
  replace hbw := Below.on hbw hb2 hbw.size
  clear hb2
  refine EL.val (x_assign rfl) rfl ?_
  refine EL.nil ?_
  refine EX.seq ?_
  refine EC.ret ?_
  exact EX.done (res1 rfl rfl) ⟨⟨_, rfl, ho⟩, hbw⟩
theorem prts_cut (l r : List Prt) (c : Prt) (x : Int) : spl (prtsC (l ++ c :: r)) (0 + l.length * 2) [.int .i64 x] = prtsC (l ++ ⟨x, c.wants⟩ :: r) := by
  have e : ∀ (xs ys : List Value) (n : Nat), n = xs.length → spl (xs ++ ys) n [.int .i64 x] = xs ++ spl ys 0 [.int .i64 x] := by
    intro xs
    induction xs with
    | nil => intro ys n hn; subst hn; rfl
    | cons u xs ih =>
      intro ys n hn
      obtain rfl : n = xs.length + 1 := hn
      show u :: spl (xs ++ ys) xs.length _ = _
      rw [ih ys xs.length rfl]
      rfl
  rw [prtsC_app, prtsC_app, Nat.zero_add, e _ _ _ (by rw [prtsC_len])]
  congr 1
theorem spl_prts {l : List Prt} {k : Nat} (h : k < l.length) : spl (prtsC l) (0 + k * 2) [.int .i64 ((l.getD k prt0).has + 1)] = prtsC (l.set k (moreP (l.getD k prt0))) := by
  have hL : l = l.take k ++ l.getD k prt0 :: l.drop (k + 1) := by
    rw [show l.getD k prt0 = l[k] by simp [List.getD, h], ← List.drop_eq_getElem_cons h, List.take_append_drop]
  have hl : (l.take k).length = k := by rw [List.length_take]; omega
  have key := prts_cut (l.take k) (l.drop (k + 1)) (l.getD k prt0) ((l.getD k prt0).has + 1)
  rw [hl, ← hL] at key
  rw [key, List.set_eq_take_append_cons_drop, if_pos h, moreP]
set_option maxHeartbeats 1000000 in
theorem more_any (nt : Net) (port : Int) (vp vw : Value) (w : World) (B : Nat) (hr : RdNet w B vp vw nt) (hB : B ≤ w.heap.size) (hn1 : nt.ports.length ≤ 1073741824) (hn2 : nt.ways.length ≤ 1073741824) :
    Calls Try.prog 26 #[.agg #[vp, vw], .int .i64 port] w fun e w' => (∃ m err, e = .returned (.tuple #[.int .i64 m, .int .i64 err]) ∧ MoreR nt port m err) ∧ Below w.heap.size w w' := by
  obtain ⟨Ap, cp_, rfl, _⟩ := hr.ports.shape
  obtain ⟨Aw, cw_, rfl, _⟩ := hr.ways.shape
  have hbw := Below.refl w.heap.size w
  refine EC.enter 67 Try.func26 rfl rfl rfl ?_
  refine EC.seq ?_
  refine EC.region ?_
  refine EL.newP (bx_25 rfl) rfl ?_
  intro g1 w1 q1 hb1 hg1 hl1
  have bhbw_1 := Nat.le_trans hbw.size hg1
  replace hbw := Below.on hbw hb1 hbw.size
  clear hb1 hg1 hl1
  refine EL.val (x_assign rfl) rfl ?_
  refine EL.val (x_assign rfl) rfl ?_
  refine EL.nil ?_
  refine EX.seq ?_
  refine EC.seq ?_
  refine EC.block ?_
  refine EC.seq ?_
  refine EC.region ?_
  refine EL.val (ld_25 rfl (q1.at (j := 0) rfl) (q1.at (j := 1) rfl)) rfl ?_
  by_cases hv : netB nt = true
  ·
    obtain ⟨⟨hp1, hp60⟩, hw300, hvp, hvw⟩ := netB_ok hv
    refine EL.call (cl_27 rfl) rfl (check_to (e0 := 0) (by rw [netE, if_pos hv]) _ _ _ B (hr.below (hbw.mono hB)) (Nat.le_trans hB hbw.size) hn1 hn2) ?_
    rintro e w2 ⟨rfl, hc2⟩
    refine ⟨_, rfl, ?_⟩
    replace q1 := q1.below hc2 q1.lt
    replace hbw := Below.on hbw hc2 hbw.size
    clear hc2
    refine EL.val (x_neq (r := false) rfl rfl (by decide)) rfl ?_
    refine EL.val (x_assign rfl) rfl ?_
    refine EL.nil ?_
    refine EX.seq ?_
    refine EC.no rfl ?_
    refine EC.seq ?_
    refine EC.region ?_
    refine EL.val (fa_25_0 rfl) rfl ?_
    refine EL.val (ld_22 rfl (q1.at (j := 0) rfl)) rfl ?_
    refine EL.val (ln_22 rfl) rfl ?_
    refine EL.val (x_sub rfl rfl (c := ((nt.ports.length : Nat) : Int) - 1) (IntWalk.i64_in _ ⟨by omega, by omega⟩)) rfl ?_
    refine EL.val (x_move rfl) rfl ?_
    refine EL.newS (bs_29_1 rfl) rfl ?_
    intro g3 w3 q3 hb3 hg3 hl3
    have n1_3 : g1 ≠ g3 := Nat.ne_of_lt (Nat.lt_of_lt_of_le q1.lt hg3)
    have bhbw_3 := Nat.le_trans hbw.size hg3
    replace q1 := q1.below hb3 q1.lt
    replace hbw := Below.on hbw hb3 hbw.size
    clear hb3 hg3 hl3
    cases hin : inB 0 (((nt.ports.length : Nat) : Int) - 1) port
    ·
      have hpn : ¬(0 ≤ port ∧ port < nt.ports.length) := fun h => by rw [inB_iff.2 ⟨h.1, by omega⟩] at hin; cases hin
      refine EL.call (cl_52 rfl rfl rfl) rfl (within_1 (b := false) q3 hin) ?_
      rintro e w4 ⟨rfl, hc4⟩
      refine ⟨_, rfl, ?_⟩
      replace q1 := q1.below hc4 q1.lt
      replace q3 := q3.below hc4 q3.lt
      replace hbw := Below.on hbw hc4 hbw.size
      clear hc4
      refine EL.val (x_not rfl) rfl ?_
      refine EL.val (x_assign rfl) rfl ?_
      refine EL.nil ?_
      refine EX.seq ?_
      refine EC.yes rfl ?_
      refine EC.seq ?_
      refine EC.region ?_
      refine EL.val (x_assign rfl) rfl ?_
      refine EL.val (x_assign rfl) rfl ?_
      refine EL.nil ?_
      refine EX.seq ?_
      refine EC.ret ?_
      refine EX.blk_ret ?_
      refine EX.seq_ret ?_
      exact EX.done (res2 rfl rfl rfl) ⟨⟨_, _, rfl, .inr ⟨hv, .inl ⟨hpn, rfl, rfl⟩⟩⟩, hbw⟩
    ·
      have hpp := inB_iff.1 hin
      obtain ⟨k, rfl⟩ : ∃ k : Nat, port = ((k : Nat) : Int) := ⟨port.toNat, by omega⟩
      have hk : k < nt.ports.length := by omega
      have hpp2 : (0 : Int) ≤ ((k : Nat) : Int) ∧ ((k : Nat) : Int) < nt.ports.length := ⟨by omega, by omega⟩
      obtain ⟨bp, op, e_, _, pc0, pc1⟩ := prts_cells nt.ports k hk _ _ _ _ _ hr.ports
      subst e_
      obtain ⟨⟨ph0, ph1⟩, pw0, pw1⟩ := hvp k hk
      have hKN : (((k : Nat) : Int)).toNat = k := Int.toNat_natCast k
      refine EL.call (cl_52 rfl rfl rfl) rfl (within_1 (b := true) q3 hin) ?_
      rintro e w5 ⟨rfl, hc5⟩
      refine ⟨_, rfl, ?_⟩
      replace q1 := q1.below hc5 q1.lt
      replace hbw := Below.on hbw hc5 hbw.size
      clear hc5
      refine EL.val (x_not rfl) rfl ?_
      refine EL.val (x_assign rfl) rfl ?_
      refine EL.nil ?_
      refine EX.seq ?_
      refine EC.no rfl ?_
      refine EC.seq ?_
      refine EC.region ?_
      refine EL.val (fa_25_0 rfl) rfl ?_
      refine EL.val (ld_22 rfl (q1.at (j := 0) rfl)) rfl ?_
      refine EL.val (x_move rfl) rfl ?_
      refine EL.val (ix_22 rfl rfl hk) rfl ?_
      refine EL.val (fa_47_0 rfl) rfl ?_
      refine EL.val (ld_3 rfl (below_load hbw pc0)) rfl ?_
      by_cases hfu : (nt.ports.getD k prt0).has = 1000
      ·
        refine EL.val (x_eql (r := true) rfl rfl (decide_eq_true hfu)) rfl ?_
        refine EL.val (x_assign rfl) rfl ?_
        refine EL.nil ?_
        refine EX.seq ?_
        refine EC.yes rfl ?_
        refine EC.seq ?_
        refine EC.region ?_
        refine EL.val (x_assign rfl) rfl ?_
        refine EL.val (x_assign rfl) rfl ?_
        refine EL.nil ?_
        refine EX.seq ?_
        refine EC.ret ?_
        refine EX.blk_ret ?_
        refine EX.seq_ret ?_
        exact EX.done (res2 rfl rfl rfl) ⟨⟨_, _, rfl, .inr ⟨hv, .inr ⟨hpp2, .inl ⟨by rw [hKN]; exact hfu, rfl, rfl⟩⟩⟩⟩, hbw⟩
      ·
        refine EL.val (x_eql (r := false) rfl rfl (decide_eq_false hfu)) rfl ?_
        refine EL.val (x_assign rfl) rfl ?_
        refine EL.nil ?_
        refine EX.seq ?_
        refine EC.no rfl ?_
        refine EC.skip ?_
        refine EX.blk ?_
        refine EX.seq ?_
        refine EC.seq ?_
        refine EC.region ?_
        refine EL.val (ld_25 rfl (q1.at (j := 0) rfl) (q1.at (j := 1) rfl)) rfl ?_
        refine EL.call (cl_15 rfl) rfl (move_any nt _ _ _ B (hr.below (hbw.mono hB)) (Nat.le_trans hB hbw.size) hn1 hn2) ?_
        rintro e w6 ⟨⟨vm1, vr1, ml1, c1, pr1, e1, rfl, hm1, _, _⟩, hc6⟩
        refine ⟨_, rfl, ?_⟩
        replace q1 := q1.below hc6 q1.lt
        replace hbw := Below.on hbw hc6 hbw.size
        clear hc6
        refine EL.val (x_move rfl) rfl ?_
        refine EL.val (x_extract rfl rfl) rfl ?_
        refine EL.val (x_extract rfl rfl) rfl ?_
        refine EL.val (x_extract rfl rfl) rfl ?_
        refine EL.val (x_extract rfl rfl) rfl ?_
        refine EL.val (x_assign rfl) rfl ?_
        refine EL.val (x_assign rfl) rfl ?_
        refine EL.val (x_assign rfl) rfl ?_
        refine EL.val (x_assign rfl) rfl ?_
        refine EL.nil ?_
        refine EX.seq ?_
        refine EC.seq ?_
        refine EC.seq ?_
        refine EC.region ?_
        refine EL.val (x_move rfl) rfl ?_
        by_cases he0 : e1 = 0
        ·
          refine EL.val (x_neq (r := false) rfl rfl (decide_eq_false (by rw [he0]; exact fun h => h rfl))) rfl ?_
          refine EL.nil ?_
          refine EX.seq ?_
          refine EC.no rfl ?_
          refine EC.skip ?_
          refine EX.seq ?_
          refine EC.seq ?_
          refine EC.region ?_
          refine EL.val (fa_25_0 rfl) rfl ?_
          refine EL.val (ld_22 rfl (q1.at (j := 0) rfl)) rfl ?_
          refine EL.call (cl_53 rfl) rfl (clone_any nt.ports _ _ B (hr.below (hbw.mono hB)).ports (Nat.le_trans hB hbw.size) hp1 (by omega)) ?_
          rintro e w7 ⟨⟨vcl, rfl, hcl⟩, hc7⟩
          refine ⟨_, rfl, ?_⟩
          replace hcl := own_less hcl hbw.size
          replace q1 := q1.below hc7 q1.lt
          replace hbw := Below.on hbw hc7 hbw.size
          clear hc7
          obtain ⟨Ac, cc_, rfl, _⟩ := (Rd.of_own hcl).shape
          obtain ⟨gc, rfl⟩ := own_slice hcl hp1
          refine EL.val (fa_25_0 rfl) rfl ?_
          refine EL.store rfl rfl q1 sz_22 rfl rfl rfl rfl ?_
          intro w8 hq8 hg8
          replace hcl := own_type hcl q1 rfl hg8
          replace hbw := below_store hbw hg8 bhbw_1
          replace q1 := hq8
          clear hg8 hq8
          refine EL.nil ?_
          refine EX.seq ?_
          refine EC.seq ?_
          refine EC.region ?_
          refine EL.val (fa_25_0 rfl) rfl ?_
          refine EL.val (ld_22 rfl (q1.at (j := 0) rfl)) rfl ?_
          refine EL.val (x_move rfl) rfl ?_
          refine EL.val (ix_22 rfl rfl hk) rfl ?_
          refine EL.val (fa_47_0 rfl) rfl ?_
          obtain ⟨bq, oq, e2_, _, qc0, _⟩ := prts_cells nt.ports k hk _ _ _ _ _ (Rd.of_own hcl)
          injection e2_ with e2_
          injection e2_ with e3_ e4_
          subst e3_
          subst e4_
          refine EL.val (ld_3 rfl qc0) rfl ?_
          refine EL.val (x_add rfl rfl (c := (nt.ports.getD k prt0).has + 1) (IntWalk.i64_in _ ⟨by omega, by omega⟩)) rfl ?_
          refine EL.val (ix_22 rfl rfl hk) rfl ?_
          refine EL.val (fa_47_0 rfl) rfl ?_
          refine EL.storeRow (l' := [.int .i64 ((nt.ports.getD k prt0).has + 1)]) rfl rfl hcl sz_3 rfl rfl (by rw [prtsC_len]; omega) rfl ?_
          intro w9 hcl2 hgr
          rw [spl_prts hk] at hcl2
          replace q1 := blk_grown q1 hcl rfl hgr
          replace hbw := hbw.trans (below_row hcl hgr hbw.size)
          clear hcl hgr
          have hcl : World.ownsRow w9 w.heap.size 47 2 (.slice (some ⟨gc, 0, none⟩) nt.ports.length cc_) (moreN nt k).ports.length (prtsC (moreN nt k).ports) := own_n hcl2 (by show _ = (nt.ports.set _ _).length; rw [List.length_set])
          clear hcl2
          refine EL.nil ?_
          refine EX.seq ?_
          refine EC.seq ?_
          refine EC.region ?_
          refine EL.val (ld_25 rfl (q1.at (j := 0) rfl) (q1.at (j := 1) rfl)) rfl ?_
          have hrn : RdNet w9 w9.heap.size (.slice (some ⟨gc, 0, none⟩) nt.ports.length cc_) (.slice Aw nt.ways.length cw_) (moreN nt k) := ⟨Rd.of_own hcl, (hr.ways.below (hbw.mono hB)).more (Nat.le_trans hB hbw.size)⟩
          refine EL.call (cl_15 rfl) rfl (move_any (moreN nt k) _ _ _ _ hrn (Nat.le_refl _) (by show (nt.ports.set _ _).length ≤ _; rw [List.length_set]; exact hn1) hn2) ?_
          rintro e w10 ⟨⟨vm2, vr2, ml2, c2, pr2, e2, rfl, hm2, _, _⟩, hc10⟩
          have hbd1 := move_bd hm1
          have hbd2 := move_bd hm2
          refine ⟨_, rfl, ?_⟩
          replace q1 := q1.below hc10 q1.lt
          replace hcl := own_below hcl hc10 (Nat.le_refl _)
          replace hbw := Below.on hbw hc10 hbw.size
          clear hc10
          refine EL.val (x_move rfl) rfl ?_
          refine EL.val (x_extract rfl rfl) rfl ?_
          refine EL.val (x_extract rfl rfl) rfl ?_
          refine EL.val (x_extract rfl rfl) rfl ?_
          refine EL.val (x_extract rfl rfl) rfl ?_
          refine EL.val (x_assign rfl) rfl ?_
          refine EL.val (x_assign rfl) rfl ?_
          refine EL.val (x_assign rfl) rfl ?_
          refine EL.val (x_assign rfl) rfl ?_
          refine EL.nil ?_
          refine EX.seq ?_
          refine EC.seq ?_
          refine EC.region ?_
          refine EL.val (x_move rfl) rfl ?_
          refine EL.val (x_move rfl) rfl ?_
          refine EL.val (x_sub rfl rfl (c := c1 - c2) (IntWalk.i64_in _ ⟨by omega, by omega⟩)) rfl ?_
          refine EL.val (x_assign rfl) rfl ?_
          refine EL.val (x_assign rfl) rfl ?_
          refine EL.nil ?_
          refine EX.seq ?_
          refine EC.ret ?_
          exact EX.done (res2 rfl rfl rfl) ⟨⟨_, _, rfl, .inr ⟨hv, .inr ⟨hpp2, .inr ⟨by rw [hKN]; exact hfu, _, _, _, _, hm1, .inr ⟨he0, rfl, _, _, _, _, by rw [hKN]; exact hm2, rfl⟩⟩⟩⟩⟩, hbw⟩
        ·
          refine EL.val (x_neq (r := true) rfl rfl (decide_eq_true he0)) rfl ?_
          refine EL.nil ?_
          refine EX.seq ?_
          refine EC.yes rfl ?_
          refine EC.seq ?_
          refine EC.region ?_
          refine EL.val (x_assign rfl) rfl ?_
          refine EL.val (x_assign rfl) rfl ?_
          refine EL.nil ?_
          refine EX.seq ?_
          refine EC.ret ?_
          refine EX.seq_ret ?_
          exact EX.done (res2 rfl rfl rfl) ⟨⟨_, _, rfl, .inr ⟨hv, .inr ⟨hpp2, .inr ⟨by rw [hKN]; exact hfu, _, _, _, _, hm1, .inl ⟨he0, rfl, rfl⟩⟩⟩⟩⟩, hbw⟩
  ·
    have hvf : netB nt = false := by simpa using hv
    refine EL.call (cl_27 rfl) rfl (check_to (e0 := 2) (by rw [netE, if_neg hv]) _ _ _ B (hr.below (hbw.mono hB)) (Nat.le_trans hB hbw.size) hn1 hn2) ?_
    rintro e w11 ⟨rfl, hc11⟩
    refine ⟨_, rfl, ?_⟩
    replace q1 := q1.below hc11 q1.lt
    replace hbw := Below.on hbw hc11 hbw.size
    clear hc11
    refine EL.val (x_neq (r := true) rfl rfl (by decide)) rfl ?_
    refine EL.val (x_assign rfl) rfl ?_
    refine EL.nil ?_
    refine EX.seq ?_
    refine EC.yes rfl ?_
    refine EC.seq ?_
    refine EC.region ?_
    refine EL.val (x_assign rfl) rfl ?_
    refine EL.val (x_assign rfl) rfl ?_
    refine EL.nil ?_
    refine EX.seq ?_
    refine EC.ret ?_
    refine EX.blk_ret ?_
    refine EX.seq_ret ?_
    exact EX.done (res2 rfl rfl rfl) ⟨⟨_, _, rfl, .inl ⟨hvf, rfl, rfl⟩⟩, hbw⟩
end Go.Proofs.Ytabgmnmpdjnjoaa
set_option linter.unusedVariables false
set_option linter.unusedSimpArgs false
namespace Go.Proofs.Ytabgmnmpdjnjoaa
def fixedB (L : List Arc) (s : BF) : Bool := (List.range L.length).all fun i => !relaxes (arcAt L i) s.l
def bfRun (L : List Arc) (s : BF) : Nat → Option BF
  | 0 => none
  | f + 1 => if fixedB L s = true then some s else bfRun L (bfRound L s) f
theorem bfN_round (L : List Arc) (s : BF) : ∀ k, bfN L (bfRound L s) k = bfN L s (k + 1)
  | 0 => rfl
  | k + 1 => by rw [bfN, bfN_round L s k]; rfl
theorem bfRun_ok {L : List Arc} : ∀ {f : Nat} {s r : BF}, bfRun L s f = some r → EndsAt L s r.l r.by_
  | 0, s, r, h => by cases h
  | f + 1, s, r, h => by
    unfold bfRun at h
    split at h
    · rename_i hf
      injection h with h
      subst h
      exact ⟨0, fun i hi => by
        have := List.all_eq_true.1 hf i (List.mem_range.2 hi)
        show relaxes (arcAt L i) s.l = false
        simpa using this, rfl, rfl⟩
    · obtain ⟨k, h1, h2, h3⟩ := bfRun_ok h
      rw [bfN_round] at h1 h2 h3
      exact ⟨k + 1, h1, h2, h3⟩
def upRun (L : List Arc) (b : List Int) : Nat → Nat → Option Nat
  | 0, _ => none
  | f + 1, v => if b.getD v 0 = -1 then some 0 else if 0 ≤ b.getD v 0 then (upRun L b f (arcAt L (b.getD v 0).toNat).fr).map (· + 1) else none
theorem upRun_ok {L : List Arc} {b : List Int} : ∀ {f v k : Nat}, upRun L b f v = some k → Up L b v k
  | 0, v, k, h => by cases h
  | f + 1, v, k, h => by
    unfold upRun at h
    split at h
    · rename_i hb
      injection h with h
      subst h
      exact .root hb
    · split at h
      · rename_i hb
        cases e : upRun L b f (arcAt L (b.getD v 0).toNat).fr with
        | none => rw [e] at h; cases h
        | some j =>
          rw [e] at h
          injection h with h
          subst h
          exact .step (i := (b.getD v 0).toNat) (by omega) (upRun_ok e)
      · cases h
def fillRun (nt : Net) : Nat → List Arc → Option (List Arc)
  | 0, _ => none
  | f + 1, L => match bfRun L (bf0 (nt.ports.length + 2) (initS nt)) 64 with
    | none => none
    | some s => if s.by_.getD (nt.ports.length + 1) 0 < 0 then some L else match upRun L s.by_ 64 (nt.ports.length + 1) with
      | none => none
      | some k => fillRun nt f (augL L (chainL L s.by_ k (nt.ports.length + 1)))
theorem fillRun_ok {nt : Net} : ∀ {f : Nat} {L L' : List Arc}, fillRun nt f L = some L' → FillTo nt L L'
  | 0, L, L', h => by cases h
  | f + 1, L, L', h => by
    unfold fillRun at h
    split at h
    · cases h
    · rename_i s hs
      split at h
      · rename_i hb
        injection h with h
        subst h
        exact .stop (bfRun_ok hs) hb
      · rename_i hb
        split at h
        · cases h
        · rename_i k hk
          exact .step (bfRun_ok hs) (by omega) (upRun_ok hk) (fillRun_ok h)
theorem FillTo.st {nt : Net} (hv : netB nt = true) {L L' : List Arc} (h : FillTo nt L L') : St nt L → St nt L' := by
  induction h with
  | stop _ _ => exact id
  | step hE hb hk _ ih =>
    intro hst
    obtain ⟨k', hk', _, hpos, _⟩ := hst.way hv hE hb
    have e := hk'.one hk
    subst e
    exact ih (hst.aug hv hE hb hk (fun a ha => (hpos a ha).1)).1
def pricesRun (nt : Net) (L : List Arc) : Option (List Int) :=
  match bfRun L (bf0 (nt.ports.length + 2) (initS nt)) 64 with
  | none => none
  | some s => match bfRun L (bf0 (nt.ports.length + 2) (initB nt s.l)) 64 with
    | none => none
    | some r => some (pricesL nt s.l r.l)
theorem pricesRun_ok {nt : Net} {L : List Arc} {pr : List Int} (h : pricesRun nt L = some pr) : PricesOf nt L pr := by
  unfold pricesRun at h
  split at h
  · cases h
  · rename_i s hs
    split at h
    · cases h
    · rename_i r hr
      injection h with h
      subst h
      exact ⟨_, _, _, bfRun_ok hs, fun _ => ⟨_, bfRun_ok hr⟩, rfl⟩
def moveRun (nt : Net) (f : Nat) : Option (List Int × Int × List Int × Int) :=
  if netB nt = true then match fillRun nt f (openL nt) with
    | none => none
    | some L => if fullB nt L = true then (pricesRun nt L).map fun pr => (movesL L nt.ways.length, costTo nt (movesL L nt.ways.length) nt.ways.length, pr, 0) else some ([], 0, [], 7)
  else none
theorem moveRun_ok {nt : Net} {f : Nat} {ml pr : List Int} {c e : Int} (h : moveRun nt f = some (ml, c, pr, e)) : MoveR nt ml c pr e := by
  unfold moveRun at h
  split at h
  · rename_i hv
    split at h
    · cases h
    · rename_i L hL
      have hf := fillRun_ok hL
      have hst := hf.st hv (open_st hv)
      split at h
      · rename_i hfu
        cases hp : pricesRun nt L with
        | none => rw [hp] at h; cases h
        | some p =>
          rw [hp] at h
          injection h with h
          injection h with h1 h
          injection h with h2 h
          injection h with h3 h4
          subst h1 h2 h3 h4
          exact .inr ⟨hv, L, hf, hst, .inr ⟨hfu, rfl, rfl, rfl, pricesRun_ok hp⟩⟩
      · rename_i hfu
        injection h with h
        injection h with h1 h
        injection h with h2 h
        injection h with h3 h4
        subst h1 h2 h3 h4
        exact .inr ⟨hv, L, hf, hst, .inl ⟨by simpa using hfu, rfl, rfl, rfl, rfl⟩⟩
  · cases h
/-! ### The document's example -/
def net3 : Net := ⟨[⟨5, 0⟩, ⟨2, 1⟩, ⟨0, 4⟩], [⟨0, 1, 100, 3⟩, ⟨1, 2, 50, 9⟩, ⟨0, 2, 200, 9⟩]⟩
def net8 : Net := ⟨[⟨5, 0⟩, ⟨2, 1⟩, ⟨0, 8⟩], [⟨0, 1, 100, 3⟩, ⟨1, 2, 50, 9⟩, ⟨0, 2, 200, 9⟩]⟩
def lkRun (L : List Arc) (s : Nat) : Nat → List Nat
  | 0 => [s]
  | f + 1 => lkRun L s f ++ ((List.range L.length).filter fun i => decide (0 < (arcAt L i).room) && (lkRun L s f).contains (arcAt L i).to).map fun i => (arcAt L i).fr
theorem lkRun_ok {L : List Arc} {s : Nat} : ∀ {f v : Nat}, v ∈ lkRun L s f → Lk L s v
  | 0, v, h => by rw [List.mem_singleton.1 h]; exact .base
  | f + 1, v, h => by
    rcases List.mem_append.1 h with h | h
    · exact lkRun_ok h
    · obtain ⟨i, hi, rfl⟩ := List.mem_map.1 h
      have hi := List.mem_filter.1 hi
      have h2 := hi.2
      rw [Bool.and_eq_true, decide_eq_true_eq, List.contains_iff_mem] at h2
      exact .step (List.mem_range.1 hi.1) h2.1 (lkRun_ok h2.2)
theorem known_move {ml pr : List Int} {c e : Int} (h : MoveR net3 ml c pr e) : ml = [3, 4, 0] ∧ c = 500 ∧ pr = [0, 150, 200] ∧ e = 0 := h.one (moveRun_ok (f := 30) (by decide +kernel))
theorem known_bound : bndE net3 [0, 150, 200] = 0 ∧ bndV net3 [0, 150, 200] = 500 := by decide +kernel
theorem known_more {m e : Int} (h : MoreR net3 1 m e) : m = 100 ∧ e = 0 :=
  h.one (.inr ⟨by decide +kernel, .inr ⟨by decide +kernel, .inr ⟨by decide +kernel, [3, 4, 0], 500, [0, 150, 200], 0, moveRun_ok (f := 30) (by decide +kernel), .inr ⟨rfl, rfl, [2, 4, 0], 400, [0, 100, 150], 0, moveRun_ok (f := 30) (by decide +kernel), rfl⟩⟩⟩⟩)
def arcs8 : List Arc := (fillRun net8 30 (openL net8)).getD []
theorem known_lacks {ls : List Int} {lack e : Int} (h : LacksR net8 ls lack e) : ls.length = 3 ∧ lack = 2 ∧ e = 0 := by
  have hf : FillTo net8 (openL net8) arcs8 := by
    have h1 : (fillRun net8 30 (openL net8)).isSome = true := by decide +kernel
    obtain ⟨L, hL⟩ := Option.isSome_iff_exists.1 h1
    have h2 : arcs8 = L := by unfold arcs8; rw [hL]; rfl
    rw [h2]
    exact fillRun_ok hL
  rcases h with ⟨h1, _⟩ | ⟨_, he, L, f, hfl, _, hlk, hls, hla⟩
  · have h2 : netB net8 = true := by decide +kernel
    rw [h1] at h2
    cases h2
  · have e1 := hfl.one hf
    rw [e1] at hlk
    clear e1 hfl hf
    have g : ∀ v, (lkRun arcs8 4 4).contains v = true → f v = true := fun v hv => (hlk v).2 (lkRun_ok (f := 4) (List.contains_iff_mem.1 hv))
    have h0 := g 0 (by decide +kernel)
    have h1 := g 1 (by decide +kernel)
    have h2 := g 2 (by decide +kernel)
    have hl : lackL f 3 = [0, 1, 2] := by
      unfold lackL
      simp [List.range_succ, h0, h1, h2]
    have hls : ls = lackL f 3 := hls
    have hla : lack = lk2 net8 f 3 := hla
    rw [hl] at hls
    refine ⟨by rw [hls]; rfl, ?_, he⟩
    rw [hla]
    have hk : ∀ i, i < 3 → lkB net8 f i = false := fun i hi => by
      have : i = 0 ∨ i = 1 ∨ i = 2 := by omega
      rcases this with rfl | rfl | rfl
      · show (f 1 && !f 0) = false; rw [h0, h1]; rfl
      · show (f 2 && !f 1) = false; rw [h1, h2]; rfl
      · show (f 2 && !f 0) = false; rw [h0, h2]; rfl
    have hP : net8.ports.length = 3 := rfl
    have e0 : lk2 net8 f 0 = lk1 net8 (lackL f net8.ports.length) (lackL f net8.ports.length).length := rfl
    rw [hP, hl] at e0
    have st : ∀ k, k < 3 → lk2 net8 f (k + 1) = lk2 net8 f k := fun k hk2 => by
      have : lk2 net8 f (k + 1) = if lkB net8 f k = true then lk2 net8 f k - (net8.ways.getD k way0).room else lk2 net8 f k := rfl
      rw [this, hk k hk2]
      rfl
    rw [st 2 (by omega), st 1 (by omega), st 0 (by omega), e0]
    decide +kernel
end Go.Proofs.Ytabgmnmpdjnjoaa
set_option linter.unusedVariables false
set_option linter.unusedSimpArgs false
namespace Go.Proofs.Ytabgmnmpdjnjoaa
open Go Go.RowKit
section
variable {n : Nat} {σ : Sg} {w : World} {dst : Option Tmp} {ty : TypeId} {pos : String} {af : Array Edge} {g : Option (Nat × Bool)} {x y z : Operand} {at' : Array TypeId}
theorem al_25 (a : Act) (_ : Env n σ a) : (execOp a.eval ⟨dst, .alloc 25, ty, pos, af, g⟩).run Try.prog w = .ok (.value (.pointer (some ⟨w.heap.size, 0, none⟩))) (w.alloc (.cells #[.slice none 0 0, .slice none 0 0] 25)) := by
  simp only [execOp]
  simp [go_sem]
theorem bs_23_0 (a : Act) (_ : Env n σ a) : (execOp a.eval ⟨dst, .buildSlice 23 0 #[], ty, pos, af, g⟩).run Try.prog w = .ok (.value (.slice (some ⟨w.heap.size, 0, none⟩) 0 0)) (w.alloc (.cells #[] 56)) := by
  simp only [execOp]
  go_simp
theorem bd_25_0_1 {x0 x1 : Operand} {A0 : Option Addr} {m0 : Nat} {c0 : Nat} {A1 : Option Addr} {m1 : Nat} {c1 : Nat} (h0 : evS σ x0 = some (.slice A0 m0 c0)) (h1 : evS σ x1 = some (.slice A1 m1 c1)) : Gives Try.prog n σ w ⟨dst, .build 25 #[(0, x0), (1, x1)], ty, pos, af, g⟩ (.agg #[.slice A0 m0 c0, .slice A1 m1 c1]) := fun a ha => by
  simp only [execOp, List.map_toArray, List.map_cons, List.map_nil, ha.eval h0, ha.eval h1]
  go_simp
theorem sz_25 : (Try.prog.info? 25).map (·.size) = some 2 := by kernel_rfl
theorem lv_25 {b o : Nat} {v0 v1 : Value} (c0 : w.cell? ⟨b, o, none⟩ = some v0) (c1 : w.cell? ⟨b, o + 1, none⟩ = some v1) : (loadVar 25 ⟨b, o, none⟩).run Try.prog w = .ok (.agg #[v0, v1]) w := by
  simp [go_sem, loadVar, c0, c1]
theorem bd_47_0 {x0 : Operand} {z0 : Int} (h0 : evS σ x0 = some (.int .i64 z0)) : Gives Try.prog n σ w ⟨dst, .build 47 #[(0, x0)], ty, pos, af, g⟩ (.agg #[.int .i64 z0, .int .i64 0]) := fun a ha => by
  simp only [execOp, List.map_toArray, List.map_cons, List.map_nil, ha.eval h0]
  go_simp
theorem bd_47_0_1 {x0 x1 : Operand} {z0 : Int} {z1 : Int} (h0 : evS σ x0 = some (.int .i64 z0)) (h1 : evS σ x1 = some (.int .i64 z1)) : Gives Try.prog n σ w ⟨dst, .build 47 #[(0, x0), (1, x1)], ty, pos, af, g⟩ (.agg #[.int .i64 z0, .int .i64 z1]) := fun a ha => by
  simp only [execOp, List.map_toArray, List.map_cons, List.map_nil, ha.eval h0, ha.eval h1]
  go_simp
theorem bd_47_1 {x0 : Operand} {z0 : Int} (h0 : evS σ x0 = some (.int .i64 z0)) : Gives Try.prog n σ w ⟨dst, .build 47 #[(1, x0)], ty, pos, af, g⟩ (.agg #[.int .i64 0, .int .i64 z0]) := fun a ha => by
  simp only [execOp, List.map_toArray, List.map_cons, List.map_nil, ha.eval h0]
  go_simp
theorem bs_22_3 {x0 x1 x2 : Operand} {v0_0 v0_1 v1_0 v1_1 v2_0 v2_1 : Value} (h0 : evS σ x0 = some (.agg #[v0_0, v0_1])) (h1 : evS σ x1 = some (.agg #[v1_0, v1_1])) (h2 : evS σ x2 = some (.agg #[v2_0, v2_1]))  (a : Act) (ha : Env n σ a) : (execOp a.eval ⟨dst, .buildSlice 22 3 #[(0, x0), (1, x1), (2, x2)], ty, pos, af, g⟩).run Try.prog w = .ok (.value (.slice (some ⟨w.heap.size, 0, none⟩) 3 3)) (w.alloc (.cells #[v0_0, v0_1, v1_0, v1_1, v2_0, v2_1] 47)) := by
  simp only [execOp, List.map_toArray, List.map_cons, List.map_nil, ha.eval h0, ha.eval h1, ha.eval h2]
  go_simp
theorem bd_56_0_1_2_3 {x0 x1 x2 x3 : Operand} {z0 : Int} {z1 : Int} {z2 : Int} {z3 : Int} (h0 : evS σ x0 = some (.int .i64 z0)) (h1 : evS σ x1 = some (.int .i64 z1)) (h2 : evS σ x2 = some (.int .i64 z2)) (h3 : evS σ x3 = some (.int .i64 z3)) : Gives Try.prog n σ w ⟨dst, .build 56 #[(0, x0), (1, x1), (2, x2), (3, x3)], ty, pos, af, g⟩ (.agg #[.int .i64 z0, .int .i64 z1, .int .i64 z2, .int .i64 z3]) := fun a ha => by
  simp only [execOp, List.map_toArray, List.map_cons, List.map_nil, ha.eval h0, ha.eval h1, ha.eval h2, ha.eval h3]
  go_simp
theorem bs_23_3 {x0 x1 x2 : Operand} {v0_0 v0_1 v0_2 v0_3 v1_0 v1_1 v1_2 v1_3 v2_0 v2_1 v2_2 v2_3 : Value} (h0 : evS σ x0 = some (.agg #[v0_0, v0_1, v0_2, v0_3])) (h1 : evS σ x1 = some (.agg #[v1_0, v1_1, v1_2, v1_3])) (h2 : evS σ x2 = some (.agg #[v2_0, v2_1, v2_2, v2_3]))  (a : Act) (ha : Env n σ a) : (execOp a.eval ⟨dst, .buildSlice 23 3 #[(0, x0), (1, x1), (2, x2)], ty, pos, af, g⟩).run Try.prog w = .ok (.value (.slice (some ⟨w.heap.size, 0, none⟩) 3 3)) (w.alloc (.cells #[v0_0, v0_1, v0_2, v0_3, v1_0, v1_1, v1_2, v1_3, v2_0, v2_1, v2_2, v2_3] 56)) := by
  simp only [execOp, List.map_toArray, List.map_cons, List.map_nil, ha.eval h0, ha.eval h1, ha.eval h2]
  go_simp
end
end Go.Proofs.Ytabgmnmpdjnjoaa
set_option linter.unusedVariables false
set_option linter.unusedSimpArgs false
namespace Go.Proofs.Ytabgmnmpdjnjoaa
open Go Go.RowKit
/-- a net of one's own -/
structure OwnNet (w : World) (base : Nat) (vp vw : Value) (n : Net) : Prop where
  ports : w.ownsRow base 47 2 vp n.ports.length (prtsC n.ports)
  ways : w.ownsRow base 56 4 vw n.ways.length (waysC n.ways)
theorem OwnNet.rd {w : World} {base : Nat} {vp vw : Value} {n : Net} (h : OwnNet w base vp vw n) : RdNet w w.heap.size vp vw n := ⟨Rd.of_own h.ports, Rd.of_own h.ways⟩
theorem OwnNet.below {w w' : World} {base : Nat} {vp vw : Value} {n : Net} (h : OwnNet w base vp vw n) (hb : Below w.heap.size w w') : OwnNet w' base vp vw n := ⟨own_below h.ports hb (Nat.le_refl _), own_below h.ways hb (Nat.le_refl _)⟩
theorem copied_any (nt : Net) (vp vw : Value) (w : World) (B : Nat) (hr : RdNet w B vp vw nt) (hB : B ≤ w.heap.size) (hn1 : nt.ports.length ≤ 1048576) (hn2 : nt.ways.length ≤ 1048576) :
    Calls Try.prog 14 #[.agg #[vp, vw]] w fun e w' => (∃ vp' vw', e = .returned (.agg #[vp', vw']) ∧ OwnNet w' w.heap.size vp' vw' nt) ∧ Below w.heap.size w w' := by
  obtain ⟨Ap, cp_, rfl, _⟩ := hr.ports.shape
  obtain ⟨Aw, cw_, rfl, _⟩ := hr.ways.shape
  have hbw := Below.refl w.heap.size w
  refine EC.enter 12 Try.func14 rfl rfl rfl ?_
  refine EC.seq ?_
  refine EC.region ?_
  refine EL.newP (bx_25 rfl) rfl ?_
  intro g1 w1 q1 hb1 hg1 hl1
  have bhbw_1 := Nat.le_trans hbw.size hg1
  replace hbw := Below.on hbw hb1 hbw.size
  clear hb1 hg1 hl1
  refine EL.newP al_25 rfl ?_
  intro g2 w2 q2 hb2 hg2 hl2
  have n1_2 : g1 ≠ g2 := Nat.ne_of_lt (Nat.lt_of_lt_of_le q1.lt hg2)
  have bhbw_2 := Nat.le_trans hbw.size hg2
  replace q1 := q1.below hb2 q1.lt
  replace hbw := Below.on hbw hb2 hbw.size
  clear hb2 hg2 hl2
  refine EL.nil ?_
  refine EX.seq ?_
  refine EC.seq ?_
  have hsz0 := hbw.size
  have lt_1 := q1.lt
  have lt_2 := q2.lt
  refine EC.regionP [[], [], [1], [0, 1, 2], [], [], [5], [0, 1, 2, 3, 4, 5, 6], [0, 1, 2, 3, 4, 5, 6, 7], [0, 1, 2, 3, 4, 5, 6, 7, 8]] 9 [] (phi (fun i_ r => match i_ with | 1 => r 1 = .pointer (some ⟨g1, 0, none⟩) | 2 => r 2 = .slice Ap nt.ports.length cp_ | 5 => r 5 = .pointer (some ⟨g1, 1, none⟩) | 6 => r 6 = .slice Aw nt.ways.length cw_ | _ => True) [(0, fun r w_ => ∃ g_, r 0 = .slice (some ⟨g_, 0, none⟩) 0 0 ∧ Blk w_ g_ 47 #[] ∧ w2.heap.size ≤ g_), (3, fun r w_ => ∃ A_ c_, r 3 = .slice A_ nt.ports.length c_ ∧ w_.ownsRow w2.heap.size 47 2 (.slice A_ nt.ports.length c_) nt.ports.length (prtsC nt.ports)), (4, fun r w_ => ∃ g_, r 4 = .slice (some ⟨g_, 0, none⟩) 0 0 ∧ Blk w_ g_ 56 #[] ∧ w2.heap.size ≤ g_), (7, fun r w_ => ∃ A_ c_, r 7 = .slice A_ nt.ways.length c_ ∧ w_.ownsRow w2.heap.size 56 4 (.slice A_ nt.ways.length c_) nt.ways.length (waysC nt.ways)), (8, fun r w_ => ∃ A_ c_ A2_ c2_, r 8 = .agg #[.slice A_ nt.ports.length c_, .slice A2_ nt.ways.length c2_] ∧ w_.ownsRow w2.heap.size 47 2 (.slice A_ nt.ports.length c_) nt.ports.length (prtsC nt.ports) ∧ w_.ownsRow w2.heap.size 56 4 (.slice A2_ nt.ways.length c2_) nt.ways.length (waysC nt.ways))]) (by kernel_rfl) rfl rfl (phi_cons mono_bs (phi_cons mono_cp (phi_cons mono_bs (phi_cons mono_cp (phi_cons (by rintro _ _ _ hb ⟨A_, c_, A2_, c2_, h1, h2, h3⟩; exact ⟨A_, c_, A2_, c2_, h1, own_below h2 hb (Nat.le_refl _), own_below h3 hb (Nat.le_refl _)⟩) (phi_nil)))))) (fun i_ hi_ => ?_) ?_
  · match i_, hi_ with
    | 0, _ =>
      intro val w1 a hb ha hd
      have ha := ha.sub (Sub.nil _)
      exact hs_newS ha rfl rfl (bs_22_0) rfl (fun g w' hq _ hge => ⟨g, rfl, hq, Nat.le_trans hb.size hge⟩)
    | 1, _ =>
      intro val w1 a hb ha hd
      have ha := ha.sub (Sub.ins (d := 1) (Sub.nil _) rfl)
      exact hs_val ha rfl rfl (fa_25_0 rfl) rfl rfl
    | 2, _ =>
      intro val w1 a hb ha hd
      have e1 : val 1 = .pointer (some ⟨g1, 0, none⟩) := hd 1 (memB_mem.1 rfl)
      have ha := ha.sub (Sub.ins (d := 4) (Sub.nil _) (dep_get rfl e1))
      exact hs_val ha rfl rfl (ld_22 rfl ((q1.below hb q1.lt).at (j := 0) rfl)) rfl rfl
    | 3, _ =>
      intro val w1 a hb ha hd
      obtain ⟨g0_, e0, q0_, h0_⟩ := hd 0 (memB_mem.1 rfl)
      change val 0 = _ at e0
      have e2 : val 2 = .slice Ap nt.ports.length cp_ := hd 2 (memB_mem.1 rfl)
      have ha := ha.sub (Sub.ins (d := 5) (Sub.ins (d := 3) (Sub.nil _) (dep_get rfl e0)) (dep_get rfl e2))
      refine hs_copy prt_elem ha rfl rfl rfl q0_ h0_ (hr.ports.below ((Below.on hbw hb hbw.size).mono hB)) (prtsC_one _) (by omega) rfl hb.size rfl (fun v' w' ho => ?_)
      obtain ⟨A, c9, rfl, _⟩ := (Rd.of_own ho).shape
      exact ⟨A, c9, rfl, ho⟩
    | 4, _ =>
      intro val w1 a hb ha hd
      have ha := ha.sub (Sub.nil _)
      exact hs_newS ha rfl rfl (bs_23_0) rfl (fun g w' hq _ hge => ⟨g, rfl, hq, Nat.le_trans hb.size hge⟩)
    | 5, _ =>
      intro val w1 a hb ha hd
      have ha := ha.sub (Sub.ins (d := 1) (Sub.nil _) rfl)
      exact hs_val ha rfl rfl (fa_25_1 rfl) rfl rfl
    | 6, _ =>
      intro val w1 a hb ha hd
      have e5 : val 5 = .pointer (some ⟨g1, 1, none⟩) := hd 5 (memB_mem.1 rfl)
      have ha := ha.sub (Sub.ins (d := 8) (Sub.nil _) (dep_get rfl e5))
      exact hs_val ha rfl rfl (ld_23 rfl ((q1.below hb q1.lt).at (j := 1) rfl)) rfl rfl
    | 7, _ =>
      intro val w1 a hb ha hd
      obtain ⟨g4_, e4, q4_, h4_⟩ := hd 4 (memB_mem.1 rfl)
      change val 4 = _ at e4
      have e6 : val 6 = .slice Aw nt.ways.length cw_ := hd 6 (memB_mem.1 rfl)
      have ha := ha.sub (Sub.ins (d := 9) (Sub.ins (d := 7) (Sub.nil _) (dep_get rfl e4)) (dep_get rfl e6))
      refine hs_copy way_elem ha rfl rfl rfl q4_ h4_ (hr.ways.below ((Below.on hbw hb hbw.size).mono hB)) (waysC_one _) (by omega) rfl hb.size rfl (fun v' w' ho => ?_)
      obtain ⟨A, c9, rfl, _⟩ := (Rd.of_own ho).shape
      exact ⟨A, c9, rfl, ho⟩
    | 8, _ =>
      intro val w1 a hb ha hd
      obtain ⟨A3_, c3_, e3, o3_⟩ := hd 3 (memB_mem.1 rfl)
      obtain ⟨A7_, c7_, e7, o7_⟩ := hd 7 (memB_mem.1 rfl)
      have ha := ha.sub (Sub.ins (d := 10) (Sub.ins (d := 6) (Sub.nil _) (dep_get rfl e3)) (dep_get rfl e7))
      exact hs_val ha rfl rfl (bd_25_0_1 rfl rfl) ⟨A3_, c3_, A7_, c7_, rfl, o3_, o7_⟩ rfl
    | k + 9, h => exact absurd h (by omega)
  · intro val wR1 hb halc hd
    obtain ⟨ga0_1, e0, qa0_1, hga0_1⟩ := hd 0 (by omega)
    change val 0 = _ at e0
    change Blk wR1 ga0_1 47 #[] at qa0_1
    have e1 : val 1 = .pointer (some ⟨g1, 0, none⟩) := hd 1 (by omega)
    have e2 : val 2 = .slice Ap nt.ports.length cp_ := hd 2 (by omega)
    obtain ⟨A3_, c3_, e3, o3_⟩ := hd 3 (by omega)
    obtain ⟨ga4_1, e4, qa4_1, hga4_1⟩ := hd 4 (by omega)
    change val 4 = _ at e4
    change Blk wR1 ga4_1 56 #[] at qa4_1
    have e5 : val 5 = .pointer (some ⟨g1, 1, none⟩) := hd 5 (by omega)
    have e6 : val 6 = .slice Aw nt.ways.length cw_ := hd 6 (by omega)
    obtain ⟨A7_, c7_, e7, o7_⟩ := hd 7 (by omega)
    obtain ⟨A8_, c8_, B8_, d8_, e8, o8_, u8_⟩ := hd 8 (by omega)
    refine EL.ends (cs := [.slice (some ⟨ga0_1, 0, none⟩) 0 0, .pointer (some ⟨g1, 0, none⟩), .slice Ap nt.ports.length cp_, .slice A3_ nt.ports.length c3_, .slice (some ⟨ga4_1, 0, none⟩) 0 0, .pointer (some ⟨g1, 1, none⟩), .slice Aw nt.ways.length cw_, .slice A7_ nt.ways.length c7_, .agg #[.slice A8_ nt.ports.length c8_, .slice B8_ nt.ways.length d8_]]) ⟨e0, e1, e2, e3, e4, e5, e6, e7, e8, trivial⟩ rfl ?_
    replace q1 := q1.below hb q1.lt
    replace q2 := q2.below hb q2.lt
    have n1_3 : g1 ≠ ga0_1 := Nat.ne_of_lt (Nat.lt_of_lt_of_le lt_1 hga0_1)
    have n2_3 : g2 ≠ ga0_1 := Nat.ne_of_lt (Nat.lt_of_lt_of_le lt_2 hga0_1)
    have bhbw_3 := Nat.le_trans hbw.size hga0_1
    have n1_4 : g1 ≠ ga4_1 := Nat.ne_of_lt (Nat.lt_of_lt_of_le lt_1 hga4_1)
    have n2_4 : g2 ≠ ga4_1 := Nat.ne_of_lt (Nat.lt_of_lt_of_le lt_2 hga4_1)
    have bhbw_4 := Nat.le_trans hbw.size hga4_1
    replace hbw := Below.on hbw hb hbw.size
    clear hb
    replace o8_ := own_less o8_ hsz0
    replace u8_ := own_less u8_ hsz0
    refine EL.store rfl rfl q2 sz_25 rfl rfl rfl rfl ?_
    intro w5 hq5 hg5
    replace q1 := q1.grown hg5 (fun h => n1_2 (Option.some.inj h))
    replace o8_ := own_type o8_ q2 rfl hg5
    replace u8_ := own_type u8_ q2 rfl hg5
    replace hbw := below_store hbw hg5 bhbw_2
    replace q2 := hq5
    clear hg5 hq5
    refine EL.nil ?_
    refine EX.seq ?_
    refine EC.ret ?_
    exact EX.done (resc1 rfl rfl (lv_25 (q2.at (j := 0) rfl) (q2.at (j := 1) rfl))) ⟨⟨_, _, rfl, ⟨o8_, u8_⟩⟩, hbw⟩
theorem three_any (w : World) : Calls Try.prog 37 #[] w fun e w' => (∃ vp vw, e = .returned (.agg #[vp, vw]) ∧ OwnNet w' w.heap.size vp vw net3) ∧ Below w.heap.size w w' := by
  have hbw := Below.refl w.heap.size w
  refine EC.enter 10 Try.func37 rfl rfl rfl ?_
  refine EC.seq ?_
  refine EC.region ?_
  refine EL.newP al_25 rfl ?_
  intro g1 w1 q1 hb1 hg1 hl1
  have bhbw_1 := Nat.le_trans hbw.size hg1
  replace hbw := Below.on hbw hb1 hbw.size
  clear hb1 hg1 hl1
  refine EL.nil ?_
  refine EX.seq ?_
  refine EC.seq ?_
  refine EC.region ?_
  refine EL.val (bd_47_0 rfl) rfl ?_
  refine EL.val (bd_47_0_1 rfl rfl) rfl ?_
  refine EL.val (bd_47_1 rfl) rfl ?_
  refine EL.newS (bs_22_3 rfl rfl rfl) rfl ?_
  intro g2 w2 q2 hb2 hg2 hl2
  have n1_2 : g1 ≠ g2 := Nat.ne_of_lt (Nat.lt_of_lt_of_le q1.lt hg2)
  have bhbw_2 := Nat.le_trans hbw.size hg2
  replace q1 := q1.below hb2 q1.lt
  replace hbw := Below.on hbw hb2 hbw.size
  clear hb2 hg2 hl2
  refine EL.val (bd_56_0_1_2_3 rfl rfl rfl rfl) rfl ?_
  refine EL.val (bd_56_0_1_2_3 rfl rfl rfl rfl) rfl ?_
  refine EL.val (bd_56_0_1_2_3 rfl rfl rfl rfl) rfl ?_
  refine EL.newS (bs_23_3 rfl rfl rfl) rfl ?_
  intro g3 w3 q3 hb3 hg3 hl3
  have n1_3 : g1 ≠ g3 := Nat.ne_of_lt (Nat.lt_of_lt_of_le q1.lt hg3)
  have n2_3 : g2 ≠ g3 := Nat.ne_of_lt (Nat.lt_of_lt_of_le q2.lt hg3)
  have bhbw_3 := Nat.le_trans hbw.size hg3
  replace q1 := q1.below hb3 q1.lt
  replace q2 := q2.below hb3 q2.lt
  replace hbw := Below.on hbw hb3 hbw.size
  clear hb3 hg3 hl3
  refine EL.val (bd_25_0_1 rfl rfl) rfl ?_
  refine EL.store rfl rfl q1 sz_25 rfl rfl rfl rfl ?_
  intro w4 hq4 hg4
  replace q2 := q2.grown hg4 (fun h => n1_2.symm (Option.some.inj h))
  replace q3 := q3.grown hg4 (fun h => n1_3.symm (Option.some.inj h))
  replace hbw := below_store hbw hg4 bhbw_1
  replace q1 := hq4
  clear hg4 hq4
  refine EL.nil ?_
  refine EX.seq ?_
  refine EC.ret ?_
  exact EX.done (resc1 rfl rfl (lv_25 (q1.at (j := 0) rfl) (q1.at (j := 1) rfl))) ⟨⟨_, _, rfl, ⟨own_built (k := 3) (l := prtsC net3.ports) q2 rfl (by omega) bhbw_2, own_built (k := 3) (l := waysC net3.ways) q3 rfl (by omega) bhbw_3⟩⟩, hbw⟩
end Go.Proofs.Ytabgmnmpdjnjoaa
set_option linter.unusedVariables false
set_option linter.unusedSimpArgs false
namespace Go.Proofs.Ytabgmnmpdjnjoaa
open Go Go.RowKit
section
variable {n : Nat} {σ : Sg} {w : World} {dst : Option Tmp} {ty : TypeId} {pos : String} {af : Array Edge} {g : Option (Nat × Bool)} {x y z : Operand} {at' : Array TypeId}
theorem cl_37  (a : Act) (_ : Env n σ a) : (execOp a.eval ⟨dst, .call { callee := .value (.func 37), args := #[], argTypes := at' }, ty, pos, af, g⟩).run Try.prog w = .ok (.enter 37 #[]) w := by
  simp only [execOp, resolve, List.map_toArray, List.map_nil]
  simp [go_sem, Act.eval]
theorem bs_29_3 {x0 x1 x2 : Operand} {z0_0 z1_0 z2_0 : Int} (h0 : evS σ x0 = some (.int .i64 z0_0)) (h1 : evS σ x1 = some (.int .i64 z1_0)) (h2 : evS σ x2 = some (.int .i64 z2_0)) (a : Act) (ha : Env n σ a) : (execOp a.eval ⟨dst, .buildSlice 29 3 #[(0, x0), (1, x1), (2, x2)], ty, pos, af, g⟩).run Try.prog w = .ok (.value (.slice (some ⟨w.heap.size, 0, none⟩) 3 3)) (w.alloc (.cells #[.int .i64 z0_0, .int .i64 z1_0, .int .i64 z2_0] 3)) := by
  simp only [execOp, List.map_toArray, List.map_cons, List.map_nil, ha.eval h0, ha.eval h1, ha.eval h2]
  go_simp
theorem cl_32 {x0 x1 : Operand} {v0 v1 : Value} (h0 : evS σ x0 = some v0) (h1 : evS σ x1 = some v1) (a : Act) (ha : Env n σ a) : (execOp a.eval ⟨dst, .call { callee := .value (.func 32), args := #[x0, x1], argTypes := at' }, ty, pos, af, g⟩).run Try.prog w = .ok (.enter 32 #[v0, v1]) w := by
  simp only [execOp, resolve, List.map_toArray, List.map_cons, List.map_nil, ha.eval h0, ha.eval h1]
  simp [go_sem, Act.eval]
theorem cl_26 {x0 x1 : Operand} {v0 v1 : Value} (h0 : evS σ x0 = some v0) (h1 : evS σ x1 = some v1) (a : Act) (ha : Env n σ a) : (execOp a.eval ⟨dst, .call { callee := .value (.func 26), args := #[x0, x1], argTypes := at' }, ty, pos, af, g⟩).run Try.prog w = .ok (.enter 26 #[v0, v1]) w := by
  simp only [execOp, resolve, List.map_toArray, List.map_cons, List.map_nil, ha.eval h0, ha.eval h1]
  simp [go_sem, Act.eval]
theorem cl_23 {x0 : Operand} {v0 : Value} (h0 : evS σ x0 = some v0) (a : Act) (ha : Env n σ a) : (execOp a.eval ⟨dst, .call { callee := .value (.func 23), args := #[x0], argTypes := at' }, ty, pos, af, g⟩).run Try.prog w = .ok (.enter 23 #[v0]) w := by
  simp only [execOp, resolve, List.map_toArray, List.map_cons, List.map_nil, ha.eval h0]
  simp [go_sem, Act.eval]
end
end Go.Proofs.Ytabgmnmpdjnjoaa
set_option linter.unusedVariables false
set_option linter.unusedSimpArgs false
namespace Go.Proofs.Ytabgmnmpdjnjoaa
open Go Go.RowKit
theorem OwnNet.box {w w' : World} {base k T : Nat} {cs : Array Value} {vp vw : Value} {n : Net} (h : OwnNet w base vp vw n) (hq : Blk w k T cs) (h1 : Nat.beq T 47 = false) (h2 : Nat.beq T 56 = false) (hg : w.grownBy w' (some k)) : OwnNet w' base vp vw n := ⟨own_type h.ports hq h1 hg, own_type h.ways hq h2 hg⟩
set_option maxHeartbeats 1000000 in
set_option maxRecDepth 100000 in
theorem known_any (w : World) : Calls Try.prog 13 #[] w fun e w' => e = .returned (.bool true) ∧ Below w.heap.size w w' := by
  have hbw := Below.refl w.heap.size w
  refine EC.enter 103 Try.func13 rfl rfl rfl ?_
  refine EC.seq ?_
  refine EC.region ?_
  refine EL.val (x_assign rfl) rfl ?_
  refine EL.nil ?_
  refine EX.seq ?_
  refine EC.seq ?_
  refine EC.region ?_
  have sz_hbw := hbw.size
  refine EL.call cl_37 rfl (three_any _) ?_
  rintro e w1 ⟨⟨vp1, vw1, rfl, hn⟩, hc1⟩
  refine ⟨_, rfl, ?_⟩
  replace hbw := Below.on hbw hc1 hbw.size
  clear hc1
  refine EL.call (cl_15 rfl) rfl (move_any net3 _ _ _ _ hn.rd (Nat.le_refl _) (by decide) (by decide)) ?_
  rintro e w2 ⟨⟨vm, vr, ml, c, pr, e, rfl, hm, hrm, hrp⟩, hc2⟩
  refine ⟨_, rfl, ?_⟩
  obtain ⟨rfl, rfl, rfl, rfl⟩ := known_move hm
  obtain ⟨Am, cm_, rfl, _⟩ := hrm.shape
  obtain ⟨Ar, cr_, rfl, _⟩ := hrp.shape
  replace hbw := Below.on hbw hc2 hbw.size
  clear hc2
  have hbM := Below.refl w2.heap.size w2
  refine EL.val (x_move rfl) rfl ?_
  refine EL.val (x_extract rfl rfl) rfl ?_
  refine EL.val (x_extract rfl rfl) rfl ?_
  refine EL.val (x_extract rfl rfl) rfl ?_
  refine EL.val (x_extract rfl rfl) rfl ?_
  refine EL.val (x_assign rfl) rfl ?_
  refine EL.val (x_assign rfl) rfl ?_
  refine EL.val (x_assign rfl) rfl ?_
  refine EL.val (x_assign rfl) rfl ?_
  refine EL.nil ?_
  refine EX.seq ?_
  refine EC.seq ?_
  refine EC.region ?_
  have sz_hbw := hbw.size
  have sz_hbM := hbM.size
  refine EL.call cl_37 rfl (three_any _) ?_
  rintro e w3 ⟨⟨vp3, vw3, rfl, hn⟩, hc3⟩
  refine ⟨_, rfl, ?_⟩
  replace hbw := Below.on hbw hc3 hbw.size
  replace hbM := Below.on hbM hc3 hbM.size
  clear hc3
  refine EL.newS (bs_29_3 rfl rfl rfl) rfl ?_
  intro g4 w4 q4 hb4 hg4 hl4
  have bhbw_4 := Nat.le_trans hbw.size hg4
  have bhbM_4 := Nat.le_trans hbM.size hg4
  replace hn := hn.below hb4
  replace hbw := Below.on hbw hb4 hbw.size
  replace hbM := Below.on hbM hb4 hbM.size
  clear hb4 hg4 hl4
  refine EL.call (cl_32 rfl rfl) rfl (bound_any net3 _ _ _ _ hn.rd (Nat.le_refl _) (by decide) (by decide) [0, 150, 200] _ (rd_blk (k := 3) (l := ints [0, 150, 200]) q4 rfl) (by decide)) ?_
  rintro e w5 ⟨rfl, hc5⟩
  refine ⟨_, rfl, ?_⟩
  rw [known_bound.1, known_bound.2]
  replace hbw := Below.on hbw hc5 hbw.size
  replace hbM := Below.on hbM hc5 hbM.size
  clear hc5
  refine EL.val (x_move rfl) rfl ?_
  refine EL.val (x_extract rfl rfl) rfl ?_
  refine EL.val (x_extract rfl rfl) rfl ?_
  refine EL.val (x_assign rfl) rfl ?_
  refine EL.val (x_assign rfl) rfl ?_
  refine EL.nil ?_
  refine EX.seq ?_
  refine EC.seq ?_
  refine EC.region ?_
  have sz_hbw := hbw.size
  have sz_hbM := hbM.size
  refine EL.call cl_37 rfl (three_any _) ?_
  rintro e w6 ⟨⟨vp6, vw6, rfl, hn⟩, hc6⟩
  refine ⟨_, rfl, ?_⟩
  replace hbw := Below.on hbw hc6 hbw.size
  replace hbM := Below.on hbM hc6 hbM.size
  clear hc6
  refine EL.call (cl_26 rfl rfl) rfl (more_any net3 1 _ _ _ _ hn.rd (Nat.le_refl _) (by decide) (by decide)) ?_
  rintro e w7 ⟨⟨m_, e_, rfl, hmr⟩, hc7⟩
  refine ⟨_, rfl, ?_⟩
  obtain ⟨rfl, rfl⟩ := known_more hmr
  replace hbw := Below.on hbw hc7 hbw.size
  replace hbM := Below.on hbM hc7 hbM.size
  clear hc7
  refine EL.val (x_move rfl) rfl ?_
  refine EL.val (x_extract rfl rfl) rfl ?_
  refine EL.val (x_extract rfl rfl) rfl ?_
  refine EL.val (x_assign rfl) rfl ?_
  refine EL.val (x_assign rfl) rfl ?_
  refine EL.nil ?_
  refine EX.seq ?_
  refine EC.seq ?_
  refine EC.region ?_
  have sz_hbw := hbw.size
  have sz_hbM := hbM.size
  refine EL.call cl_37 rfl (three_any _) ?_
  rintro e w8 ⟨⟨vp8, vw8, rfl, hn⟩, hc8⟩
  refine ⟨_, rfl, ?_⟩
  replace hbw := Below.on hbw hc8 hbw.size
  replace hbM := Below.on hbM hc8 hbM.size
  clear hc8
  obtain ⟨Ap, cp_, ep_, _⟩ := (Rd.of_own hn.ports).shape
  have ep_ : vp8 = .slice Ap 3 cp_ := ep_
  subst ep_
  obtain ⟨gp, eg_⟩ := own_slice (m := 3) hn.ports (by omega)
  subst eg_
  obtain ⟨Aw, cw_, ew_, _⟩ := (Rd.of_own hn.ways).shape
  have ew_ : vw8 = .slice Aw 3 cw_ := ew_
  subst ew_
  refine EL.newP al_25 rfl ?_
  intro g9 w9 q9 hb9 hg9 hl9
  have bhbw_9 := Nat.le_trans hbw.size hg9
  have bhbM_9 := Nat.le_trans hbM.size hg9
  replace hn := hn.below hb9
  replace hbw := Below.on hbw hb9 hbw.size
  replace hbM := Below.on hbM hb9 hbM.size
  clear hb9 hg9 hl9
  refine EL.store rfl rfl q9 sz_25 rfl rfl rfl rfl ?_
  intro w10 hq10 hg10
  replace hn := hn.box q9 rfl rfl hg10
  replace hbw := below_store hbw hg10 bhbw_9
  replace hbM := below_store hbM hg10 bhbM_9
  replace q9 := hq10
  clear hg10 hq10
  refine EL.nil ?_
  refine EX.seq ?_
  refine EC.seq ?_
  refine EC.region ?_
  refine EL.val (fa_25_0 rfl) rfl ?_
  refine EL.val (ld_22 rfl (q9.at (j := 0) rfl)) rfl ?_
  refine EL.val (ix_22 (k := 2) rfl rfl (by omega)) rfl ?_
  refine EL.val (fa_47_1 rfl) rfl ?_
  have hnw := hn.ways
  refine EL.storeRow (l' := [.int .i64 8]) rfl rfl hn.ports sz_3 rfl rfl (by decide) rfl ?_
  intro w11 ho2 hgr
  have hn8 : OwnNet w11 w7.heap.size (.slice (some ⟨gp, 0, none⟩) 3 cp_) (.slice Aw 3 cw_) net8 := ⟨ho2, own_grown hnw hn.ports rfl hgr⟩
  replace q9 := blk_grown q9 hn.ports rfl hgr
  replace hbw := hbw.trans (below_row (own_less hn.ports sz_hbw) hgr hbw.size)
  replace hbM := hbM.trans (below_row (own_less hn.ports sz_hbM) hgr hbM.size)
  clear hn hnw ho2 hgr
  refine EL.nil ?_
  refine EX.seq ?_
  refine EC.seq ?_
  refine EC.region ?_
  refine EL.val (ld_25 rfl (q9.at (j := 0) rfl) (q9.at (j := 1) rfl)) rfl ?_
  refine EL.call (cl_23 rfl) rfl (lacks_any net8 _ _ _ _ hn8.rd (Nat.le_refl _) (by decide) (by decide)) ?_
  rintro e w12 ⟨⟨vl, ls, lack, e_, rfl, hlr, hrl⟩, hc12⟩
  refine ⟨_, rfl, ?_⟩
  obtain ⟨hl3, rfl, rfl⟩ := known_lacks hlr
  obtain ⟨Al, cl_, rfl, _⟩ := hrl.shape
  rw [hl3]
  replace q9 := q9.below hc12 q9.lt
  replace hbw := Below.on hbw hc12 hbw.size
  replace hbM := Below.on hbM hc12 hbM.size
  clear hc12
  refine EL.val (x_move rfl) rfl ?_
  refine EL.val (x_extract rfl rfl) rfl ?_
  refine EL.val (x_extract rfl rfl) rfl ?_
  refine EL.val (x_extract rfl rfl) rfl ?_
  refine EL.val (x_assign rfl) rfl ?_
  refine EL.val (x_assign rfl) rfl ?_
  refine EL.val (x_assign rfl) rfl ?_
  refine EL.nil ?_
  refine EX.seq ?_
  refine EC.seq ?_
  refine EC.seq ?_
  refine EC.region ?_
  refine EL.val (x_move rfl) rfl ?_
  refine EL.val (x_neq (r := false) rfl rfl (by decide)) rfl ?_
  refine EL.val (x_move rfl) rfl ?_
  refine EL.valg rfl rfl (x_move rfl) rfl ?_
  refine EL.valg rfl rfl (x_neq (r := false) rfl rfl (by decide)) rfl ?_
  refine EL.val (x_pick_f rfl rfl) rfl ?_
  refine EL.val (x_move rfl) rfl ?_
  refine EL.valg rfl rfl (x_move rfl) rfl ?_
  refine EL.valg rfl rfl (x_neq (r := false) rfl rfl (by decide)) rfl ?_
  refine EL.val (x_pick_f rfl rfl) rfl ?_
  refine EL.val (x_move rfl) rfl ?_
  refine EL.valg rfl rfl (x_move rfl) rfl ?_
  refine EL.valg rfl rfl (x_neq (r := false) rfl rfl (by decide)) rfl ?_
  refine EL.val (x_pick_f rfl rfl) rfl ?_
  refine EL.val (x_move rfl) rfl ?_
  refine EL.valg rfl rfl (x_move rfl) rfl ?_
  refine EL.valg rfl rfl (ln_29 rfl) rfl ?_
  refine EL.valg rfl rfl (x_neq (r := false) rfl rfl (by decide)) rfl ?_
  refine EL.val (x_pick_f rfl rfl) rfl ?_
  refine EL.val (x_move rfl) rfl ?_
  refine EL.valg rfl rfl (x_move rfl) rfl ?_
  refine EL.valg rfl rfl (ln_29 rfl) rfl ?_
  refine EL.valg rfl rfl (x_neq (r := false) rfl rfl (by decide)) rfl ?_
  refine EL.val (x_pick_f rfl rfl) rfl ?_
  refine EL.val (x_move rfl) rfl ?_
  refine EL.valg rfl rfl (x_move rfl) rfl ?_
  refine EL.valg rfl rfl (ln_29 rfl) rfl ?_
  refine EL.valg rfl rfl (x_neq (r := false) rfl rfl (by decide)) rfl ?_
  refine EL.val (x_pick_f rfl rfl) rfl ?_
  refine EL.nil ?_
  refine EX.seq ?_
  refine EC.no rfl ?_
  refine EC.skip ?_
  refine EX.seq ?_
  refine EC.seq ?_
  refine EC.region ?_
  obtain ⟨bm, om, em_, _, c0_⟩ := ints_cells [3, 4, 0] 0 (by decide) _ _ _ _ _ hrm
  obtain ⟨bm2, om2, em2_, _, c1_⟩ := ints_cells [3, 4, 0] 1 (by decide) _ _ _ _ _ hrm
  obtain ⟨br, or_, er_, _, c2_⟩ := ints_cells [0, 150, 200] 0 (by decide) _ _ _ _ _ hrp
  subst em_
  subst er_
  injection em2_ with em2_
  injection em2_ with e1_ e2_
  subst e1_
  subst e2_
  refine EL.val (x_move rfl) rfl ?_
  refine EL.val (x_eql (r := true) rfl rfl (by decide)) rfl ?_
  refine EL.val (x_move rfl) rfl ?_
  refine EL.valg rfl rfl (x_move rfl) rfl ?_
  refine EL.valg rfl rfl (x_eql (r := true) rfl rfl (by decide)) rfl ?_
  refine EL.val (x_pick_t rfl rfl) rfl ?_
  refine EL.val (x_move rfl) rfl ?_
  refine EL.valg rfl rfl (x_move rfl) rfl ?_
  refine EL.valg rfl rfl (x_eql (r := true) rfl rfl (by decide)) rfl ?_
  refine EL.val (x_pick_t rfl rfl) rfl ?_
  refine EL.val (x_move rfl) rfl ?_
  refine EL.valg rfl rfl (x_move rfl) rfl ?_
  refine EL.valg rfl rfl (x_eql (r := true) rfl rfl (by decide)) rfl ?_
  refine EL.val (x_pick_t rfl rfl) rfl ?_
  refine EL.val (x_move rfl) rfl ?_
  refine EL.valg rfl rfl (x_move rfl) rfl ?_
  refine EL.valg rfl rfl (ix_29 (k := 0) rfl rfl (by decide)) rfl ?_
  refine EL.valg rfl rfl (ld_3 rfl (below_load hbM c0_)) rfl ?_
  refine EL.valg rfl rfl (x_eql (r := true) rfl rfl (by decide)) rfl ?_
  refine EL.val (x_pick_t rfl rfl) rfl ?_
  refine EL.val (x_move rfl) rfl ?_
  refine EL.valg rfl rfl (x_move rfl) rfl ?_
  refine EL.valg rfl rfl (ix_29 (k := 1) rfl rfl (by decide)) rfl ?_
  refine EL.valg rfl rfl (ld_3 rfl (below_load hbM c1_)) rfl ?_
  refine EL.valg rfl rfl (x_eql (r := true) rfl rfl (by decide)) rfl ?_
  refine EL.val (x_pick_t rfl rfl) rfl ?_
  refine EL.val (x_move rfl) rfl ?_
  refine EL.valg rfl rfl (x_move rfl) rfl ?_
  refine EL.valg rfl rfl (ix_29 (k := 0) rfl rfl (by decide)) rfl ?_
  refine EL.valg rfl rfl (ld_3 rfl (below_load hbM c2_)) rfl ?_
  refine EL.valg rfl rfl (x_eql (r := true) rfl rfl (by decide)) rfl ?_
  refine EL.val (x_pick_t rfl rfl) rfl ?_
  refine EL.val (x_assign rfl) rfl ?_
  refine EL.nil ?_
  refine EX.seq ?_
  refine EC.ret ?_
  exact EX.done (res1 rfl rfl) ⟨rfl, hbw⟩
end Go.Proofs.Ytabgmnmpdjnjoaa
namespace Go.Proofs.Ytabgmnmpdjnjoaa
open Go Go.ChangeShapes Go.WideShapes Go.Deep Go.RowKit Go.Joins
theorem cell_spot {w : World} {x : Addr} {u : Value} (h : w.cell? x = some u) : x.spot = none ∧ x.block < w.heap.size := by
  unfold World.cell? at h
  split at h
  · rename_i c e f hg
    split at h
    · cases h
    · rename_i hs
      refine ⟨by simpa using hs, ?_⟩
      rcases Nat.lt_or_ge x.block w.heap.size with hlt | hge
      · exact hlt
      · rw [Array.getElem?_eq_none hge] at hg; cases hg
  · cases h
section
variable {H : Type} {enc : TypeId × Value → H} {P : Program} {w : World} {base : Nat} {spare : Nat → Bool} {held : Bool}
/-- rows of cells, one behind the other -/
theorem rd_of_cells {b off n c s : Nat} {B : Nat} (row : Nat → List Value) (hlen : ∀ i, (row i).length = s) (hs : 0 < s) (hB : b < B) (hnc : n ≤ c)
    (hcell : ∀ i, i < n → ∀ j u, (row i)[j]? = some u → w.cell? ⟨b, off + (i * s + j), none⟩ = some u) :
    Rd w B s (.slice (some ⟨b, off, none⟩) n c) n ((List.range n).flatMap row) := by
  refine ⟨by rw [flat_len hlen, List.length_range], _, _, rfl, hnc, fun _ => ⟨b, off, rfl, hB, fun q u hu => ?_⟩⟩
  have hq : q < n * s := by
    have := (List.getElem?_eq_some_iff.1 hu).1
    rwa [flat_len hlen, List.length_range] at this
  have hk : q / s < n := by
    rw [Nat.div_lt_iff_lt_mul hs]
    exact hq
  have e : q = q / s * s + q % s := by rw [Nat.mul_comm]; exact (Nat.div_add_mod q s).symm
  have hg := flat_get hlen (List.range n) (q / s) (by simpa using hk) (q % s) (Nat.mod_lt _ hs)
  rw [← e, List.getElem_range] at hg
  rw [hg] at hu
  have := hcell (q / s) hk (q % s) u hu
  rwa [← e] at this
theorem add_lit_more (x : Addr) (n : Nat) (h : x.spot = none) : x.add n = ⟨x.block, x.off + n, none⟩ := by
  obtain ⟨b, o, s⟩ := x
  subst h
  rw [Addr.add_lit]
/-- a slice, opened to its elements -/
theorem rd_list {α : Type} [Inhabited α] {f : α → List Value} {s : Nat} {Good : α → Prop} (hf : ∀ x, (f x).length = s) (hs : 0 < s) {t e : TypeId} {fuel : Nat} {v : Value} {x : DataW H × List MemPlace} (ht : P.underlying t = some (.slice e)) (hC : P.cellsOf e = s)
    (hE : ∀ (fuel : Nat) (cs : List Value) (x : DataW H × List MemPlace), cs.length = s → DataW.trod enc P w base spare held fuel e cs = some x → ∃ y : α, cs = f y ∧ Good y) (h : DataW.trod enc P w base spare held fuel t [v] = some x) :
    ∃ l : List α, Rd w w.heap.size s v l.length (l.flatMap f) ∧ (∀ y ∈ l, Good y) ∧ l.length ≤ maxLen := by
  rcases open_slice ht h with ⟨hcs, _⟩ | ⟨a, len, cap, m, n, D, Pl, hcs, _, hl, hcap, hm, _, hi⟩
  · injection hcs with hcs
    subst hcs
    exact ⟨[], Rd.nil_ _ _ _, by simp, Nat.zero_le _⟩
  · injection hcs with hcs
    subst hcs
    have hcell : ∀ i, i < len → ∃ y : α, (∀ j u, (f y)[j]? = some u → w.cell? (a.add (i * s + j)) = some u) ∧ Good y := by
      intro i hi'
      obtain ⟨cs', hc, ht'⟩ := hi i (by rw [hm]; split <;> omega)
      rw [hC] at hc
      obtain ⟨_, hcl, hat⟩ := World.cells?_some hc
      obtain ⟨y, hy, hg⟩ := hE _ cs' _ hcl ht'
      subst hy
      refine ⟨y, fun j u hu => ?_, hg⟩
      have hj : j < s := by
        have := (List.getElem?_eq_some_iff.1 hu).1
        rwa [hf] at this
      have h1 := hat j hj
      rw [Go.Deep.add_add] at h1
      rw [h1, hu]
    let pick : Nat → α := fun i => if h : i < len then Classical.choose (hcell i h) else default
    have hpick : ∀ i, (h : i < len) → (∀ j u, (f (pick i))[j]? = some u → w.cell? (a.add (i * s + j)) = some u) ∧ Good (pick i) := fun i h => by
      have := Classical.choose_spec (hcell i h)
      simp only [pick, dif_pos h]
      exact this
    refine ⟨(List.range len).map pick, ?_, ?_, by simp; omega⟩
    · rw [List.length_map, List.length_range]
      rcases Nat.eq_zero_or_pos len with hz | hz
      · subst hz
        exact ⟨by simp, _, _, rfl, hl, fun h => absurd h (by omega)⟩
      · have h0 := (hpick 0 hz).1 0 _ (List.getElem?_eq_getElem (by rw [hf]; exact hs))
        obtain ⟨hsp, hb⟩ := cell_spot h0
        have e0 : a.add (0 * s + 0) = a := by simp [Addr.add]
        rw [e0] at hsp hb
        have hx : a = ⟨a.block, a.off, none⟩ := by obtain ⟨b, o, s⟩ := a; subst hsp; rfl
        rw [hx, List.flatMap_map]
        refine rd_of_cells _ (fun i => hf _) hs hb hl fun i hi' j u hu => ?_
        have h1 := (hpick i hi').1 j u hu
        rw [add_lit_more a _ hsp] at h1
        exact h1
    · intro y hy
      obtain ⟨i, hi', rfl⟩ := List.mem_map.1 hy
      exact (hpick i (by simpa using hi')).2
theorem fld_of {fs : Array Field} {n : Nat} {cs : List Value} {ys : List (DataW H × List MemPlace)} (hf : ∀ (i : Nat) (f : Field), fs[i]? = some f → DataW.trod enc P w base spare held n f.type ((cs.drop f.offset).take (P.cellsOf f.type)) = ys[i]?)
    {j ft off z : Nat} {f : Field} (hj : fs[j]? = some f) (h1 : f.type = ft) (h2 : f.offset = off) (h3 : P.cellsOf ft = z) : DataW.trod enc P w base spare held n ft ((cs.drop off).take z) = ys[j]? := by
  subst h1 h2 h3
  exact hf j f hj
end
section
variable {H : Type} {enc : TypeId × Value → H} {w : World} {base : Nat} {spare : Nat → Bool} {held : Bool}
theorem co_3 : Try.prog.cellsOf 3 = 1 := by kernel_rfl
set_option maxRecDepth 100000 in
theorem cells_47 {fuel : Nat} {cs : List Value} {x : DataW H × List MemPlace} (hl : cs.length = 2) (h : DataW.trod enc Try.prog w base spare held fuel 47 cs = some x) : ∃ (z0 : Int) (z1 : Int), cs = [.int .i64 z0, .int .i64 z1] := by
  obtain ⟨ys, n, _, _, _, hyl, hf⟩ := DataW.trod_struct Try.underlying47 h
  match cs, hl with
  | [u0, u1], _ =>
    match ys, hyl with
    | [y0, y1], _ =>
      have q0 : DataW.trod enc Try.prog w base spare held n 3 [u0] = some y0 := fld_of hf (j := 0) rfl rfl rfl co_3
      obtain ⟨z0, hz0, _, _⟩ := DataW.trod_int Try.underlying3 q0
      injection hz0 with hz0
      subst hz0
      have q1 : DataW.trod enc Try.prog w base spare held n 3 [u1] = some y1 := fld_of hf (j := 1) rfl rfl rfl co_3
      obtain ⟨z1, hz1, _, _⟩ := DataW.trod_int Try.underlying3 q1
      injection hz1 with hz1
      subst hz1
      exact ⟨z0, z1, rfl⟩
theorem co_47 : Try.prog.cellsOf 47 = 2 := by kernel_rfl
set_option maxRecDepth 100000 in
theorem cells_56 {fuel : Nat} {cs : List Value} {x : DataW H × List MemPlace} (hl : cs.length = 4) (h : DataW.trod enc Try.prog w base spare held fuel 56 cs = some x) : ∃ (z0 : Int) (z1 : Int) (z2 : Int) (z3 : Int), cs = [.int .i64 z0, .int .i64 z1, .int .i64 z2, .int .i64 z3] := by
  obtain ⟨ys, n, _, _, _, hyl, hf⟩ := DataW.trod_struct Try.underlying56 h
  match cs, hl with
  | [u0, u1, u2, u3], _ =>
    match ys, hyl with
    | [y0, y1, y2, y3], _ =>
      have q0 : DataW.trod enc Try.prog w base spare held n 3 [u0] = some y0 := fld_of hf (j := 0) rfl rfl rfl co_3
      obtain ⟨z0, hz0, _, _⟩ := DataW.trod_int Try.underlying3 q0
      injection hz0 with hz0
      subst hz0
      have q1 : DataW.trod enc Try.prog w base spare held n 3 [u1] = some y1 := fld_of hf (j := 1) rfl rfl rfl co_3
      obtain ⟨z1, hz1, _, _⟩ := DataW.trod_int Try.underlying3 q1
      injection hz1 with hz1
      subst hz1
      have q2 : DataW.trod enc Try.prog w base spare held n 3 [u2] = some y2 := fld_of hf (j := 2) rfl rfl rfl co_3
      obtain ⟨z2, hz2, _, _⟩ := DataW.trod_int Try.underlying3 q2
      injection hz2 with hz2
      subst hz2
      have q3 : DataW.trod enc Try.prog w base spare held n 3 [u3] = some y3 := fld_of hf (j := 3) rfl rfl rfl co_3
      obtain ⟨z3, hz3, _, _⟩ := DataW.trod_int Try.underlying3 q3
      injection hz3 with hz3
      subst hz3
      exact ⟨z0, z1, z2, z3, rfl⟩
theorem co_56 : Try.prog.cellsOf 56 = 4 := by kernel_rfl
theorem co_22 : Try.prog.cellsOf 22 = 1 := by kernel_rfl
instance : Inhabited Prt := ⟨prt0⟩
instance : Inhabited Way := ⟨way0⟩
theorem ints_flat (l : List Int) : ints l = l.flatMap fun x => [Value.int .i64 x] := by
  induction l with
  | nil => rfl
  | cons x l ih =>
    show Value.int .i64 x :: ints l = [Value.int .i64 x] ++ l.flatMap _
    rw [ih]
    rfl
theorem rd_ints {fuel : Nat} {v : Value} {x : DataW H × List MemPlace} (h : DataW.trod enc Try.prog w base spare held fuel 29 [v] = some x) : ∃ l : List Int, Rd w w.heap.size 1 v l.length (ints l) ∧ l.length ≤ maxLen := by
  obtain ⟨l, h1, _, h2⟩ := rd_list (s := 1) (f := fun x => [Value.int .i64 x]) (Good := fun _ => True) (fun _ => rfl) (by omega) Try.underlying29 co_3 (fun _ cs _ hl ht => by
    match cs, hl with
    | [u], _ =>
      obtain ⟨z, hz, _, _⟩ := DataW.trod_int Try.underlying3 ht
      injection hz with hz
      subst hz
      exact ⟨z, rfl, trivial⟩) h
  exact ⟨l, by rw [ints_flat]; exact h1, h2⟩
theorem rd_prts {fuel : Nat} {v : Value} {x : DataW H × List MemPlace} (h : DataW.trod enc Try.prog w base spare held fuel 22 [v] = some x) : ∃ l : List Prt, Rd w w.heap.size 2 v l.length (prtsC l) ∧ l.length ≤ maxLen := by
  obtain ⟨l, h1, _, h2⟩ := rd_list (f := prtC) (Good := fun _ => True) prtC_len (by omega) Try.underlying22 co_47 (fun _ cs _ hl ht => by
    obtain ⟨a, b, rfl⟩ := cells_47 hl ht
    exact ⟨⟨a, b⟩, rfl, trivial⟩) h
  exact ⟨l, h1, h2⟩
end
end Go.Proofs.Ytabgmnmpdjnjoaa
set_option linter.unusedVariables false
set_option linter.unusedSimpArgs false
namespace Go.Proofs.Ytabgmnmpdjnjoaa
open Go Go.RowKit
section
variable {nt : Net}
end
theorem aft_parts {nt : Net} {mv : List Int} (h : aftErr nt mv = 0) : mv.length = nt.ways.length ∧ okTo nt mv nt.ways.length = true ∧ (extL nt mv).any (fun x => decide (x < 0)) = false := by
  unfold aftErr at h
  split at h
  · cases h
  · rename_i h1
    split at h
    · cases h
    · rename_i h2
      split at h
      · cases h
      · rename_i h3; exact ⟨by omega, by simpa using h2, by simpa using h3⟩
end Go.Proofs.Ytabgmnmpdjnjoaa
set_option linter.unusedVariables false
set_option linter.unusedSimpArgs false
namespace Go.Proofs.Ytabgmnmpdjnjoaa
open Go Go.RowKit
section
variable {n : Nat} {σ : Sg} {w : World} {dst : Option Tmp} {ty : TypeId} {pos : String} {af : Array Edge} {g : Option (Nat × Bool)} {x y z : Operand} {at' : Array TypeId}
theorem cl_13  (a : Act) (_ : Env n σ a) : (execOp a.eval ⟨dst, .call { callee := .value (.func 13), args := #[], argTypes := at' }, ty, pos, af, g⟩).run Try.prog w = .ok (.enter 13 #[]) w := by
  simp only [execOp, resolve, List.map_toArray, List.map_nil]
  simp [go_sem, Act.eval]
theorem cl_14 {x0 : Operand} {v0 : Value} (h0 : evS σ x0 = some v0) (a : Act) (ha : Env n σ a) : (execOp a.eval ⟨dst, .call { callee := .value (.func 14), args := #[x0], argTypes := at' }, ty, pos, af, g⟩).run Try.prog w = .ok (.enter 14 #[v0]) w := by
  simp only [execOp, resolve, List.map_toArray, List.map_cons, List.map_nil, ha.eval h0]
  simp [go_sem, Act.eval]
end
end Go.Proofs.Ytabgmnmpdjnjoaa
set_option linter.unusedVariables false
set_option linter.unusedSimpArgs false
namespace Go.Proofs.Ytabgmnmpdjnjoaa
/-- sums of so many -/
def sumI (f : Nat → Int) : Nat → Int
  | 0 => 0
  | k + 1 => sumI f k + f k
theorem sumI_congr {f g : Nat → Int} : ∀ {n : Nat}, (∀ i, i < n → f i = g i) → sumI f n = sumI g n
  | 0, _ => rfl
  | n + 1, h => by rw [sumI, sumI, sumI_congr (fun i hi => h i (by omega)), h n (by omega)]
theorem sumI_nn {f : Nat → Int} : ∀ {n : Nat}, (∀ i, i < n → 0 ≤ f i) → 0 ≤ sumI f n
  | 0, _ => Int.le_refl _
  | n + 1, h => by
    have := sumI_nn (f := f) (n := n) (fun i hi => h i (by omega))
    have := h n (by omega)
    rw [sumI]
    omega
theorem sumI_le {f g : Nat → Int} : ∀ {n : Nat}, (∀ i, i < n → f i ≤ g i) → sumI f n ≤ sumI g n
  | 0, _ => Int.le_refl _
  | n + 1, h => by
    have := sumI_le (f := f) (g := g) (n := n) (fun i hi => h i (by omega))
    have := h n (by omega)
    rw [sumI, sumI]
    omega
theorem sumI_zero {f : Nat → Int} : ∀ {n : Nat}, (∀ i, i < n → f i = 0) → sumI f n = 0
  | 0, _ => rfl
  | n + 1, h => by rw [sumI, sumI_zero (fun i hi => h i (by omega)), h n (by omega)]; rfl
theorem sumI_add {f g : Nat → Int} : ∀ n : Nat, sumI (fun i => f i + g i) n = sumI f n + sumI g n
  | 0 => rfl
  | n + 1 => by rw [sumI, sumI, sumI, sumI_add n]; omega
theorem sumI_sub {f g : Nat → Int} : ∀ n : Nat, sumI (fun i => f i - g i) n = sumI f n - sumI g n
  | 0 => rfl
  | n + 1 => by rw [sumI, sumI, sumI, sumI_sub n]; omega
/-- a term at one place -/
theorem sumI_at {v : Nat} {x : Int} : ∀ {n : Nat}, sumI (fun i => if i = v then x else 0) n = if v < n then x else 0
  | 0 => by rw [sumI, if_neg (Nat.not_lt_zero _)]
  | n + 1 => by
    rw [sumI, sumI_at]
    by_cases h : n = v
    · subst h; rw [if_neg (Nat.lt_irrefl _), if_pos rfl, if_pos (by omega)]; omega
    · rw [if_neg h]
      by_cases h2 : v < n
      · rw [if_pos h2, if_pos (by omega)]; omega
      · rw [if_neg h2, if_neg (by omega)]; omega
section
variable {nt : Net} {mv pr : List Int}
theorem ext0_at {v : Nat} (h : v < nt.ports.length) : (extTo nt mv 0).getD v 0 = (nt.ports.getD v prt0).has - (nt.ports.getD v prt0).wants := by
  have := List.getElem?_range h
  simp [extTo, ext0, List.getD, this]
theorem bnd1_sum : ∀ k, bnd1 nt pr k = sumI (fun q => pr.getD q 0 * ((nt.ports.getD q prt0).wants - (nt.ports.getD q prt0).has)) k
  | 0 => rfl
  | k + 1 => by rw [bnd1, sumI, bnd1_sum k]
/-- what is lost on a way -/
def wayGap (nt : Net) (pr mv : List Int) (j : Nat) : Int := (nt.ways.getD j way0).room * max 0 (gainW pr (nt.ways.getD j way0)) - mv.getD j 0 * gainW pr (nt.ways.getD j way0)
/-- by how much moves cost more than the bound -/
theorem gap_to (hv : netB nt = true) : ∀ k, k ≤ nt.ways.length → costTo nt mv k - bnd2 nt pr k = sumI (fun q => pr.getD q 0 * (extTo nt mv k).getD q 0) nt.ports.length + sumI (wayGap nt pr mv) k
  | 0, _ => by
    have h1 : sumI (fun q => pr.getD q 0 * (extTo nt mv 0).getD q 0) nt.ports.length = sumI (fun q => -(pr.getD q 0 * ((nt.ports.getD q prt0).wants - (nt.ports.getD q prt0).has))) nt.ports.length := sumI_congr fun q hq => by
      rw [ext0_at hq, ← Int.mul_neg]
      congr 1
      omega
    have h2 : ∀ (f : Nat → Int) n, sumI (fun q => -f q) n = -sumI f n := fun f n => by
      induction n with
      | zero => rfl
      | succ n ih => rw [sumI, sumI, ih]; omega
    rw [h1, h2, bnd2, bnd1_sum, sumI, costTo]
    omega
  | k + 1, hk => by
    obtain ⟨_, _, _, hvw⟩ := netB_ok hv
    have hw := hvw k (by omega)
    have ih := gap_to hv k (by omega)
    have hl := extTo_len (nt := nt) (mv := mv) k
    obtain ⟨y, ey⟩ : ∃ z, z = nt.ways.getD k way0 := ⟨_, rfl⟩
    obtain ⟨m, em⟩ : ∃ z, z = mv.getD k 0 := ⟨_, rfl⟩
    rw [← ey] at hw
    have h1 : sumI (fun q => pr.getD q 0 * (extTo nt mv (k + 1)).getD q 0) nt.ports.length = sumI (fun q => pr.getD q 0 * (extTo nt mv k).getD q 0) nt.ports.length + (pr.getD y.to.toNat 0 * m - pr.getD y.fr.toNat 0 * m) := by
      have e : ∀ q, q < nt.ports.length → pr.getD q 0 * (extTo nt mv (k + 1)).getD q 0 = pr.getD q 0 * (extTo nt mv k).getD q 0 + ((if q = y.to.toNat then pr.getD y.to.toNat 0 * m else 0) - (if q = y.fr.toNat then pr.getD y.fr.toNat 0 * m else 0)) := fun q hq => by
        rw [extTo, ← ey, ← em, extStep_at (by omega) (by omega), Int.mul_sub, Int.mul_add]
        by_cases a : q = y.to.toNat <;> by_cases b : q = y.fr.toNat
        · rw [if_pos a, if_pos b, if_pos a, if_pos b, ← a, ← b]; omega
        · rw [if_pos a, if_neg b, if_pos a, if_neg b, ← a]; omega
        · rw [if_neg a, if_pos b, if_neg a, if_pos b, ← b]; omega
        · rw [if_neg a, if_neg b, if_neg a, if_neg b]; omega
      rw [sumI_congr e, sumI_add, sumI_sub, sumI_at, sumI_at, if_pos (by omega), if_pos (by omega)]
    have hg : wayGap nt pr mv k = y.room * max 0 (gainW pr y) - m * gainW pr y := by rw [wayGap, ← ey, ← em]
    have hgw : m * gainW pr y = pr.getD y.to.toNat 0 * m - pr.getD y.fr.toNat 0 * m - m * y.cost := by
      rw [gainW, Int.mul_sub, Int.mul_sub, Int.mul_comm m, Int.mul_comm m]
    rw [h1, sumI, costTo, bnd2, ← ey, ← em, hg]
    omega
theorem wayGap_nn {j : Nat} (h0 : 0 ≤ mv.getD j 0) (h1 : mv.getD j 0 ≤ (nt.ways.getD j way0).room) : 0 ≤ wayGap nt pr mv j := by
  unfold wayGap
  generalize gainW pr (nt.ways.getD j way0) = g
  generalize mv.getD j 0 = m at h0 h1 ⊢
  generalize (nt.ways.getD j way0).room = r at h1 ⊢
  rcases Int.le_total 0 g with hg | hg
  · rw [Int.max_eq_right hg]
    have := Int.mul_le_mul_of_nonneg_right h1 hg
    omega
  · rw [Int.max_eq_left hg, Int.mul_zero]
    have := Int.mul_nonpos_of_nonneg_of_nonpos h0 hg
    omega
theorem ext_nn (ha : aftErr nt mv = 0) {q : Nat} (hq : q < nt.ports.length) : 0 ≤ (extL nt mv).getD q 0 := by
  obtain ⟨_, _, h⟩ := aft_parts ha
  have hl : (extL nt mv).length = nt.ports.length := extTo_len _
  have := List.any_eq_false.1 h _ (List.getElem_mem (show q < (extL nt mv).length by omega))
  rw [show (extL nt mv).getD q 0 = (extL nt mv)[q] by simp [List.getD, show q < (extL nt mv).length by omega]]
  simp only [decide_eq_true_eq] at this
  omega
/-- NO MOVES COST LESS THAN THE BOUND OF ANY PRICES -/
theorem weak (hv : netB nt = true) (ha : aftErr nt mv = 0) (hp : ∀ q, 0 ≤ pr.getD q 0) : bndL nt pr ≤ costL nt mv := by
  obtain ⟨hml, hok, _⟩ := aft_parts ha
  have h := gap_to (pr := pr) (mv := mv) hv nt.ways.length (Nat.le_refl _)
  have h1 : 0 ≤ sumI (fun q => pr.getD q 0 * (extTo nt mv nt.ways.length).getD q 0) nt.ports.length := sumI_nn fun q hq => Int.mul_nonneg (hp q) (ext_nn ha hq)
  have h2 : 0 ≤ sumI (wayGap nt pr mv) nt.ways.length := sumI_nn fun j hj => wayGap_nn (okTo_at hok hj).1 (okTo_at hok hj).2
  unfold costL bndL
  omega
/-- what proves moves -/
theorem strong (hv : netB nt = true) (ha : aftErr nt mv = 0) (hp : ∀ q, 0 ≤ pr.getD q 0) (h : provesB nt pr mv = true) : bndL nt pr = costL nt mv := by
  obtain ⟨hml, hok, _⟩ := aft_parts ha
  have hg := gap_to (pr := pr) (mv := mv) hv nt.ways.length (Nat.le_refl _)
  unfold provesB at h
  rw [Bool.and_eq_true] at h
  have h1 : sumI (fun q => pr.getD q 0 * (extTo nt mv nt.ways.length).getD q 0) nt.ports.length = 0 := sumI_zero fun q hq => by
    have h3 := List.all_eq_true.1 h.2 q (List.mem_range.2 hq)
    have h4 := hp q
    have h5 := ext_nn ha hq
    unfold prtP at h3
    simp only [Bool.not_eq_true', Bool.and_eq_false_iff, decide_eq_false_iff_not] at h3
    show pr.getD q 0 * (extL nt mv).getD q 0 = 0
    rcases h3 with h3 | h3
    · rw [show pr.getD q 0 = 0 by omega, Int.zero_mul]
    · rw [show (extL nt mv).getD q 0 = 0 by omega, Int.mul_zero]
  have h2 : sumI (wayGap nt pr mv) nt.ways.length = 0 := sumI_zero fun j hj => by
    have h3 := List.all_eq_true.1 h.1 j (List.mem_range.2 hj)
    have h4 := okTo_at hok hj
    unfold wayP at h3
    simp only [Bool.and_eq_true, Bool.not_eq_true', Bool.and_eq_false_iff, decide_eq_false_iff_not] at h3
    unfold wayGap
    generalize gainW pr (nt.ways.getD j way0) = g at h3 ⊢
    generalize mv.getD j 0 = m at h3 h4 ⊢
    generalize (nt.ways.getD j way0).room = r at h3 h4 ⊢
    rcases Int.lt_trichotomy g 0 with hg | hg | hg
    · rw [Int.max_eq_left (by omega), Int.mul_zero, show m = 0 by omega, Int.zero_mul]; rfl
    · rw [hg]; simp
    · rw [Int.max_eq_right (by omega), show m = r by omega]; omega
  unfold costL bndL
  omega
end
end Go.Proofs.Ytabgmnmpdjnjoaa
set_option linter.unusedVariables false
set_option linter.unusedSimpArgs false
namespace Go.Proofs.Ytabgmnmpdjnjoaa
theorem sumI_each {f : Nat → Int} : ∀ {n : Nat}, (∀ i, i < n → 0 ≤ f i) → sumI f n ≤ 0 → ∀ i, i < n → f i = 0
  | 0, _, _, i, hi => absurd hi (Nat.not_lt_zero _)
  | n + 1, h, hs, i, hi => by
    rw [sumI] at hs
    have h1 := sumI_nn (f := f) (n := n) (fun i hi => h i (by omega))
    have h2 := h n (by omega)
    by_cases e : i = n
    · subst e; omega
    · exact sumI_each (f := f) (n := n) (fun i hi => h i (by omega)) (by omega) i (by omega)
section
variable {nt : Net} {L : List Arc} {mv : List Int}
/-- what a port has after moves -/
theorem ext_sum (hv : netB nt = true) {v : Nat} (hp : v < nt.ports.length) : ∀ k, k ≤ nt.ways.length → (extTo nt mv k).getD v 0 = ((nt.ports.getD v prt0).has - (nt.ports.getD v prt0).wants) + sumI (fun j => (if v = (nt.ways.getD j way0).to.toNat then mv.getD j 0 else 0) - (if v = (nt.ways.getD j way0).fr.toNat then mv.getD j 0 else 0)) k
  | 0, _ => by rw [ext0_at hp, sumI]; omega
  | k + 1, hk => by
    obtain ⟨_, _, _, hvw⟩ := netB_ok hv
    have hw := hvw k (by omega)
    have hl := extTo_len (nt := nt) (mv := mv) k
    rw [extTo, extStep_at (by omega) (by omega), ext_sum hv hp k (by omega), sumI]
    omega
/-! ### The flow -/
theorem bal_ways (hst : St nt L) (v : Nat) : ∀ k, k ≤ nt.ways.length → balTo L v k = sumI (fun j => (if v = (nt.ways.getD j way0).to.toNat then (movesL L nt.ways.length).getD j 0 else 0) - (if v = (nt.ways.getD j way0).fr.toNat then (movesL L nt.ways.length).getD j 0 else 0)) k
  | 0, _ => rfl
  | k + 1, hk => by
    have hs := hst.good.shape (2 * k)
    have ho := (open_way (nt := nt) (j := k) (by omega)).1
    have e1 : (arcAt L (2 * k)).to = (nt.ways.getD k way0).to.toNat := by rw [hs.2.1, ho]
    have e2 : (arcAt L (2 * k)).fr = (nt.ways.getD k way0).fr.toNat := by rw [hs.1, ho]
    rw [balTo, sumI, bal_ways hst v k (by omega), moves_at L (by omega), e1, e2]
    simp only [eq_comm]
theorem bal_ports (hst : St nt L) {v : Nat} (hp : v < nt.ports.length) : ∀ q, q ≤ nt.ports.length → balTo L v (nt.ways.length + 2 * q) = balTo L v nt.ways.length + (if v < q then (arcAt L (2 * nt.ways.length + 4 * v + 1)).room - (arcAt L (2 * nt.ways.length + 4 * v + 3)).room else 0)
  | 0, _ => by simp
  | q + 1, hq => by
    have ih := bal_ports hst hp q (by omega)
    obtain ⟨o0, o1, o2, o3⟩ := open_port (nt := nt) (q := q) (by omega)
    have s0 := hst.good.shape (2 * nt.ways.length + 4 * q)
    have s2 := hst.good.shape (2 * nt.ways.length + 4 * q + 2)
    have a1 : 2 * (nt.ways.length + 2 * q) = 2 * nt.ways.length + 4 * q := by omega
    have a2 : 2 * (nt.ways.length + 2 * q + 1) = 2 * nt.ways.length + 4 * q + 2 := by omega
    have f0 : (arcAt L (2 * nt.ways.length + 4 * q)).fr = nt.ports.length := by rw [s0.1, o0]
    have t0 : (arcAt L (2 * nt.ways.length + 4 * q)).to = q := by rw [s0.2.1, o0]
    have f2 : (arcAt L (2 * nt.ways.length + 4 * q + 2)).fr = q := by rw [s2.1, o2]
    have t2 : (arcAt L (2 * nt.ways.length + 4 * q + 2)).to = nt.ports.length + 1 := by rw [s2.2.1, o2]
    rw [show nt.ways.length + 2 * (q + 1) = nt.ways.length + 2 * q + 1 + 1 by omega, balTo, balTo, ih, a2, a1, f0, t0, f2, t2, show 2 * nt.ways.length + 4 * q + 2 + 1 = 2 * nt.ways.length + 4 * q + 3 from rfl]
    rw [if_neg (show ¬nt.ports.length = v by omega), if_neg (show ¬nt.ports.length + 1 = v by omega)]
    by_cases e : q = v
    · subst e
      rw [if_pos rfl, if_pos rfl, if_neg (Nat.lt_irrefl _), if_pos (Nat.lt_succ_self _)]
      omega
    · rw [if_neg e, if_neg e]
      by_cases h : v < q
      · rw [if_pos h, if_pos (by omega)]; omega
      · rw [if_neg h, if_neg (by omega)]; omega
/-- hulls that are left in a port; hulls that it lacks -/
def restA (nt : Net) (L : List Arc) (q : Nat) : Int := (arcAt L (2 * nt.ways.length + 4 * q)).room
def defA (nt : Net) (L : List Arc) (q : Nat) : Int := (arcAt L (2 * nt.ways.length + 4 * q + 2)).room
theorem St.len (hst : St nt L) : L.length = nt.ways.length * 2 + nt.ports.length * 4 := by rw [hst.good.len, openL_len]
theorem rest_nn (hst : St nt L) {q : Nat} (hq : q < nt.ports.length) : 0 ≤ restA nt L q ∧ 0 ≤ defA nt L q := ⟨hst.good.nn _ (by rw [hst.len]; omega), hst.good.nn _ (by rw [hst.len]; omega)⟩
theorem mate_even' {i : Nat} (h : i % 2 = 0) : mate i = i + 1 := by unfold mate; rw [if_pos h]
theorem ext_bal (hv : netB nt = true) (hst : St nt L) {v : Nat} (hp : v < nt.ports.length) : (extL nt (movesL L nt.ways.length)).getD v 0 = restA nt L v - defA nt L v := by
  have h1 := ext_sum (mv := movesL L nt.ways.length) hv hp nt.ways.length (Nat.le_refl _)
  have h2 := bal_ways hst v nt.ways.length (Nat.le_refl _)
  have h3 := bal_ports hst hp nt.ports.length (Nat.le_refl _)
  have h4 := hst.cons v hp
  have hl := hst.len
  obtain ⟨o0, o1, o2, o3⟩ := open_port (nt := nt) (q := v) hp
  have p0 := hst.good.pair (2 * nt.ways.length + 4 * v) (by omega)
  have p2 := hst.good.pair (2 * nt.ways.length + 4 * v + 2) (by omega)
  rw [mate_even' (by omega), o0, o1] at p0
  rw [mate_even' (by omega), o2, show 2 * nt.ways.length + 4 * v + 2 + 1 = 2 * nt.ways.length + 4 * v + 3 by omega, o3] at p2
  rw [bal, show L.length / 2 = nt.ways.length + 2 * nt.ports.length by omega, h3, if_pos hp] at h4
  unfold restA defA
  rw [extL, h1, ← h2]
  simp only at p0 p2
  omega
theorem way_pair (hst : St nt L) {j : Nat} (hj : j < nt.ways.length) : (arcAt L (2 * j)).room + (arcAt L (2 * j + 1)).room = (nt.ways.getD j way0).room ∧ 0 ≤ (arcAt L (2 * j)).room ∧ 0 ≤ (arcAt L (2 * j + 1)).room := by
  have hl := hst.len
  obtain ⟨o0, o1⟩ := open_way (nt := nt) hj
  have p0 := hst.good.pair (2 * j) (by omega)
  rw [mate_even, o0, o1] at p0
  simp only at p0
  exact ⟨by omega, hst.good.nn _ (by omega), hst.good.nn _ (by omega)⟩
theorem full_iff (hst : St nt L) : fullB nt L = true ↔ ∀ q, q < nt.ports.length → defA nt L q ≤ 0 := by
  have hl := hst.len
  have hat : ∀ i, 2 * nt.ways.length + i < L.length → (L.drop (2 * nt.ways.length))[i]? = some (arcAt L (2 * nt.ways.length + i)) := fun i hi => by
    rw [List.getElem?_drop, List.getElem?_eq_getElem hi]
    simp [arcAt, List.getD, hi]
  unfold fullB
  rw [List.all_eq_true]
  constructor
  · intro h q hq
    have h1 := h _ (List.mem_of_getElem? (hat (4 * q + 2) (by omega)))
    have o2 := (open_port (nt := nt) (q := q) hq).2.2.1
    have s2 := hst.good.shape (2 * nt.ways.length + 4 * q + 2)
    have e : 2 * nt.ways.length + (4 * q + 2) = 2 * nt.ways.length + 4 * q + 2 := by omega
    rw [e] at h1
    unfold fullA at h1
    rw [decide_eq_true (by rw [s2.2.1, o2])] at h1
    simp only [Bool.true_and, Bool.not_eq_true', decide_eq_false_iff_not] at h1
    unfold defA
    omega
  · intro h a ha
    obtain ⟨i, hi, rfl⟩ := List.getElem_of_mem ha
    rw [List.length_drop] at hi
    have e := hat i (by omega)
    rw [List.getElem?_eq_getElem (by rw [List.length_drop]; exact hi)] at e
    injection e with e
    rw [e]
    have hq : i / 4 < nt.ports.length := by omega
    have s := hst.good.shape (2 * nt.ways.length + i)
    obtain ⟨o0, o1, o2, o3⟩ := open_port (nt := nt) (q := i / 4) hq
    have hr : i = 4 * (i / 4) ∨ i = 4 * (i / 4) + 1 ∨ i = 4 * (i / 4) + 2 ∨ i = 4 * (i / 4) + 3 := by omega
    generalize i / 4 = q at *
    rcases hr with rfl | rfl | rfl | rfl
    · exact fullA_to (by rw [s.2.1, o0]; simp only; omega)
    · rw [← Nat.add_assoc] at s ⊢
      exact fullA_to (by rw [s.2.1, o1]; simp only; omega)
    · rw [← Nat.add_assoc] at s ⊢
      refine fullA_room ?_
      have := h q hq
      unfold defA at this
      omega
    · rw [← Nat.add_assoc] at s ⊢
      exact fullA_to (by rw [s.2.1, o3]; simp only; omega)
/-- MOVES THAT MEET ALL WANTS ARE POSSIBLE -/
theorem full_aft (hv : netB nt = true) (hst : St nt L) (hf : fullB nt L = true) : aftErr nt (movesL L nt.ways.length) = 0 := by
  have hl := hst.len
  refine aft_ok (by rw [moves_len]; exact fun h => h rfl) ?_ ?_
  · unfold okTo
    rw [List.all_eq_true]
    intro j hj
    have hj := List.mem_range.1 hj
    have hw := way_pair hst hj
    unfold okMv
    rw [moves_at L hj, inB_iff]
    omega
  · intro h
    obtain ⟨x, hx, h1⟩ := List.any_eq_true.1 h
    obtain ⟨i, hi, rfl⟩ := List.getElem_of_mem hx
    have hle : (extL nt (movesL L nt.ways.length)).length = nt.ports.length := extTo_len _
    have h2 := ext_bal hv hst (v := i) (by omega)
    rw [show (extL nt (movesL L nt.ways.length)).getD i 0 = (extL nt (movesL L nt.ways.length))[i] by simp [List.getD, hi]] at h2
    have h3 := (full_iff hst).1 hf i (by omega)
    have h4 := rest_nn hst (q := i) (by omega)
    have h5 := of_decide_eq_true h1
    omega
/-! ### The prices -/
/-- what the second costs are like -/
theorem bare_costs (hv : netB nt = true) (hst : St nt L) {l l2 b2 : List Int} (hE : EndsAt L (bf0 (nt.ports.length + 2) (initB nt l)) l2 b2) : (∀ i, i < L.length → 0 < (arcAt L i).room → l2.getD (arcAt L i).fr 0 < farI → l2.getD (arcAt L i).to 0 ≤ l2.getD (arcAt L i).fr 0 + (arcAt L i).cost) ∧
    ∀ v, v < nt.ports.length → farI ≤ l.getD v 0 → -61000000 ≤ l2.getD v 0 ∧ l2.getD v 0 ≤ 0 := by
  obtain ⟨⟨hp1, hp60⟩, _⟩ := netB_ok hv
  obtain ⟨d, hF, hd⟩ := hst.pot0 hv
  have hA := hst.arcs hv
  have h0 : InvB L (nt.ports.length + 2) (fun _ => True) d (initB nt l) (bf0 (nt.ports.length + 2) (initB nt l)) := inv0 (fun v _ h => absurd trivial h) (fun v hv' _ => by
    have h1 := (hd v hv').2
    have h2 := initB_nn (nt := nt) (l := l) v
    omega)
  have hI := hE.inv hA hF initB_far h0
  refine ⟨fun i hi hr hf => hE.fixed.le hi hr hf, fun v hv' hb => ?_⟩
  have h1 : l2.getD v 0 ≤ initB nt l v := hI.le v (by omega)
  have h2 : d v ≤ l2.getD v 0 := hI.low v (by omega) trivial
  unfold initB at h1
  rw [if_pos ⟨hv', hb⟩] at h1
  have := hd v (by omega)
  omega
theorem prices_at {l l2 : List Int} {v : Nat} (h : v < nt.ports.length) : (pricesL nt l l2).getD v 0 = priceOf l l2 v := by simp [pricesL, List.getD, h]
/-- THE PRICES PROVE THE MOVES -/
theorem prices_prove (hv : netB nt = true) (hst : St nt L) (hf : fullB nt L = true) {pr : List Int} (hpr : PricesOf nt L pr) : prErr nt pr = 0 ∧ provesB nt pr (movesL L nt.ways.length) = true := by
  obtain ⟨l, b, l2, hE, hB, rfl⟩ := hpr
  obtain ⟨⟨hp1, hp60⟩, hw3, hvp, hvw⟩ := netB_ok hv
  have hFar := hst.far hv hE
  have hl := hst.len
  have hbare : ∀ v, v < nt.ports.length → farI ≤ l.getD v 0 → (∀ i, i < L.length → 0 < (arcAt L i).room → l2.getD (arcAt L i).fr 0 < farI → l2.getD (arcAt L i).to 0 ≤ l2.getD (arcAt L i).fr 0 + (arcAt L i).cost) ∧ ∀ v, v < nt.ports.length → farI ≤ l.getD v 0 → -61000000 ≤ l2.getD v 0 ∧ l2.getD v 0 ≤ 0 := fun v h1 h2 => by
    obtain ⟨b2, h3⟩ := hB ⟨v, h1, h2⟩
    exact bare_costs hv hst h3
  have hbd : ∀ v, v < nt.ports.length → 0 ≤ priceOf l l2 v ∧ priceOf l l2 v ≤ 240000000 := fun v h1 => by
    unfold priceOf
    by_cases h2 : farI ≤ l.getD v 0
    · rw [if_pos h2]
      have := (hbare v h1 h2).2 v h1 h2
      unfold farI
      omega
    · rw [if_neg h2]
      have h3 := hFar.nn v (by omega)
      have h4 := hFar.small v (by omega) (by omega)
      omega
  have step : ∀ i, i < L.length → 0 < (arcAt L i).room → (arcAt L i).fr < nt.ports.length → (arcAt L i).to < nt.ports.length → priceOf l l2 (arcAt L i).to ≤ priceOf l l2 (arcAt L i).fr + (arcAt L i).cost := fun i hi hr h1 h2 => by
    have hc := (hst.arcs hv).cost i hi
    unfold priceOf
    by_cases h3 : farI ≤ l.getD (arcAt L i).fr 0
    · rw [if_pos h3]
      obtain ⟨g1, g2⟩ := hbare _ h1 h3
      have g3 := g2 _ h1 h3
      by_cases h4 : farI ≤ l.getD (arcAt L i).to 0
      · rw [if_pos h4]
        have := g1 i hi hr (by unfold farI; omega)
        omega
      · rw [if_neg h4]
        have := hFar.small (arcAt L i).to (by omega) (by omega)
        unfold farI
        omega
    · rw [if_neg h3]
      obtain ⟨g1, g2⟩ := hFar.feas.step i hi hr (by omega)
      have g1' : l.getD (arcAt L i).to 0 < farI := g1
      rw [if_neg (by omega)]
      exact g2
  refine ⟨?_, ?_⟩
  · refine pr_ok (by rw [pricesL_len]; exact fun h => h rfl) ?_
    rw [List.all_eq_true]
    intro x hx
    obtain ⟨i, hi, rfl⟩ := List.getElem_of_mem hx
    rw [pricesL_len] at hi
    rw [show (pricesL nt l l2)[i] = priceOf l l2 i by simp [pricesL], inB_iff]
    have := hbd i hi
    omega
  · unfold provesB
    rw [Bool.and_eq_true, List.all_eq_true, List.all_eq_true]
    refine ⟨fun j hj => ?_, fun q hq => ?_⟩
    · have hj := List.mem_range.1 hj
      have hw := hvw j hj
      have hp := way_pair hst hj
      obtain ⟨o0, o1⟩ := open_way (nt := nt) hj
      have s0 := hst.good.shape (2 * j)
      have s1 := hst.good.shape (2 * j + 1)
      rw [o0] at s0
      rw [o1] at s1
      simp only at s0 s1
      have t0 := step (2 * j) (by omega)
      have t1 := step (2 * j + 1) (by omega)
      rw [s0.1, s0.2.1, s0.2.2] at t0
      rw [s1.1, s1.2.1, s1.2.2] at t1
      unfold wayP
      rw [moves_at L hj, gainW, prices_at (by omega), prices_at (by omega)]
      have t0 := fun h => t0 h (by omega) (by omega)
      have t1 := fun h => t1 h (by omega) (by omega)
      generalize priceOf l l2 (nt.ways.getD j way0).to.toNat = pt at *
      generalize priceOf l l2 (nt.ways.getD j way0).fr.toNat = pf at *
      simp only [Bool.and_eq_true, Bool.not_eq_true', Bool.and_eq_false_iff, decide_eq_false_iff_not]
      refine ⟨?_, ?_⟩
      · by_cases h : 0 < (arcAt L (2 * j + 1)).room
        · have := t1 h; exact .inl (by omega)
        · exact .inr h
      · by_cases h : 0 < (arcAt L (2 * j)).room
        · have := t0 h; exact .inl (by omega)
        · exact .inr (by omega)
    · have hq := List.mem_range.1 hq
      unfold prtP
      rw [prices_at hq, ext_bal hv hst hq]
      have hr := rest_nn hst hq
      have hd := (full_iff hst).1 hf q hq
      simp only [Bool.not_eq_true', Bool.and_eq_false_iff, decide_eq_false_iff_not]
      by_cases h : 0 < restA nt L q
      · refine .inl ?_
        have o0 := (open_port (nt := nt) (q := q) hq).1
        have s0 := hst.good.shape (2 * nt.ways.length + 4 * q)
        rw [o0] at s0
        simp only at s0
        obtain ⟨g1, g2⟩ := hFar.feas.step (2 * nt.ways.length + 4 * q) (by omega) h (by rw [s0.1, hFar.src]; decide)
        have g1' : l.getD q 0 < farI := by rw [s0.2.1] at g1; exact g1
        have g2' : l.getD q 0 ≤ 0 := by rw [s0.1, s0.2.1, s0.2.2, hFar.src] at g2; omega
        unfold priceOf
        rw [if_neg (by omega)]
        omega
      · exact .inr (by omega)
end
/-! ### What Move answers -/
theorem pr_nn {nt : Net} {pr : List Int} (h : prErr nt pr = 0) (q : Nat) : 0 ≤ pr.getD q 0 := (pr_at (pr_zero h).2 q).1
/-- what moves that are told are like -/
theorem move_ok {nt : Net} {ml pr : List Int} {c : Int} (hv : netB nt = true) (h : MoveR nt ml c pr 0) : aftErr nt ml = 0 ∧ prErr nt pr = 0 ∧ provesB nt pr ml = true ∧ c = costL nt ml ∧ c = bndL nt pr := by
  rcases h with ⟨_, h2, _⟩ | ⟨_, L, hF, hst, ⟨_, h2, _⟩ | ⟨h1, _, h3, h4, h5⟩⟩
  · cases h2
  · cases h2
  · have ha := full_aft hv hst h1
    obtain ⟨g1, g2⟩ := prices_prove hv hst h1 h5
    subst h3
    have := strong hv ha (pr_nn g1) g2
    exact ⟨ha, g1, g2, h4, by rw [this, h4]; rfl⟩
/-- the cost is the least one, and the bound is the greatest one -/
theorem move_least {nt : Net} {ml pr mv : List Int} {c : Int} (hv : netB nt = true) (h : MoveR nt ml c pr 0) (ha : aftErr nt mv = 0) : c ≤ costL nt mv := by
  obtain ⟨_, h2, _, _, h5⟩ := move_ok hv h
  rw [h5]
  exact weak hv ha (pr_nn h2)
theorem move_bound {nt : Net} {ml pr : List Int} {c : Int} {p : List Int} (hv : netB nt = true) (h : MoveR nt ml c pr 0) (hp : ∀ q, 0 ≤ p.getD q 0) : bndL nt p ≤ c := by
  obtain ⟨h1, _, _, h4, _⟩ := move_ok hv h
  rw [h4]
  exact weak hv h1 hp
/-! ### Where hulls lack -/
def lackS (nt : Net) (f : Nat → Bool) : Int := sumI (fun q => if f q = true then (nt.ports.getD q prt0).wants - (nt.ports.getD q prt0).has else 0) nt.ports.length - sumI (fun j => if lkB nt f j = true then (nt.ways.getD j way0).room else 0) nt.ways.length
def lossW (nt : Net) (mv : List Int) (f : Nat → Bool) (j : Nat) : Int := (if lkB nt f j = true then (nt.ways.getD j way0).room else 0) - (if f (nt.ways.getD j way0).to.toNat = true then mv.getD j 0 else 0) + (if f (nt.ways.getD j way0).fr.toNat = true then mv.getD j 0 else 0)
section
variable {nt : Net} {L : List Arc} {mv : List Int} {f : Nat → Bool}
theorem sumI_neg {f : Nat → Int} : ∀ n : Nat, sumI (fun i => -f i) n = -sumI f n
  | 0 => rfl
  | n + 1 => by rw [sumI, sumI, sumI_neg n]; omega
theorem ext_set (hv : netB nt = true) : ∀ k, k ≤ nt.ways.length → sumI (fun q => if f q = true then (extTo nt mv k).getD q 0 else 0) nt.ports.length = sumI (fun q => if f q = true then (nt.ports.getD q prt0).has - (nt.ports.getD q prt0).wants else 0) nt.ports.length + sumI (fun j => (if f (nt.ways.getD j way0).to.toNat = true then mv.getD j 0 else 0) - (if f (nt.ways.getD j way0).fr.toNat = true then mv.getD j 0 else 0)) k
  | 0, _ => by
    rw [show sumI (fun j => (if f (nt.ways.getD j way0).to.toNat = true then mv.getD j 0 else 0) - (if f (nt.ways.getD j way0).fr.toNat = true then mv.getD j 0 else 0)) 0 = 0 from rfl, Int.add_zero]
    exact sumI_congr fun q hq => by rw [ext0_at hq]
  | k + 1, hk => by
    obtain ⟨_, _, _, hvw⟩ := netB_ok hv
    have hw := hvw k (by omega)
    have ih := ext_set hv k (by omega)
    have hl := extTo_len (nt := nt) (mv := mv) k
    obtain ⟨y, ey⟩ : ∃ z, z = nt.ways.getD k way0 := ⟨_, rfl⟩
    obtain ⟨m, em⟩ : ∃ z, z = mv.getD k 0 := ⟨_, rfl⟩
    rw [← ey] at hw
    have e : ∀ q, q < nt.ports.length → (if f q = true then (extTo nt mv (k + 1)).getD q 0 else 0) = (if f q = true then (extTo nt mv k).getD q 0 else 0) + ((if q = y.to.toNat then (if f y.to.toNat = true then m else 0) else 0) - (if q = y.fr.toNat then (if f y.fr.toNat = true then m else 0) else 0)) := fun q hq => by
      rw [extTo, ← ey, ← em, extStep_at (by omega) (by omega)]
      by_cases a : q = y.to.toNat <;> by_cases b : q = y.fr.toNat
      · rw [if_pos a, if_pos b, if_pos a, if_pos b, ← a, ← b]; split <;> omega
      · rw [if_pos a, if_neg b, if_pos a, if_neg b, ← a]; split <;> omega
      · rw [if_neg a, if_pos b, if_neg a, if_pos b, ← b]; split <;> omega
      · rw [if_neg a, if_neg b, if_neg a, if_neg b]; split <;> omega
    rw [sumI_congr e, sumI_add, sumI_sub, sumI_at, sumI_at, if_pos (show y.to.toNat < nt.ports.length by omega), if_pos (show y.fr.toNat < nt.ports.length by omega), ih, sumI, ← ey, ← em]
    omega
theorem lack_id (hv : netB nt = true) : lackS nt f = sumI (fun q => if f q = true then -(extL nt mv).getD q 0 else 0) nt.ports.length - sumI (lossW nt mv f) nt.ways.length := by
  have h := ext_set (mv := mv) (f := f) hv nt.ways.length (Nat.le_refl _)
  have e1 : sumI (fun q => if f q = true then -(extL nt mv).getD q 0 else 0) nt.ports.length = -sumI (fun q => if f q = true then (extTo nt mv nt.ways.length).getD q 0 else 0) nt.ports.length := by
    rw [← sumI_neg]
    exact sumI_congr fun q _ => by unfold extL; split <;> omega
  have e2 : sumI (fun q => if f q = true then (nt.ports.getD q prt0).wants - (nt.ports.getD q prt0).has else 0) nt.ports.length = -sumI (fun q => if f q = true then (nt.ports.getD q prt0).has - (nt.ports.getD q prt0).wants else 0) nt.ports.length := by
    rw [← sumI_neg]
    exact sumI_congr fun q _ => by split <;> omega
  have e3 : sumI (lossW nt mv f) nt.ways.length = sumI (fun j => if lkB nt f j = true then (nt.ways.getD j way0).room else 0) nt.ways.length - sumI (fun j => (if f (nt.ways.getD j way0).to.toNat = true then mv.getD j 0 else 0) - (if f (nt.ways.getD j way0).fr.toNat = true then mv.getD j 0 else 0)) nt.ways.length := by
    rw [← sumI_sub]
    exact sumI_congr fun j _ => by unfold lossW; omega
  unfold lackS
  rw [e1, e2, e3, h]
  omega
theorem loss_cases {j : Nat} (h0 : 0 ≤ mv.getD j 0) (h1 : mv.getD j 0 ≤ (nt.ways.getD j way0).room) : 0 ≤ lossW nt mv f j ∧ (lossW nt mv f j = 0 → (f (nt.ways.getD j way0).to.toNat = true → f (nt.ways.getD j way0).fr.toNat = false → mv.getD j 0 = (nt.ways.getD j way0).room) ∧ (f (nt.ways.getD j way0).fr.toNat = true → f (nt.ways.getD j way0).to.toNat = false → mv.getD j 0 = 0)) := by
  unfold lossW lkB
  generalize mv.getD j 0 = m at h0 h1 ⊢
  generalize (nt.ways.getD j way0).room = r at h1 ⊢
  cases f (nt.ways.getD j way0).to.toNat <;> cases f (nt.ways.getD j way0).fr.toNat <;> simp <;> omega
/-- where moves are possible nothing lacks -/
theorem lack_none (hv : netB nt = true) (ha : aftErr nt mv = 0) : lackS nt f ≤ 0 := by
  obtain ⟨hml, hok, _⟩ := aft_parts ha
  rw [lack_id (mv := mv) hv]
  have h1 : 0 ≤ sumI (lossW nt mv f) nt.ways.length := sumI_nn fun j hj => (loss_cases (okTo_at hok hj).1 (okTo_at hok hj).2).1
  have h2 : sumI (fun q => if f q = true then -(extL nt mv).getD q 0 else 0) nt.ports.length ≤ sumI (fun _ => 0) nt.ports.length := sumI_le fun q hq => by
    have := ext_nn ha hq
    split <;> omega
  have h3 : sumI (fun _ => (0 : Int)) nt.ports.length = 0 := sumI_zero fun _ _ => rfl
  omega
def gapQ (nt : Net) (L : List Arc) (f : Nat → Bool) (q : Nat) : Int := if f q = true then restA nt L q else defA nt L q
theorem lack_flow (hv : netB nt = true) (hst : St nt L) : lackS nt f = sumI (defA nt L) nt.ports.length - sumI (gapQ nt L f) nt.ports.length - sumI (lossW nt (movesL L nt.ways.length) f) nt.ways.length := by
  rw [lack_id (mv := movesL L nt.ways.length) hv, ← sumI_sub]
  congr 1
  exact sumI_congr fun q hq => by
    rw [ext_bal hv hst hq]
    unfold gapQ
    split <;> omega
/-- where no hulls can come any more -/
theorem FillTo.cut {L0 : List Arc} (hF : FillTo nt L0 L) : ∃ l b, EndsAt L (bf0 (nt.ports.length + 2) (initS nt)) l b ∧ b.getD (nt.ports.length + 1) 0 < 0 := by
  induction hF with
  | stop h1 h2 => exact ⟨_, _, h1, h2⟩
  | step _ _ _ _ ih => exact ih
theorem no_way {L0 : List Arc} (hv : netB nt = true) (hst : St nt L) (hF : FillTo nt L0 L) : ¬Lk L (nt.ports.length + 1) nt.ports.length := by
  obtain ⟨l, b, hE, hb⟩ := hF.cut
  have hFar := hst.far hv hE
  have : ∀ v, Lk L (nt.ports.length + 1) v → l.getD v 0 < farI → l.getD (nt.ports.length + 1) 0 < farI := by
    intro v h
    induction h with
    | base => exact fun h => h
    | step hi hr _ ih => exact fun h => ih (hFar.feas.step _ hi hr h).1
  intro h
  have h1 := this _ h (by rw [hFar.src]; decide)
  rcases hFar.none (nt.ports.length + 1) (by omega) (by omega) with ⟨_, h2⟩ | ⟨h2, _⟩ <;> omega
/-- the nodes from which the sink could get hulls have the greatest lack -/
theorem lack_lk {L0 : List Arc} (hv : netB nt = true) (hst : St nt L) (hF : FillTo nt L0 L) (hf : ∀ v, f v = true ↔ Lk L (nt.ports.length + 1) v) : lackS nt f = sumI (defA nt L) nt.ports.length := by
  have hno := no_way hv hst hF
  obtain ⟨⟨hp1, hp60⟩, hw3, hvp, hvw⟩ := netB_ok hv
  have hlen := hst.len
  have lk : ∀ i, i < L.length → 0 < (arcAt L i).room → f (arcAt L i).to = true → f (arcAt L i).fr = true := fun i hi hr h => (hf _).2 (.step hi hr ((hf _).1 h))
  have hs : f nt.ports.length = false := by
    cases e : f nt.ports.length with
    | false => rfl
    | true => exact absurd ((hf _).1 e) hno
  have hsink : f (nt.ports.length + 1) = true := (hf _).2 .base
  rw [lack_flow hv hst]
  have z1 : sumI (gapQ nt L f) nt.ports.length = 0 := sumI_zero fun q hq => by
    have hr := rest_nn hst hq
    obtain ⟨o0, _, o2, _⟩ := open_port (nt := nt) hq
    have s0 := hst.good.shape (2 * nt.ways.length + 4 * q)
    have s2 := hst.good.shape (2 * nt.ways.length + 4 * q + 2)
    rw [o0] at s0
    rw [o2] at s2
    simp only at s0 s2
    have l0 := lk (2 * nt.ways.length + 4 * q) (by omega)
    have l2 := lk (2 * nt.ways.length + 4 * q + 2) (by omega)
    rw [s0.1, s0.2.1] at l0
    rw [s2.1, s2.2.1] at l2
    unfold gapQ
    unfold restA defA at hr ⊢
    cases e : f q with
    | true =>
      rw [if_pos rfl]
      by_cases h : 0 < (arcAt L (2 * nt.ways.length + 4 * q)).room
      · rw [l0 h e] at hs; cases hs
      · omega
    | false =>
      rw [if_neg (by decide)]
      by_cases h : 0 < (arcAt L (2 * nt.ways.length + 4 * q + 2)).room
      · rw [l2 h hsink] at e; cases e
      · omega
  have z2 : sumI (lossW nt (movesL L nt.ways.length) f) nt.ways.length = 0 := sumI_zero fun j hj => by
    obtain ⟨h1, h2, h3⟩ := way_pair hst hj
    obtain ⟨o0, o1⟩ := open_way (nt := nt) hj
    have s0 := hst.good.shape (2 * j)
    have s1 := hst.good.shape (2 * j + 1)
    rw [o0] at s0
    rw [o1] at s1
    simp only at s0 s1
    have l0 := lk (2 * j) (by omega)
    have l1 := lk (2 * j + 1) (by omega)
    rw [s0.1, s0.2.1] at l0
    rw [s1.1, s1.2.1] at l1
    unfold lossW lkB
    rw [moves_at L hj]
    cases e1 : f (nt.ways.getD j way0).to.toNat <;> cases e2 : f (nt.ways.getD j way0).fr.toNat <;> simp only [Bool.not_true, Bool.not_false, Bool.and_true, Bool.and_false, Bool.true_and, Bool.false_and, Bool.false_eq_true, if_true, if_false, if_pos]
    · omega
    · by_cases h : 0 < (arcAt L (2 * j + 1)).room
      · rw [l1 h e2] at e1; cases e1
      · omega
    · by_cases h : 0 < (arcAt L (2 * j)).room
      · rw [l0 h e1] at e2; cases e2
      · omega
    · omega
  omega
/-- hulls lack just if no moves are possible -/
theorem full_feas {L0 : List Arc} (hv : netB nt = true) (hst : St nt L) (hF : FillTo nt L0 L) : (fullB nt L = true ↔ ∃ mv, aftErr nt mv = 0) ∧ (fullB nt L = true ↔ sumI (defA nt L) nt.ports.length = 0) := by
  have hz : sumI (defA nt L) nt.ports.length ≤ 0 → fullB nt L = true := fun h => (full_iff hst).2 fun q hq => by
    have := sumI_each (f := defA nt L) (n := nt.ports.length) (fun q hq => (rest_nn hst hq).2) h q hq
    omega
  have hn : 0 ≤ sumI (defA nt L) nt.ports.length := sumI_nn fun q hq => (rest_nn hst hq).2
  refine ⟨⟨fun h => ⟨_, full_aft hv hst h⟩, fun ⟨mv, ha⟩ => hz ?_⟩, fun h => ?_, fun h => hz (by omega)⟩
  · classical
    have h1 := lack_lk (f := fun v => decide (Lk L (nt.ports.length + 1) v)) hv hst hF fun v => by simp
    have h2 := lack_none (f := fun v => decide (Lk L (nt.ports.length + 1) v)) hv ha
    omega
  · refine sumI_zero fun q hq => ?_
    have h1 := (full_iff hst).1 h q hq
    have h2 := (rest_nn hst hq).2
    omega
end
/-- Move: whether there are moves -/
theorem move_err {nt : Net} {ml pr : List Int} {c e : Int} (hv : netB nt = true) (h : MoveR nt ml c pr e) : (e = 0 ∧ ∃ mv, aftErr nt mv = 0) ∨ (e = 7 ∧ c = 0 ∧ ml = [] ∧ pr = [] ∧ ∀ mv, aftErr nt mv ≠ 0) := by
  rcases h with ⟨h1, _⟩ | ⟨_, L, hF, hst, ⟨h1, h2, h3, h4, h5⟩ | ⟨h1, h2, h3, h4, h5⟩⟩
  · rw [hv] at h1; cases h1
  · refine .inr ⟨h2, h3, h4, h5, fun mv ha => ?_⟩
    rw [((full_feas hv hst hF).1).2 ⟨mv, ha⟩] at h1
    cases h1
  · exact .inl ⟨h2, _, full_aft hv hst h1⟩
end Go.Proofs.Ytabgmnmpdjnjoaa
set_option linter.unusedVariables false
set_option linter.unusedSimpArgs false
namespace Go.Proofs.Ytabgmnmpdjnjoaa
open Go Go.RowKit
/-! ### Sums over lists -/
def sumL {α : Type} (h : α → Int) : List α → Int
  | [] => 0
  | a :: l => h a + sumL h l
section
variable {α : Type} {h : α → Int} {l : List α}
theorem sumL_app (l l2 : List α) : sumL h (l ++ l2) = sumL h l + sumL h l2 := by
  induction l with
  | nil => show sumL h l2 = 0 + _; omega
  | cons a l ih => show h a + sumL h (l ++ l2) = h a + sumL h l + sumL h l2; omega
theorem sumL_nn (hn : ∀ a ∈ l, 0 ≤ h a) : 0 ≤ sumL h l := by
  induction l with
  | nil => exact Int.le_refl _
  | cons a l ih =>
    have h1 := hn a (List.mem_cons_self ..)
    have h2 := ih fun b hb => hn b (List.mem_cons_of_mem _ hb)
    show 0 ≤ h a + sumL h l
    omega
theorem sumL_zero (hn : ∀ a ∈ l, h a = 0) : sumL h l = 0 := by
  induction l with
  | nil => rfl
  | cons a l ih =>
    have h1 := hn a (List.mem_cons_self ..)
    have h2 := ih fun b hb => hn b (List.mem_cons_of_mem _ hb)
    show h a + sumL h l = 0
    omega
theorem sumL_le {n : Int} (hn : ∀ a ∈ l, h a ≤ n) : sumL h l ≤ (l.length : Int) * n := by
  induction l with
  | nil => show (0 : Int) ≤ ((0 : Nat) : Int) * n; omega
  | cons a l ih =>
    have h1 := hn a (List.mem_cons_self ..)
    have h2 := ih fun b hb => hn b (List.mem_cons_of_mem _ hb)
    show h a + sumL h l ≤ ((l.length + 1 : Nat) : Int) * n
    rw [Int.natCast_add, Int.add_mul, show ((1 : Nat) : Int) * n = n by omega]
    omega
theorem sumL_filter (p : α → Bool) (l : List α) : sumL h l = sumL h (l.filter p) + sumL h (l.filter fun a => !p a) := by
  induction l with
  | nil => rfl
  | cons a l ih =>
    cases hp : p a with
    | true =>
      rw [List.filter_cons_of_pos hp, List.filter_cons_of_neg (by simp [hp])]
      show h a + sumL h l = h a + sumL h _ + _
      omega
    | false =>
      rw [List.filter_cons_of_neg (by simp [hp]), List.filter_cons_of_pos (by simp [hp])]
      show h a + sumL h l = _ + (h a + sumL h _)
      omega
theorem sumL_take {d : α} {k : Nat} (hk : k < l.length) : sumL h (l.take (k + 1)) = sumL h (l.take k) + h (l.getD k d) := by
  rw [List.take_succ_eq_append_getElem hk, sumL_app, getD_in hk]
  show _ + (h _ + 0) = _
  omega
theorem sumI_L {d : α} : ∀ {k : Nat}, k ≤ l.length → sumI (fun j => h (l.getD j d)) k = sumL h (l.take k)
  | 0, _ => rfl
  | k + 1, hk => by rw [sumI, sumI_L (Nat.le_of_succ_le hk), sumL_take (d := d) hk]
end
/-! ### Plans -/
structure Run where
  y : Way
  wk : Int
def run0 : Run := ⟨way0, 0⟩
structure Plan where
  prts : List (List Prt)
  runs : List Run
  store : List Int
def stW (P k i : Nat) (c : Int) : Way := ⟨(k : Int) * P + i, ((k : Int) + 1) * P + i, c, 1000⟩
def rnW (P k : Nat) (x : Run) : Way := ⟨(k : Int) * P + x.y.fr, ((k : Int) + x.wk) * P + x.y.to, x.y.cost, x.y.room⟩
def stL (P k : Nat) (s : List Int) (n : Nat) : List Way := (List.range n).map fun i => stW P k i (s.getD i 0)
def inW (W k : Nat) (x : Run) : Bool := decide ((k : Int) + x.wk < W)
def rnL (P W k : Nat) (r : List Run) : List Way := (r.filter (inW W k)).map (rnW P k)
def wkL (P W : Nat) (s : List Int) (r : List Run) (k : Nat) : List Way := stL P k s s.length ++ rnL P W k r
def wksTo (P W : Nat) (s : List Int) (r : List Run) : Nat → List Way
  | 0 => []
  | k + 1 => wksTo P W s r k ++ wkL P W s r k
def expN (pl : Plan) : Net := ⟨pl.prts.flatten, wksTo pl.store.length pl.prts.length pl.store pl.runs (pl.prts.length - 1)⟩
def runB (P : Nat) (x : Run) : Bool := inB 1 12 x.wk && wayB P x.y
def runCnt (W : Nat) (x : Run) : Int := if inB 1 12 x.wk = true then max 0 ((W : Int) - x.wk) else 0
def cntTo (P W : Nat) (r : List Run) (k : Nat) : Int := (P : Int) * ((W : Int) - 1) + sumL (runCnt W) (r.take k)
def shapeB (pl : Plan) : Bool := inB 1 12 (pl.prts.length : Nat) && (decide (pl.store.length ≠ 0) && pl.prts.all fun l => decide (l.length = pl.store.length))
def planE (pl : Plan) : Int :=
  if shapeB pl = true then
    if 60 < (pl.store.length : Int) * (pl.prts.length : Nat) ∨ 300 < cntTo pl.store.length pl.prts.length pl.runs pl.runs.length then 5
    else if (pl.store.all (inB 0 1000000) && pl.prts.flatten.all prtB) = true then
      if pl.runs.all (runB pl.store.length) = true then 0 else 2
    else 2
  else 4
structure PlanOk (pl : Plan) : Prop where
  w1 : 1 ≤ pl.prts.length
  w12 : pl.prts.length ≤ 12
  p1 : 1 ≤ pl.store.length
  row : ∀ l ∈ pl.prts, l.length = pl.store.length
  small : pl.store.length * pl.prts.length ≤ 60
  cnt : cntTo pl.store.length pl.prts.length pl.runs pl.runs.length ≤ 300
  st : ∀ c ∈ pl.store, 0 ≤ c ∧ c ≤ 1000000
  prt : ∀ p ∈ pl.prts.flatten, prtB p = true
  run : ∀ x ∈ pl.runs, runB pl.store.length x = true
theorem shape_iff {pl : Plan} : shapeB pl = true ↔ 1 ≤ pl.prts.length ∧ pl.prts.length ≤ 12 ∧ 1 ≤ pl.store.length ∧ ∀ l ∈ pl.prts, l.length = pl.store.length := by
  unfold shapeB
  simp only [Bool.and_eq_true, decide_eq_true_eq, List.all_eq_true, inB_iff]
  constructor
  · rintro ⟨⟨h1, h2⟩, h3, h4⟩
    exact ⟨by omega, by omega, by omega, h4⟩
  · rintro ⟨h1, h2, h3, h4⟩
    exact ⟨⟨by omega, by omega⟩, by omega, h4⟩
theorem mul_cast {P W : Nat} : ((P : Int) * (W : Int)) = ((P * W : Nat) : Int) := (Int.natCast_mul P W).symm
theorem plan_ok {pl : Plan} : planE pl = 0 ↔ PlanOk pl := by
  unfold planE
  constructor
  · intro h
    split at h
    · rename_i h1
      obtain ⟨g1, g2, g3, g4⟩ := shape_iff.1 h1
      split at h
      · exact absurd h (by decide)
      · rename_i h2
        rw [mul_cast] at h2
        split at h
        · rename_i h3
          rw [Bool.and_eq_true] at h3
          split at h
          · rename_i h4
            exact ⟨g1, g2, g3, g4, by omega, by omega, fun c hc => inB_iff.1 (List.all_eq_true.1 h3.1 c hc), fun p hp => List.all_eq_true.1 h3.2 p hp, fun x hx => List.all_eq_true.1 h4 x hx⟩
          · exact absurd h (by decide)
        · exact absurd h (by decide)
    · exact absurd h (by decide)
  · intro h
    have h1 := h.small
    have h2 := h.cnt
    rw [if_pos (shape_iff.2 ⟨h.w1, h.w12, h.p1, h.row⟩), mul_cast, if_neg (by omega), if_pos (by rw [Bool.and_eq_true]; exact ⟨List.all_eq_true.2 fun c hc => inB_iff.2 (h.st c hc), List.all_eq_true.2 h.prt⟩), if_pos (List.all_eq_true.2 h.run)]
theorem flat_len_eq {α : Type} {P : Nat} : ∀ {ls : List (List α)}, (∀ l ∈ ls, l.length = P) → ls.flatten.length = ls.length * P
  | [], _ => by simp
  | l :: ls, h => by
    rw [List.flatten_cons, List.length_append, h l (List.mem_cons_self ..), flat_len_eq fun x hx => h x (List.mem_cons_of_mem _ hx), List.length_cons, Nat.succ_mul, Nat.add_comm]
theorem runB_iff {P : Nat} {x : Run} : runB P x = true ↔ (1 ≤ x.wk ∧ x.wk ≤ 12) ∧ wayB P x.y = true := by rw [runB, Bool.and_eq_true, inB_iff]
theorem wayB_iff {n : Nat} {x : Way} : wayB n x = true ↔ (0 ≤ x.fr ∧ x.fr ≤ (n : Int) - 1) ∧ (0 ≤ x.to ∧ x.to ≤ (n : Int) - 1) ∧ x.fr ≠ x.to ∧ (0 ≤ x.cost ∧ x.cost ≤ 1000000) ∧ (0 ≤ x.room ∧ x.room ≤ 1000) := by
  unfold wayB
  simp only [Bool.and_eq_true, decide_eq_true_eq, inB_iff]
/-! ### The ways of a plan's net -/
section
variable {P W : Nat} {s : List Int} {r : List Run}
theorem stL_succ (k n : Nat) : stL P k s (n + 1) = stL P k s n ++ [stW P k n (s.getD n 0)] := by simp [stL, List.range_succ]
theorem rnL_take {k i : Nat} (hi : i < r.length) : rnL P W k (r.take (i + 1)) = rnL P W k (r.take i) ++ (if inW W k (r.getD i run0) = true then [rnW P k (r.getD i run0)] else []) := by
  rw [List.take_succ_eq_append_getElem hi, getD_in hi]
  unfold rnL
  rw [List.filter_append, List.map_append]
  congr 1
  cases h : inW W k r[i] <;> simp [h]
theorem mem_wks {y : Way} : ∀ {K : Nat}, y ∈ wksTo P W s r K → ∃ k, k < K ∧ y ∈ wkL P W s r k
  | 0, h => absurd h (List.not_mem_nil)
  | K + 1, h => by
    rcases List.mem_append.1 h with h | h
    · obtain ⟨k, h1, h2⟩ := mem_wks h
      exact ⟨k, by omega, h2⟩
    · exact ⟨K, by omega, h⟩
theorem mem_wkL {y : Way} {k : Nat} (h : y ∈ wkL P W s r k) : (∃ i, i < s.length ∧ y = stW P k i (s.getD i 0)) ∨ (∃ x ∈ r, (k : Int) + x.wk < W ∧ y = rnW P k x) := by
  rcases List.mem_append.1 h with h | h
  · obtain ⟨i, hi, rfl⟩ := List.mem_map.1 h
    exact .inl ⟨i, List.mem_range.1 hi, rfl⟩
  · obtain ⟨x, hx, rfl⟩ := List.mem_map.1 h
    obtain ⟨h1, h2⟩ := List.mem_filter.1 hx
    exact .inr ⟨x, h1, of_decide_eq_true h2, rfl⟩
theorem mulle {a b : Int} (P : Nat) (h : a ≤ b) : a * (P : Int) ≤ b * P := Int.mul_le_mul_of_nonneg_right h (Int.natCast_nonneg _)
theorem stW_ok {k i : Nat} {c : Int} (hk : k + 1 < W) (hi : i < P) (hc : 0 ≤ c ∧ c ≤ 1000000) : wayB (W * P) (stW P k i c) = true := by
  rw [wayB_iff, Int.natCast_mul]
  have h1 := mulle P (show (0 : Int) ≤ (k : Int) by omega)
  have h2 := mulle P (show ((k : Int) + 1) ≤ (W : Int) - 1 by omega)
  unfold stW
  simp only
  rw [Int.add_mul, Int.sub_mul] at h2
  rw [Int.add_mul]
  refine ⟨⟨?_, ?_⟩, ⟨?_, ?_⟩, ?_, hc, ?_⟩ <;> omega
theorem rnW_ok {k : Nat} {x : Run} (hk : (k : Int) + x.wk < W) (hx : runB P x = true) : wayB (W * P) (rnW P k x) = true := by
  obtain ⟨⟨g1, g2⟩, g3⟩ := runB_iff.1 hx
  obtain ⟨⟨g4, g5⟩, ⟨g6, g7⟩, g8, g9, g10⟩ := wayB_iff.1 g3
  rw [wayB_iff, Int.natCast_mul]
  have h1 := mulle P (show (0 : Int) ≤ (k : Int) by omega)
  have h2 := mulle P (show ((k : Int) + x.wk) ≤ (W : Int) - 1 by omega)
  have h3 := mulle P (show (k : Int) + 1 ≤ (k : Int) + x.wk by omega)
  unfold rnW
  simp only
  rw [Int.sub_mul] at h2
  rw [Int.add_mul (k : Int) 1] at h3
  refine ⟨⟨?_, ?_⟩, ⟨?_, ?_⟩, ?_, g9, g10⟩ <;> omega
def hits (W : Nat) (x : Run) : Nat → Nat
  | 0 => 0
  | K + 1 => hits W x K + (if inW W K x = true then 1 else 0)
theorem hits_is {x : Run} (hx : 1 ≤ x.wk) : ∀ K : Nat, (hits W x K : Int) = min (K : Int) (max 0 ((W : Int) - x.wk))
  | 0 => by show ((0 : Nat) : Int) = _; omega
  | K + 1 => by
    have ih := hits_is hx K
    show ((hits W x K + (if inW W K x = true then 1 else 0) : Nat) : Int) = _
    unfold inW
    by_cases h : (K : Int) + x.wk < W
    · rw [if_pos (decide_eq_true h)]; omega
    · rw [if_neg (by rw [decide_eq_false h]; decide)]; omega
theorem wks_len0 : ∀ K : Nat, (wksTo P W s [] K).length = K * s.length
  | 0 => by simp [wksTo]
  | K + 1 => by
    rw [wksTo, List.length_append, wks_len0 K, Nat.succ_mul]
    simp [wkL, stL, rnL]
theorem wks_len1 {x : Run} : ∀ K : Nat, (wksTo P W s (x :: r) K).length = (wksTo P W s r K).length + hits W x K
  | 0 => rfl
  | K + 1 => by
    rw [wksTo, wksTo, List.length_append, List.length_append, wks_len1 K]
    have h : (wkL P W s (x :: r) K).length = (wkL P W s r K).length + (if inW W K x = true then 1 else 0) := by
      unfold wkL rnL
      rw [List.length_append, List.length_append, List.filter_cons]
      split
      · rw [List.map_cons, List.length_cons]; omega
      · rfl
    rw [h]
    show _ = _ + (hits W x K + _)
    omega
theorem wks_len {V : Nat} (hr : ∀ x ∈ r, 1 ≤ x.wk ∧ x.wk ≤ 12) (hs : s.length = P) : ((wksTo P (V + 1) s r V).length : Int) ≤ (P : Int) * V + sumL (runCnt (V + 1)) r := by
  induction r with
  | nil =>
    rw [wks_len0, hs, Int.natCast_mul, Int.mul_comm]
    show _ ≤ _ + (0 : Int)
    omega
  | cons x r ih =>
    have h1 := ih fun y hy => hr y (List.mem_cons_of_mem _ hy)
    have hx := hr x (List.mem_cons_self ..)
    have h2 := hits_is (W := V + 1) hx.1 V
    rw [wks_len1]
    show _ ≤ _ + (runCnt (V + 1) x + sumL (runCnt (V + 1)) r)
    have h3 : runCnt (V + 1) x = max 0 (((V + 1 : Nat) : Int) - x.wk) := by rw [runCnt, if_pos (inB_iff.2 hx)]
    omega
end
theorem PlanOk.ports {pl : Plan} (h : PlanOk pl) : (expN pl).ports.length = pl.prts.length * pl.store.length := flat_len_eq h.row
theorem PlanOk.net {pl : Plan} (h : PlanOk pl) : netB (expN pl) = true := by
  have hp := h.ports
  have h1 := h.small
  have h2 := h.cnt
  have hw := h.w1
  obtain ⟨V, hV⟩ : ∃ V, pl.prts.length = V + 1 := ⟨_, (Nat.sub_add_cancel h.w1).symm⟩
  have hpos : 1 ≤ pl.prts.length * pl.store.length := Nat.mul_pos h.w1 h.p1
  have hl : ((expN pl).ways.length : Int) ≤ 300 := by
    have h3 := wks_len (V := V) (s := pl.store) (r := pl.runs) (fun x hx => (runB_iff.1 (h.run x hx)).1) rfl
    have h4 : (expN pl).ways = wksTo pl.store.length (V + 1) pl.store pl.runs V := by
      show wksTo _ pl.prts.length _ _ (pl.prts.length - 1) = _
      rw [hV]
      rfl
    rw [h4]
    unfold cntTo at h2
    rw [List.take_length, hV] at h2
    have h5 : (((V + 1 : Nat) : Int) - 1) = V := by omega
    rw [h5] at h2
    omega
  rw [Nat.mul_comm] at h1
  unfold netB
  simp only [Bool.and_eq_true, decide_eq_true_eq, List.all_eq_true]
  refine ⟨by omega, by omega, by omega, h.prt, fun y hy => ?_⟩
  rw [hp]
  obtain ⟨k, hk, hy⟩ := mem_wks hy
  rcases mem_wkL hy with ⟨i, hi, rfl⟩ | ⟨x, hx, hkx, rfl⟩
  · exact stW_ok (by omega) hi (h.st _ (by rw [getD_in hi]; exact List.getElem_mem hi))
  · exact rnW_ok hkx (h.run x hx)
theorem PlanOk.one {pl : Plan} (h : pl.prts.length = 1) : (expN pl).ways = [] := by
  show wksTo _ _ _ _ (pl.prts.length - 1) = []
  rw [h]
  rfl
theorem cnt_bd {P W : Nat} {r : List Run} (hW : 1 ≤ W) : cntTo P W r r.length ≤ (P : Int) * ((W : Int) - 1) + (r.length : Int) * ((W : Int) - 1) := by
  unfold cntTo
  rw [List.take_length]
  have := sumL_le (h := runCnt W) (l := r) (n := (W : Int) - 1) fun x _ => by
    unfold runCnt
    split
    · rename_i h1
      have := inB_iff.1 h1
      omega
    · omega
  omega
theorem cnt_small {P W : Nat} {r : List Run} (hW : 1 ≤ W) (hW6 : W ≤ 6) (hP : P ≤ 5) (hr : r.length ≤ 20) : cntTo P W r r.length ≤ 300 := by
  have h1 := cnt_bd (P := P) (r := r) hW
  have h2 : (P : Int) * ((W : Int) - 1) ≤ 5 * 5 := Int.mul_le_mul (by omega) (by omega) (by omega) (by omega)
  have h3 : (r.length : Int) * ((W : Int) - 1) ≤ 20 * 5 := Int.mul_le_mul (by omega) (by omega) (by omega) (by omega)
  omega
/-! ### One week more -/
def longP (pl : Plan) : Plan := ⟨pl.prts ++ [List.replicate pl.store.length prt0], pl.runs, pl.store⟩
theorem long_ok {pl : Plan} (h : PlanOk pl) (h5 : pl.prts.length ≤ 5) (hP : pl.store.length ≤ 5) (hr : pl.runs.length ≤ 20) : PlanOk (longP pl) := by
  have hl : (longP pl).prts.length = pl.prts.length + 1 := by simp [longP]
  have hs : (longP pl).store = pl.store := rfl
  refine ⟨by omega, by omega, h.p1, fun l hl => ?_, ?_, ?_, h.st, fun p hp => ?_, h.run⟩
  · rcases List.mem_append.1 hl with hl | hl
    · exact h.row l hl
    · rw [List.mem_singleton.1 hl, List.length_replicate]; rfl
  · rw [hl, hs]
    exact Nat.le_trans (Nat.mul_le_mul hP (show pl.prts.length + 1 ≤ 6 by omega)) (by decide)
  · exact cnt_small (by omega) (by omega) hP hr
  · have e : (longP pl).prts.flatten = pl.prts.flatten ++ List.replicate pl.store.length prt0 := by simp [longP]
    rw [e] at hp
    rcases List.mem_append.1 hp with hp | hp
    · exact h.prt p hp
    · rw [(List.mem_replicate.1 hp).2]; decide
def toB (n : Int) (y : Way) : Bool := decide (y.to < n)
section
variable {P W : Nat} {s : List Int} {r : List Run}
theorem wk_cut {k : Nat} (hk : k + 1 < W) (hs : s.length = P) (hr : ∀ x ∈ r, runB P x = true) : (wkL P (W + 1) s r k).filter (toB ((W : Int) * P)) = wkL P W s r k := by
  unfold wkL
  rw [List.filter_append]
  congr 1
  · refine List.filter_eq_self.2 fun y hy => ?_
    obtain ⟨i, hi, rfl⟩ := List.mem_map.1 hy
    have hi := List.mem_range.1 hi
    refine decide_eq_true ?_
    have h2 := mulle P (show ((k : Int) + 1) ≤ (W : Int) - 1 by omega)
    rw [Int.sub_mul] at h2
    show ((k : Int) + 1) * P + i < _
    omega
  · unfold rnL
    rw [List.filter_map, List.filter_filter]
    congr 1
    refine List.filter_congr fun x hx => ?_
    obtain ⟨⟨g1, g2⟩, g3⟩ := runB_iff.1 (hr x hx)
    obtain ⟨_, ⟨g6, g7⟩, _⟩ := wayB_iff.1 g3
    show (decide (((k : Int) + x.wk) * P + x.y.to < (W : Int) * P) && decide ((k : Int) + x.wk < ((W + 1 : Nat) : Int))) = decide ((k : Int) + x.wk < (W : Int))
    by_cases h : (k : Int) + x.wk < W
    · have h2 := mulle P (show ((k : Int) + x.wk) ≤ (W : Int) - 1 by omega)
      rw [Int.sub_mul] at h2
      rw [decide_eq_true h, decide_eq_true (show ((k : Int) + x.wk) * P + x.y.to < (W : Int) * P by omega), decide_eq_true (show (k : Int) + x.wk < ((W + 1 : Nat) : Int) by omega)]
      rfl
    · have h2 := mulle P (show (W : Int) ≤ ((k : Int) + x.wk) by omega)
      rw [decide_eq_false h, decide_eq_false (show ¬((k : Int) + x.wk) * P + x.y.to < (W : Int) * P by omega)]
      rfl
theorem wk_last {V : Nat} (hr : ∀ x ∈ r, runB P x = true) : (wkL P (V + 2) s r V).filter (toB (((V + 1 : Nat) : Int) * P)) = [] := by
  refine List.filter_eq_nil_iff.2 fun y hy => ?_
  unfold toB
  rw [decide_eq_true_eq]
  rcases mem_wkL hy with ⟨i, hi, rfl⟩ | ⟨x, hx, hkx, rfl⟩
  · show ¬((V : Int) + 1) * P + i < _
    have : ((V + 1 : Nat) : Int) = (V : Int) + 1 := by omega
    rw [this]
    omega
  · obtain ⟨⟨g1, g2⟩, g3⟩ := runB_iff.1 (hr x hx)
    obtain ⟨_, ⟨g6, g7⟩, _⟩ := wayB_iff.1 g3
    have h2 := mulle P (show ((V + 1 : Nat) : Int) ≤ ((V : Int) + x.wk) by omega)
    show ¬((V : Int) + x.wk) * P + x.y.to < _
    omega
theorem wks_cut (hs : s.length = P) (hr : ∀ x ∈ r, runB P x = true) : ∀ {K : Nat}, K + 1 ≤ W → (wksTo P (W + 1) s r K).filter (toB ((W : Int) * P)) = wksTo P W s r K
  | 0, _ => rfl
  | K + 1, h => by rw [wksTo, wksTo, List.filter_append, wks_cut hs hr (by omega), wk_cut (by omega) hs hr]
end
theorem long_ways {pl : Plan} (h : PlanOk pl) : (expN (longP pl)).ways.filter (toB ((pl.prts.length : Int) * pl.store.length)) = (expN pl).ways := by
  obtain ⟨V, hV⟩ : ∃ V, pl.prts.length = V + 1 := ⟨_, (Nat.sub_add_cancel h.w1).symm⟩
  have e : (expN (longP pl)).ways = wksTo pl.store.length (V + 2) pl.store pl.runs (V + 1) := by
    show wksTo _ (longP pl).prts.length _ _ ((longP pl).prts.length - 1) = _
    have hl : (longP pl).prts.length = V + 2 := by simp [longP, hV]
    rw [hl]
    rfl
  have e2 : (expN pl).ways = wksTo pl.store.length (V + 1) pl.store pl.runs V := by
    show wksTo _ pl.prts.length _ _ (pl.prts.length - 1) = _
    rw [hV]
    rfl
  rw [e, e2, hV, wksTo, List.filter_append, wks_cut (W := V + 1) rfl h.run (Nat.le_refl _), wk_last h.run, List.append_nil]
theorem long_prts {pl : Plan} (q : Nat) : (expN (longP pl)).ports.getD q prt0 = (expN pl).ports.getD q prt0 := by
  show (longP pl).prts.flatten.getD q prt0 = pl.prts.flatten.getD q prt0
  have e : (longP pl).prts.flatten = pl.prts.flatten ++ List.replicate pl.store.length prt0 := by simp [longP]
  rw [e, List.getD_eq_getElem?_getD, List.getD_eq_getElem?_getD, List.getElem?_append]
  split
  · rfl
  · rename_i h
    rw [List.getElem?_eq_none (Nat.le_of_not_lt h), List.getElem?_replicate]
    split <;> rfl
theorem long_len {pl : Plan} : (expN (longP pl)).ports.length = (expN pl).ports.length + pl.store.length := by
  show (longP pl).prts.flatten.length = pl.prts.flatten.length + _
  simp [longP]
theorem sumI_more {f : Nat → Int} {n : Nat} : ∀ m : Nat, (∀ i, n ≤ i → f i = 0) → sumI f (n + m) = sumI f n
  | 0, _ => rfl
  | m + 1, h => by rw [← Nat.add_assoc, sumI, sumI_more m h, h _ (by omega)]; omega
/-! bounds -/
def gT (pr : List Int) (y : Way) : Int := y.room * max 0 (gainW pr y)
theorem bnd1_wk {nt : Net} {pr : List Int} : ∀ n : Nat, bnd1 nt pr n = sumI (fun k => pr.getD k 0 * ((nt.ports.getD k prt0).wants - (nt.ports.getD k prt0).has)) n
  | 0 => rfl
  | n + 1 => by rw [bnd1, sumI, bnd1_wk n]
theorem bnd2_sum {nt : Net} {pr : List Int} : ∀ {n : Nat}, n ≤ nt.ways.length → bnd2 nt pr n = bnd1 nt pr nt.ports.length - sumL (gT pr) (nt.ways.take n)
  | 0, _ => by show _ = _ - (0 : Int); rw [bnd2]; omega
  | n + 1, h => by
    rw [bnd2, bnd2_sum (Nat.le_of_succ_le h), sumL_take (d := way0) h]
    unfold gT
    omega
theorem bnd_sum {nt : Net} {pr : List Int} : bndL nt pr = sumI (fun k => pr.getD k 0 * ((nt.ports.getD k prt0).wants - (nt.ports.getD k prt0).has)) nt.ports.length - sumL (gT pr) nt.ways := by
  unfold bndL
  rw [bnd2_sum (Nat.le_refl _), bnd1_wk, List.take_length]
theorem long_bnd1 {pl : Plan} {pr : List Int} : sumI (fun k => pr.getD k 0 * (((expN (longP pl)).ports.getD k prt0).wants - ((expN (longP pl)).ports.getD k prt0).has)) (expN (longP pl)).ports.length = sumI (fun k => pr.getD k 0 * (((expN pl).ports.getD k prt0).wants - ((expN pl).ports.getD k prt0).has)) (expN pl).ports.length := by
  rw [long_len]
  have e : (fun k => pr.getD k 0 * (((expN (longP pl)).ports.getD k prt0).wants - ((expN (longP pl)).ports.getD k prt0).has)) = fun k => pr.getD k 0 * (((expN pl).ports.getD k prt0).wants - ((expN pl).ports.getD k prt0).has) := by
    funext k
    rw [long_prts]
  rw [e]
  refine sumI_more _ fun i hi => ?_
  have : (expN pl).ports.getD i prt0 = prt0 := by rw [List.getD_eq_getElem?_getD, List.getElem?_eq_none hi]; rfl
  rw [this]
  show _ * ((0 : Int) - 0) = 0
  rw [Int.sub_zero, Int.mul_zero]
theorem gT_nn {pr : List Int} {nt : Net} (hv : netB nt = true) {y : Way} (hy : y ∈ nt.ways) : 0 ≤ gT pr y := by
  have h := List.all_eq_true.1 (by simp only [netB, Bool.and_eq_true] at hv; exact hv.2.2.2.2) y hy
  obtain ⟨_, _, _, _, h1, _⟩ := wayB_iff.1 h
  exact Int.mul_nonneg h1 (by omega)
theorem long_bnd_le {pl : Plan} {pr : List Int} (h : PlanOk pl) (h2 : PlanOk (longP pl)) : bndL (expN (longP pl)) pr ≤ bndL (expN pl) pr := by
  rw [bnd_sum, bnd_sum, long_bnd1, sumL_filter (toB ((pl.prts.length : Int) * pl.store.length)) (expN (longP pl)).ways, long_ways h]
  have := sumL_nn (h := gT pr) (l := (expN (longP pl)).ways.filter fun y => !toB ((pl.prts.length : Int) * pl.store.length) y) fun y hy => gT_nn h2.net (List.mem_filter.1 hy).1
  omega
theorem long_bnd_eq {pl : Plan} {pr : List Int} (h : PlanOk pl) (h2 : PlanOk (longP pl)) (hp : ∀ q, 0 ≤ pr.getD q 0) (hl : pr.length = (expN pl).ports.length) : bndL (expN (longP pl)) pr = bndL (expN pl) pr := by
  rw [bnd_sum, bnd_sum, long_bnd1, sumL_filter (toB ((pl.prts.length : Int) * pl.store.length)) (expN (longP pl)).ways, long_ways h]
  have := sumL_zero (h := gT pr) (l := (expN (longP pl)).ways.filter fun y => !toB ((pl.prts.length : Int) * pl.store.length) y) fun y hy => by
    obtain ⟨h3, h4⟩ := List.mem_filter.1 hy
    have h5 := List.all_eq_true.1 (by have hv := h2.net; simp only [netB, Bool.and_eq_true] at hv; exact hv.2.2.2.2) y h3
    obtain ⟨_, ⟨g1, _⟩, _, ⟨g2, _⟩, _⟩ := wayB_iff.1 h5
    have h6 : ¬y.to < (pl.prts.length : Int) * pl.store.length := by simpa [toB] using h4
    rw [mul_cast, ← h.ports] at h6
    have h7 : pr.getD y.to.toNat 0 = 0 := by rw [List.getD_eq_getElem?_getD, List.getElem?_eq_none (by rw [hl]; omega)]; rfl
    have h8 := hp y.fr.toNat
    unfold gT gainW
    rw [h7, show max (0 : Int) (0 - pr.getD y.fr.toNat 0 - y.cost) = 0 by omega, Int.mul_zero]
  omega
/-! lacks -/
def lT (f : Nat → Bool) (y : Way) : Int := if (f y.to.toNat && !f y.fr.toNat) = true then y.room else 0
theorem lack_sum {nt : Net} {f : Nat → Bool} : lackS nt f = sumI (fun q => if f q = true then (nt.ports.getD q prt0).wants - (nt.ports.getD q prt0).has else 0) nt.ports.length - sumL (lT f) nt.ways := by
  unfold lackS
  have := sumI_L (h := lT f) (d := way0) (l := nt.ways) (Nat.le_refl _)
  rw [List.take_length] at this
  rw [← this]
  rfl
theorem long_lack1 {pl : Plan} {f : Nat → Bool} : sumI (fun q => if f q = true then ((expN (longP pl)).ports.getD q prt0).wants - ((expN (longP pl)).ports.getD q prt0).has else 0) (expN (longP pl)).ports.length = sumI (fun q => if f q = true then ((expN pl).ports.getD q prt0).wants - ((expN pl).ports.getD q prt0).has else 0) (expN pl).ports.length := by
  rw [long_len]
  have e : (fun q => if f q = true then ((expN (longP pl)).ports.getD q prt0).wants - ((expN (longP pl)).ports.getD q prt0).has else 0) = fun q => if f q = true then ((expN pl).ports.getD q prt0).wants - ((expN pl).ports.getD q prt0).has else 0 := by
    funext k
    rw [long_prts]
  rw [e]
  refine sumI_more _ fun i hi => ?_
  have : (expN pl).ports.getD i prt0 = prt0 := by rw [List.getD_eq_getElem?_getD, List.getElem?_eq_none hi]; rfl
  rw [this]
  show (if f i = true then (0 : Int) - 0 else 0) = 0
  split <;> rfl
theorem lT_nn {nt : Net} {f : Nat → Bool} (hv : netB nt = true) {y : Way} (hy : y ∈ nt.ways) : 0 ≤ lT f y := by
  have h := List.all_eq_true.1 (by simp only [netB, Bool.and_eq_true] at hv; exact hv.2.2.2.2) y hy
  obtain ⟨_, _, _, _, h1, _⟩ := wayB_iff.1 h
  unfold lT
  split
  · exact h1
  · exact Int.le_refl _
theorem long_lack_le {pl : Plan} {f : Nat → Bool} (h : PlanOk pl) (h2 : PlanOk (longP pl)) : lackS (expN (longP pl)) f ≤ lackS (expN pl) f := by
  rw [lack_sum, lack_sum, long_lack1, sumL_filter (toB ((pl.prts.length : Int) * pl.store.length)) (expN (longP pl)).ways, long_ways h]
  have := sumL_nn (h := lT f) (l := (expN (longP pl)).ways.filter fun y => !toB ((pl.prts.length : Int) * pl.store.length) y) fun y hy => lT_nn h2.net (List.mem_filter.1 hy).1
  omega
theorem long_lack_eq {pl : Plan} {f : Nat → Bool} (h : PlanOk pl) (h2 : PlanOk (longP pl)) (hf : ∀ q, (expN pl).ports.length ≤ q → f q = false) : lackS (expN (longP pl)) f = lackS (expN pl) f := by
  rw [lack_sum, lack_sum, long_lack1, sumL_filter (toB ((pl.prts.length : Int) * pl.store.length)) (expN (longP pl)).ways, long_ways h]
  have := sumL_zero (h := lT f) (l := (expN (longP pl)).ways.filter fun y => !toB ((pl.prts.length : Int) * pl.store.length) y) fun y hy => by
    obtain ⟨h3, h4⟩ := List.mem_filter.1 hy
    have h6 : ¬y.to < (pl.prts.length : Int) * pl.store.length := by simpa [toB] using h4
    rw [mul_cast, ← h.ports] at h6
    unfold lT
    rw [hf y.to.toNat (by omega)]
    rfl
  omega
/-- there are moves just if no set of ports lacks hulls -/
theorem move_lack {nt : Net} {ml pr : List Int} {c e : Int} (hv : netB nt = true) (h : MoveR nt ml c pr e) : e = 0 ↔ ∀ f, lackS nt f ≤ 0 := by
  constructor
  · rintro rfl f
    exact lack_none hv (move_ok hv h).1
  · intro hl
    rcases h with ⟨h1, _⟩ | ⟨_, L, hF, hst, ⟨h1, h2, _⟩ | ⟨_, h2, _⟩⟩
    · rw [hv] at h1; cases h1
    · classical
      have k1 := lack_lk (f := fun v => decide (Lk L (nt.ports.length + 1) v)) hv hst hF fun v => by simp
      have k2 := hl fun v => decide (Lk L (nt.ports.length + 1) v)
      have k3 : 0 ≤ sumI (defA nt L) nt.ports.length := sumI_nn fun q hq => (rest_nn hst hq).2
      rw [((full_feas hv hst hF).2).2 (by omega)] at h1
      cases h1
    · exact h2
theorem lack_cut {nt : Net} {f : Nat → Bool} (hv : netB nt = true) : lackS nt (fun q => f q && decide (q < nt.ports.length)) = lackS nt f := by
  rw [lack_sum, lack_sum]
  congr 1
  · refine sumI_congr fun q hq => ?_
    rw [decide_eq_true hq, Bool.and_true]
  · have : ∀ l : List Way, (∀ y ∈ l, y ∈ nt.ways) → sumL (lT fun q => f q && decide (q < nt.ports.length)) l = sumL (lT f) l := fun l => by
      induction l with
      | nil => intro _; rfl
      | cons y l ih =>
        intro hy
        show _ + _ = _ + _
        rw [ih fun z hz => hy z (List.mem_cons_of_mem _ hz)]
        congr 1
        have h := List.all_eq_true.1 (by simp only [netB, Bool.and_eq_true] at hv; exact hv.2.2.2.2) y (hy y (List.mem_cons_self ..))
        obtain ⟨⟨_, h1⟩, ⟨_, h2⟩, _⟩ := wayB_iff.1 h
        simp only [lT, show y.to.toNat < nt.ports.length by omega, show y.fr.toNat < nt.ports.length by omega, decide_true, Bool.and_true]
    exact this _ fun y hy => hy
/-- with one week more in which nothing happens -/
theorem week_same {pl : Plan} {ml pr ml2 pr2 : List Int} {c e c2 e2 : Int} (h : PlanOk pl) (h2 : PlanOk (longP pl)) (hm : MoveR (expN pl) ml c pr e) (hm2 : MoveR (expN (longP pl)) ml2 c2 pr2 e2) : e2 = e ∧ (e = 0 → c2 = c) := by
  have hi : e = 0 ↔ e2 = 0 := by
    rw [move_lack h.net hm, move_lack h2.net hm2]
    constructor
    · exact fun hf f => Int.le_trans (long_lack_le h h2) (hf f)
    · intro hf f
      rw [← lack_cut h.net, ← long_lack_eq h h2 fun q hq => by simp only [decide_eq_false (Nat.not_lt.2 hq), Bool.and_false]]
      exact hf _
  refine ⟨?_, ?_⟩
  · rcases move_err h.net hm with ⟨h3, _⟩ | ⟨h3, _⟩ <;> rcases move_err h2.net hm2 with ⟨h4, _⟩ | ⟨h4, _⟩ <;> omega
  · rintro rfl
    obtain rfl := hi.1 rfl
    obtain ⟨_, g1, _, _, g2⟩ := move_ok h.net hm
    obtain ⟨_, g3, _, _, g4⟩ := move_ok h2.net hm2
    have k1 := move_bound h2.net hm2 (p := pr) (pr_nn g1)
    rw [long_bnd_eq h h2 (pr_nn g1) (pr_zero g1).1] at k1
    have k2 := move_bound h.net hm (p := pr2) (pr_nn g3)
    have k3 := long_bnd_le (pr := pr2) h h2
    omega
/-! ### Dearer ways -/
inductive Rel2 {α β : Type} (R : α → β → Prop) : List α → List β → Prop
  | nil : Rel2 R [] []
  | cons {a : α} {b : β} {l : List α} {m : List β} : R a b → Rel2 R l m → Rel2 R (a :: l) (b :: m)
section
variable {α β : Type} {R : α → β → Prop} {l l2 : List α} {m m2 : List β}
theorem Rel2.len (h : Rel2 R l m) : m.length = l.length := by
  induction h with
  | nil => rfl
  | cons _ _ ih => rw [List.length_cons, List.length_cons, ih]
theorem Rel2.app (h : Rel2 R l m) (h2 : Rel2 R l2 m2) : Rel2 R (l ++ l2) (m ++ m2) := by
  induction h with
  | nil => exact h2
  | cons h3 _ ih => exact .cons h3 ih
theorem Rel2.at_ {d : α} {d2 : β} (h : Rel2 R l m) : ∀ {j : Nat}, j < l.length → R (l.getD j d) (m.getD j d2) := by
  induction h with
  | nil => exact fun hj => absurd hj (Nat.not_lt_zero _)
  | cons h3 _ ih =>
    intro j hj
    match j, hj with
    | 0, _ => exact h3
    | j + 1, hj => exact ih (Nat.lt_of_succ_lt_succ hj)
theorem Rel2.of_at {d : α} {d2 : β} : ∀ {l : List α} {m : List β}, m.length = l.length → (∀ j, j < l.length → R (l.getD j d) (m.getD j d2)) → Rel2 R l m
  | [], [], _, _ => .nil
  | [], _ :: _, h, _ => by simp at h
  | _ :: _, [], h, _ => by simp at h
  | a :: l, b :: m, h, hj => .cons (hj 0 (Nat.succ_pos _)) (Rel2.of_at (by simpa using h) fun j h1 => hj (j + 1) (Nat.succ_lt_succ h1))
theorem Rel2.refl {R : α → α → Prop} (h : ∀ a, R a a) : ∀ l : List α, Rel2 R l l
  | [] => .nil
  | a :: l => .cons (h a) (Rel2.refl h l)
end
def dearW (x y : Way) : Prop := y.fr = x.fr ∧ y.to = x.to ∧ y.room = x.room ∧ x.cost ≤ y.cost
def dearR (x y : Run) : Prop := y.wk = x.wk ∧ dearW x.y y.y
section
variable {P W : Nat} {s : List Int} {r r2 : List Run}
theorem dear_rn {k : Nat} (h : Rel2 dearR r r2) : Rel2 dearW (rnL P W k r) (rnL P W k r2) := by
  induction h with
  | nil => exact .nil
  | @cons a b l m h3 _ ih =>
    obtain ⟨h4, h5, h6, h7, h8⟩ := h3
    have e : inW W k b = inW W k a := by unfold inW; rw [h4]
    unfold rnL at ih ⊢
    rw [List.filter_cons, List.filter_cons, e]
    split
    · exact .cons ⟨by show (k : Int) * P + b.y.fr = _; rw [h5]; rfl, by show ((k : Int) + b.wk) * P + b.y.to = _; rw [h4, h6]; rfl, h7, h8⟩ ih
    · exact ih
theorem dear_wks (h : Rel2 dearR r r2) : ∀ K : Nat, Rel2 dearW (wksTo P W s r K) (wksTo P W s r2 K)
  | 0 => .nil
  | K + 1 => (dear_wks h K).app ((Rel2.refl (fun a => ⟨rfl, rfl, rfl, Int.le_refl _⟩) _).app (dear_rn h))
end
theorem dear_aft {nt nt2 : Net} {mv : List Int} (hp : nt2.ports = nt.ports) (h : Rel2 dearW nt.ways nt2.ways) : aftErr nt2 mv = aftErr nt mv := by
  have hl := h.len
  have e1 : okTo nt2 mv nt2.ways.length = okTo nt mv nt.ways.length := by
    rw [hl]
    unfold okTo
    rw [Bool.eq_iff_iff, List.all_eq_true, List.all_eq_true]
    have : ∀ j ∈ List.range nt.ways.length, okMv nt2 mv j = okMv nt mv j := fun j hj => by
      obtain ⟨_, _, h3, _⟩ := h.at_ (d := way0) (d2 := way0) (List.mem_range.1 hj)
      unfold okMv
      rw [h3]
    exact ⟨fun h j hj => by rw [← this j hj]; exact h j hj, fun h j hj => by rw [this j hj]; exact h j hj⟩
  have e2 : ∀ k, k ≤ nt.ways.length → extTo nt2 mv k = extTo nt mv k := fun k => by
    induction k with
    | zero => intro _; show ext0 nt2 nt2.ports.length = ext0 nt nt.ports.length; unfold ext0; rw [hp]
    | succ k ih =>
      intro hk
      obtain ⟨h1, h2, _, _⟩ := h.at_ (d := way0) (d2 := way0) (j := k) hk
      rw [extTo, extTo, ih (by omega)]
      unfold extStep
      rw [h1, h2]
  unfold aftErr extL
  rw [e1, hl, e2 _ (Nat.le_refl _)]
theorem dear_cost {nt nt2 : Net} {mv : List Int} (h : Rel2 dearW nt.ways nt2.ways) (hok : okTo nt mv nt.ways.length = true) : costL nt mv ≤ costL nt2 mv := by
  have hl := h.len
  have : ∀ k, k ≤ nt.ways.length → costTo nt mv k ≤ costTo nt2 mv k := fun k => by
    induction k with
    | zero => intro _; exact Int.le_refl _
    | succ k ih =>
      intro hk
      obtain ⟨_, _, _, h4⟩ := h.at_ (d := way0) (d2 := way0) (j := k) hk
      have h5 := Int.mul_le_mul_of_nonneg_left h4 (okTo_at hok (i := k) hk).1
      have h6 := ih (by omega)
      rw [costTo, costTo]
      omega
  unfold costL
  rw [hl]
  exact this _ (Nat.le_refl _)
def dearR1 (i : Nat) (x : Run) : Run := ⟨⟨x.y.fr, x.y.to, min 1000000 (x.y.cost + 7 * (((i : Nat) : Int).tmod 3)), x.y.room⟩, x.wk⟩
def dearTo (r : List Run) : Nat → List Run
  | 0 => r
  | k + 1 => (dearTo r k).set k (dearR1 k ((dearTo r k).getD k run0))
theorem dear_len {r : List Run} : ∀ k, (dearTo r k).length = r.length
  | 0 => rfl
  | k + 1 => by rw [dearTo, List.length_set, dear_len k]
theorem dear_at {r : List Run} {j : Nat} (hj : j < r.length) : ∀ k, (dearTo r k).getD j run0 = if j < k then dearR1 j (r.getD j run0) else r.getD j run0
  | 0 => rfl
  | k + 1 => by
    have ih := dear_at hj k
    rw [dearTo, List.getD_eq_getElem?_getD, List.getElem?_set]
    by_cases h : k = j
    · subst h
      rw [if_pos rfl, if_pos (by rw [dear_len]; exact hj), Option.getD_some, ih, if_neg (Nat.lt_irrefl _), if_pos (Nat.lt_succ_self _)]
    · rw [if_neg h, ← List.getD_eq_getElem?_getD, ih]
      by_cases h2 : j < k
      · rw [if_pos h2, if_pos (by omega)]
      · rw [if_neg h2, if_neg (by omega)]
def dearP (pl : Plan) : Plan := ⟨pl.prts, dearTo pl.runs pl.runs.length, pl.store⟩
theorem dear_each {P : Nat} {r : List Run} (h : ∀ x ∈ r, runB P x = true) {j : Nat} (hj : j < r.length) : runB P (dearR1 j (r.getD j run0)) = true ∧ dearR (r.getD j run0) (dearR1 j (r.getD j run0)) := by
  have h1 := h (r.getD j run0) (by rw [getD_in hj]; exact List.getElem_mem hj)
  obtain ⟨⟨g1, g2⟩, g3⟩ := runB_iff.1 h1
  obtain ⟨g4, g5, g6, ⟨g7, g8⟩, g9⟩ := wayB_iff.1 g3
  have h2 : 0 ≤ (((j : Nat) : Int).tmod 3) := by rw [Int.tmod_eq_emod_of_nonneg (by omega)]; omega
  refine ⟨runB_iff.2 ⟨⟨g1, g2⟩, wayB_iff.2 ⟨g4, g5, g6, ?_, g9⟩⟩, rfl, rfl, rfl, rfl, ?_⟩
  · show 0 ≤ min 1000000 ((r.getD j run0).y.cost + 7 * (((j : Nat) : Int).tmod 3)) ∧ min 1000000 ((r.getD j run0).y.cost + 7 * (((j : Nat) : Int).tmod 3)) ≤ 1000000
    omega
  · show (r.getD j run0).y.cost ≤ min 1000000 ((r.getD j run0).y.cost + 7 * (((j : Nat) : Int).tmod 3))
    omega
theorem dear_ok {pl : Plan} (h : PlanOk pl) (h5 : pl.prts.length ≤ 5) (hP : pl.store.length ≤ 5) (hr : pl.runs.length ≤ 20) : PlanOk (dearP pl) := by
  refine ⟨h.w1, h.w12, h.p1, h.row, h.small, cnt_small h.w1 (Nat.le_succ_of_le h5) hP (by rw [show (dearP pl).runs.length = pl.runs.length from dear_len _]; exact hr), h.st, h.prt, fun x hx => ?_⟩
  obtain ⟨j, hj, rfl⟩ := List.getElem_of_mem hx
  have hj2 : j < pl.runs.length := by rw [← dear_len (r := pl.runs) pl.runs.length]; exact hj
  have e := dear_at hj2 pl.runs.length
  rw [if_pos hj2] at e
  rw [← getD_in (d := run0) hj]
  show runB _ ((dearTo pl.runs pl.runs.length).getD j run0) = true
  rw [e]
  exact (dear_each h.run hj2).1
theorem dear_rel {pl : Plan} (h : PlanOk pl) : Rel2 dearW (expN pl).ways (expN (dearP pl)).ways := by
  refine dear_wks (Rel2.of_at (d := run0) (d2 := run0) (dear_len _) fun j hj => ?_) _
  rw [dear_at hj, if_pos hj]
  exact (dear_each h.run hj).2
/-- with dearer ways -/
theorem dear_same {pl : Plan} {ml pr ml2 pr2 : List Int} {c e c2 e2 : Int} (h : PlanOk pl) (h2 : PlanOk (dearP pl)) (hm : MoveR (expN pl) ml c pr e) (hm2 : MoveR (expN (dearP pl)) ml2 c2 pr2 e2) : e2 = e ∧ (e = 0 → c ≤ c2) := by
  have hr := dear_rel h
  have ha : ∀ mv, aftErr (expN (dearP pl)) mv = aftErr (expN pl) mv := fun mv => dear_aft rfl hr
  have hi : e = 0 ↔ e2 = 0 := by
    rcases move_err h.net hm with ⟨h3, mv, h4⟩ | ⟨h3, _, _, _, h4⟩ <;> rcases move_err h2.net hm2 with ⟨h5, mv2, h6⟩ | ⟨h5, _, _, _, h6⟩
    · omega
    · exact absurd (by rw [ha]; exact h4) (h6 mv)
    · exact absurd (by rw [← ha]; exact h6) (h4 mv2)
    · omega
  refine ⟨?_, ?_⟩
  · rcases move_err h.net hm with ⟨h3, _⟩ | ⟨h3, _⟩ <;> rcases move_err h2.net hm2 with ⟨h4, _⟩ | ⟨h4, _⟩ <;> omega
  · rintro rfl
    obtain rfl := hi.1 rfl
    obtain ⟨g1, _, _, g2, _⟩ := move_ok h2.net hm2
    rw [ha] at g1
    have k1 := move_least h.net hm g1
    have k2 := dear_cost hr (aft_parts g1).2.1
    omega
end Go.Proofs.Ytabgmnmpdjnjoaa
set_option linter.unusedVariables false
namespace Go.Proofs.Ytabgmnmpdjnjoaa
open Go Go.RowKit
/-- lists of lists that are read: vs are the slices -/
structure RdLL {α : Type} (f : α → List Value) (z : Nat) (w : World) (B : Nat) (v : Value) (l : List (List α)) (vs : List Value) : Prop where
  len : vs.length = l.length
  rd : Rd w B 1 v l.length vs
  row : ∀ i, i < l.length → Rd w B z (vs.getD i undef) (l.getD i []).length ((l.getD i []).flatMap f)
section
variable {α : Type} {f : α → List Value} {z : Nat} {w w' : World} {B B' : Nat} {v : Value} {l : List (List α)} {vs : List Value}
theorem RdLL.keep (h : RdLL f z w B v l vs) (hk : ∀ p : Addr, p.block < B → w'.cell? p = w.cell? p) : RdLL f z w' B v l vs := ⟨h.len, h.rd.keep hk, fun i hi => (h.row i hi).keep hk⟩
theorem RdLL.more (h : RdLL f z w B v l vs) (hB : B ≤ B') : RdLL f z w B' v l vs := ⟨h.len, h.rd.more hB, fun i hi => (h.row i hi).more hB⟩
theorem RdLL.below (h : RdLL f z w B v l vs) (hb : Below B w w') : RdLL f z w' B v l vs := h.keep fun _ hp => hb.cell hp
/-- the slices themselves -/
theorem vals_cells (vs : List Value) (k : Nat) (hk : k < vs.length) (w : World) (B : Nat) (A : Option Addr) (n c : Nat) (hr : Rd w B 1 (.slice A n c) n vs) :
    ∃ b off, A = some ⟨b, off, none⟩ ∧ b < B ∧ w.cell? ⟨b, off + k, none⟩ = some (vs.getD k undef) := by
  have hl : n * 1 = vs.length := by rw [← hr.len]
  obtain ⟨b, off, rfl, hb, hc⟩ := hr.at_ (by omega)
  exact ⟨b, off, rfl, hb, hc k _ (by simp [hk])⟩
end
def sliceLen : Value → Nat
  | .slice _ n _ => n
  | _ => 0
def runC (x : Run) : List Value := [.int .i64 x.y.fr, .int .i64 x.y.to, .int .i64 x.y.cost, .int .i64 x.y.room, .int .i64 x.wk]
def runsC (l : List Run) : List Value := l.flatMap runC
theorem runC_len (x : Run) : (runC x).length = 5 := rfl
theorem runsC_len (l : List Run) : (runsC l).length = l.length * 5 := flat_len runC_len l
theorem runsC_one (l : List Run) : ∀ u ∈ runsC l, u.oneCell' = true := flat_one (by intro x u hu; simp [runC] at hu; rcases hu with rfl | rfl | rfl | rfl | rfl <;> rfl) l
theorem runsC_app (l m : List Run) : runsC (l ++ m) = runsC l ++ runsC m := by simp [runsC]
structure RunAt (w : World) (b o : Nat) (s : Run) : Prop where
  c0 : w.cell? ⟨b, o, none⟩ = some (.int .i64 s.y.fr)
  c1 : w.cell? ⟨b, o + 1, none⟩ = some (.int .i64 s.y.to)
  c2 : w.cell? ⟨b, o + 2, none⟩ = some (.int .i64 s.y.cost)
  c3 : w.cell? ⟨b, o + 3, none⟩ = some (.int .i64 s.y.room)
  c4 : w.cell? ⟨b, o + 4, none⟩ = some (.int .i64 s.wk)
theorem runs_cells (l : List Run) (k : Nat) (hk : k < l.length) (w : World) (B : Nat) (A : Option Addr) (n c : Nat) (hr : Rd w B 5 (.slice A n c) n (runsC l)) :
    ∃ b off, A = some ⟨b, off, none⟩ ∧ b < B ∧ RunAt w b (off + k * 5) (l.getD k run0) := by
  have hl : n * 5 = l.length * 5 := by rw [← hr.len, runsC_len]
  obtain ⟨b, off, rfl, hb, hc⟩ := hr.at_ (by omega)
  have e : l.getD k run0 = l[k] := by simp [hk]
  rw [e]
  have g := fun j hj => flat_get runC_len l k hk j hj
  exact ⟨b, off, rfl, hb, hc (k * 5) _ (g 0 (by omega)), hc (k * 5 + 1) _ (g 1 (by omega)), hc (k * 5 + 2) _ (g 2 (by omega)), hc (k * 5 + 3) _ (g 3 (by omega)), hc (k * 5 + 4) _ (g 4 (by omega))⟩
/-- a plan that is read -/
structure RdPlan (w : World) (B : Nat) (vp vr vs : Value) (pl : Plan) (us : List Value) : Prop where
  prts : RdLL prtC 2 w B vp pl.prts us
  runs : Rd w B 5 vr pl.runs.length (runsC pl.runs)
  store : Rd w B 1 vs pl.store.length (ints pl.store)
section
variable {w w' : World} {B B' : Nat} {vp vr vs : Value} {pl : Plan} {us : List Value}
theorem RdPlan.more (h : RdPlan w B vp vr vs pl us) (hB : B ≤ B') : RdPlan w B' vp vr vs pl us := ⟨h.prts.more hB, h.runs.more hB, h.store.more hB⟩
theorem RdPlan.below (h : RdPlan w B vp vr vs pl us) (hb : Below B w w') : RdPlan w' B vp vr vs pl us := ⟨h.prts.below hb, h.runs.below hb, h.store.below hb⟩
theorem RdPlan.slice (h : RdPlan w B vp vr vs pl us) {i : Nat} (hi : i < pl.prts.length) : sliceLen (us.getD i undef) = (pl.prts.getD i []).length := by
  obtain ⟨_, A, c, e, _⟩ := h.prts.row i hi
  rw [e]
  rfl
/-- the slices' lengths are those of the lists -/
theorem RdPlan.any_len (h : RdPlan w B vp vr vs pl us) (P : Nat) : us.any (fun u => decide (sliceLen u ≠ P)) = !pl.prts.all fun l => decide (l.length = P) := by
  rw [Bool.eq_iff_iff, Bool.not_eq_true', List.any_eq_true, List.all_eq_false]
  have hl := h.prts.len
  constructor
  · rintro ⟨u, hu, h1⟩
    obtain ⟨i, hi, rfl⟩ := List.getElem_of_mem hu
    have hi2 : i < pl.prts.length := by omega
    have h2 := h.slice hi2
    rw [getD_in hi] at h2
    rw [h2, getD_in hi2] at h1
    exact ⟨pl.prts[i], List.getElem_mem hi2, by simpa using h1⟩
  · rintro ⟨x, hx, h1⟩
    obtain ⟨i, hi, rfl⟩ := List.getElem_of_mem hx
    have hi2 : i < us.length := by omega
    have h2 := h.slice hi
    rw [getD_in hi2, getD_in hi] at h2
    exact ⟨us[i], List.getElem_mem hi2, by rw [h2]; simpa using h1⟩
end
end Go.Proofs.Ytabgmnmpdjnjoaa
set_option linter.unusedVariables false
set_option linter.unusedSimpArgs false
namespace Go.Proofs.Ytabgmnmpdjnjoaa
open Go Go.RowKit
section
variable {n : Nat} {σ : Sg} {w : World} {dst : Option Tmp} {ty : TypeId} {pos : String} {af : Array Edge} {g : Option (Nat × Bool)} {x y z : Operand} {at' : Array TypeId}
theorem ln_64 {A : Option Addr} {m c : Nat} (hx : evS σ x = some (.slice A m c)) : Gives Try.prog n σ w ⟨dst, .call { callee := .builtin .len, args := #[x], argTypes := #[64] }, ty, pos, af, g⟩ (.int .i64 (m : Int)) := fun a ha => by
  simp only [execOp, resolve, List.map_toArray, List.map_cons, List.map_nil, ha.eval hx]
  simp [go_sem]
theorem ix_64 {b o m c k : Nat} (hx : evS σ x = some (.slice (some ⟨b, o, none⟩) m c)) (hy : evS σ y = some (.int .i64 (k : Int))) (hk : k < m) : Gives Try.prog n σ w ⟨dst, .indexAddr 64 x y, ty, pos, af, g⟩ (.pointer (some ⟨b, o + k, none⟩)) := fun a ha => by
  have k0 : (0 : Int) ≤ (k : Int) := Int.natCast_nonneg _
  have k1 : (k : Int) < (m : Int) := by omega
  simp only [execOp, ha.eval hx, ha.eval hy]
  simp [go_sem, k0, k1]
theorem clv_60_0_1_1 {xf x0 : Operand} {v0 p0 : Value} (hf : evS σ xf = some (.func (.func 60) #[] #[p0])) (h0 : evS σ x0 = some v0) (a : Act) (ha : Env n σ a) : (execOp a.eval ⟨dst, .call { callee := .value xf, args := #[x0], argTypes := at' }, ty, pos, af, g⟩).run Try.prog w = .ok (.enter 60 #[v0, p0]) w := by
  simp only [execOp, resolve, List.map_toArray, List.map_cons, List.map_nil, ha.eval hf, ha.eval h0]
  simp [go_sem, Deferred.ofValue]
theorem cl_80 {x0 x1 : Operand} {v0 v1 : Value} (h0 : evS σ x0 = some v0) (h1 : evS σ x1 = some v1) (a : Act) (ha : Env n σ a) : (execOp a.eval ⟨dst, .call { callee := .value (.func 80), args := #[x0, x1], argTypes := at' }, ty, pos, af, g⟩).run Try.prog w = .ok (.enter 80 #[v0, v1]) w := by
  simp only [execOp, resolve, List.map_toArray, List.map_cons, List.map_nil, ha.eval h0, ha.eval h1]
  simp [go_sem, Act.eval]
theorem ln_65 {A : Option Addr} {m c : Nat} (hx : evS σ x = some (.slice A m c)) : Gives Try.prog n σ w ⟨dst, .call { callee := .builtin .len, args := #[x], argTypes := #[65] }, ty, pos, af, g⟩ (.int .i64 (m : Int)) := fun a ha => by
  simp only [execOp, resolve, List.map_toArray, List.map_cons, List.map_nil, ha.eval hx]
  simp [go_sem]
theorem ix_65 {b o m c k : Nat} (hx : evS σ x = some (.slice (some ⟨b, o, none⟩) m c)) (hy : evS σ y = some (.int .i64 (k : Int))) (hk : k < m) : Gives Try.prog n σ w ⟨dst, .indexAddr 65 x y, ty, pos, af, g⟩ (.pointer (some ⟨b, o + k * 5, none⟩)) := fun a ha => by
  have k0 : (0 : Int) ≤ (k : Int) := Int.natCast_nonneg _
  have k1 : (k : Int) < (m : Int) := by omega
  simp only [execOp, ha.eval hx, ha.eval hy]
  simp [go_sem, k0, k1]
theorem ld_71 {b o : Nat} {v0 v1 v2 v3 v4 : Value} (hx : evS σ x = some (.pointer (some ⟨b, o, none⟩))) (c0 : w.cell? ⟨b, o, none⟩ = some v0) (c1 : w.cell? ⟨b, o + 1, none⟩ = some v1) (c2 : w.cell? ⟨b, o + 2, none⟩ = some v2) (c3 : w.cell? ⟨b, o + 3, none⟩ = some v3) (c4 : w.cell? ⟨b, o + 4, none⟩ = some v4) : Gives Try.prog n σ w ⟨dst, .load 71 x, ty, pos, af, g⟩ (.agg #[v0, v1, v2, v3, v4]) := fun a ha => by
  simp only [execOp, ha.eval hx]
  simp [go_sem, c0, c1, c2, c3, c4]
theorem clv_63_0_1_1 {xf x0 : Operand} {v0 p0 : Value} (hf : evS σ xf = some (.func (.func 63) #[] #[p0])) (h0 : evS σ x0 = some v0) (a : Act) (ha : Env n σ a) : (execOp a.eval ⟨dst, .call { callee := .value xf, args := #[x0], argTypes := at' }, ty, pos, af, g⟩).run Try.prog w = .ok (.enter 63 #[v0, p0]) w := by
  simp only [execOp, resolve, List.map_toArray, List.map_cons, List.map_nil, ha.eval hf, ha.eval h0]
  simp [go_sem, Deferred.ofValue]
theorem cl_82 {x0 x1 : Operand} {v0 v1 : Value} (h0 : evS σ x0 = some v0) (h1 : evS σ x1 = some v1) (a : Act) (ha : Env n σ a) : (execOp a.eval ⟨dst, .call { callee := .value (.func 82), args := #[x0, x1], argTypes := at' }, ty, pos, af, g⟩).run Try.prog w = .ok (.enter 82 #[v0, v1]) w := by
  simp only [execOp, resolve, List.map_toArray, List.map_cons, List.map_nil, ha.eval h0, ha.eval h1]
  simp [go_sem, Act.eval]
theorem bx_71 {v0 v1 v2 v3 v4 : Value} (hx : evS σ x = some (.agg #[v0, v1, v2, v3, v4])) (a : Act) (ha : Env n σ a) : (execOp a.eval ⟨dst, .box 71 x, ty, pos, af, g⟩).run Try.prog w = .ok (.value (.pointer (some ⟨w.heap.size, 0, none⟩))) (w.alloc (.cells #[v0, v1, v2, v3, v4] 71)) := by
  simp only [execOp, ha.eval hx]
  simp [go_sem]
theorem fa_71_1 {b o : Nat} (hx : evS σ x = some (.pointer (some ⟨b, o, none⟩))) : Gives Try.prog n σ w ⟨dst, .fieldAddr 71 x 1, ty, pos, af, g⟩ (.pointer (some ⟨b, o + 4, none⟩)) := fun a ha => by
  simp only [execOp, ha.eval hx]
  simp [go_sem]
theorem fa_71_0 {b o : Nat} (hx : evS σ x = some (.pointer (some ⟨b, o, none⟩))) : Gives Try.prog n σ w ⟨dst, .fieldAddr 71 x 0, ty, pos, af, g⟩ (.pointer (some ⟨b, o, none⟩)) := fun a ha => by
  simp only [execOp, ha.eval hx]
  simp [go_sem]
theorem bs_23_1 {x0 : Operand} {v0_0 v0_1 v0_2 v0_3 : Value} (h0 : evS σ x0 = some (.agg #[v0_0, v0_1, v0_2, v0_3]))  (a : Act) (ha : Env n σ a) : (execOp a.eval ⟨dst, .buildSlice 23 1 #[(0, x0)], ty, pos, af, g⟩).run Try.prog w = .ok (.value (.slice (some ⟨w.heap.size, 0, none⟩) 1 1)) (w.alloc (.cells #[v0_0, v0_1, v0_2, v0_3] 56)) := by
  simp only [execOp, List.map_toArray, List.map_cons, List.map_nil, ha.eval h0]
  go_simp
end
end Go.Proofs.Ytabgmnmpdjnjoaa
set_option linter.unusedVariables false
set_option linter.unusedSimpArgs false
namespace Go.Proofs.Ytabgmnmpdjnjoaa
open Go Go.RowKit
set_option maxRecDepth 100000 in
theorem index_val (l : List Value) (pred : Value → Bool) (p0 : Value) (v : Value) (w : World) (B : Nat) (hr : Rd w B 1 v l.length (l)) (hB : B ≤ w.heap.size) (hn : l.length ≤ 9223372036854775806) (hsl : ∀ x ∈ l, ∃ m A c, x = .slice A m c) (hf : ∀ x ∈ l, ∀ W, Below w.heap.size w W → Calls Try.prog 60 #[x, p0] W fun e w' => e = .returned (.bool (pred x)) ∧ Below W.heap.size W w') :
    Calls Try.prog 80 #[v, .func (.func 60) #[] #[p0]] w fun e w' => (∃ r : Int, e = .returned (.int .i64 r) ∧ decide (0 ≤ r) = l.any pred) ∧ Below w.heap.size w w' := by
  obtain ⟨A, c, rfl, _⟩ := hr.shape
  have hbw := Below.refl w.heap.size w
  refine EC.enter 19 Try.func80 rfl rfl rfl ?_
  refine EC.seq ?_
  refine EC.region ?_
  refine EL.val (x_assign rfl) rfl ?_
  refine EL.nil ?_
  refine EX.seq ?_
  refine EC.seq ?_
  refine EC.seq ?_
  refine EC.region ?_
  refine EL.val (x_move rfl) rfl ?_
  refine EL.val (ln_64 rfl) rfl ?_
  refine EL.val (x_move rfl) rfl ?_
  refine EL.nil ?_
  refine EX.seq ?_
  refine EC.block ?_
  refine EC.loopD [4, 5, 8, 9, 10, 11, 12, 13, 14, 15, 16, 17, 18] (fun x : Nat => [(8, .int .i64 (x : Nat))]) (fun x W => x ≤ l.length ∧ (l.take x).any pred = false ∧ Below w.heap.size w W) (fun x => l.length - x) 0 ⟨Nat.zero_le _, rfl, hbw⟩ ⟨rfl, trivial⟩ ?_
  clear hbw
  rintro k wk ⟨hk, hno, hbw⟩
  by_cases hlt : k < l.length
  ·
    obtain ⟨b, o, rfl, _, cc⟩ := vals_cells l k hlt w w.heap.size _ _ _ (hr.more hB)
    have hat := any_take (d := undef) (p := pred) hlt
    have hmem : l.getD k undef ∈ l := by rw [getD_in hlt]; exact List.getElem_mem hlt
    obtain ⟨x, ex⟩ : ∃ z, z = l.getD k undef := ⟨_, rfl⟩
    rw [← ex] at hat hmem cc
    have hc := hf x hmem wk hbw
    obtain ⟨xn, xA, xc, rfl⟩ := hsl x hmem
    refine EC.seq ?_
    refine EC.region ?_
    refine EL.val (x_lss rfl rfl (by first | assumption | exact decide_eq_true (by omega))) rfl ?_
    refine EL.nil ?_
    refine EX.seq ?_
    refine EC.seq ?_
    refine EC.yes rfl ?_
    refine EC.skip ?_
    refine EX.seq ?_
    refine EC.seq ?_
    refine EC.block ?_
    refine EC.seq ?_
    refine EC.region ?_
    refine EL.val (x_move rfl) rfl ?_
    refine EL.val (x_assign rfl) rfl ?_
    refine EL.nil ?_
    refine EX.seq ?_
    refine EC.seq ?_
    refine EC.region ?_
    refine EL.val (x_move rfl) rfl ?_
    refine EL.val (x_move rfl) rfl ?_
    refine EL.val (x_move rfl) rfl ?_
    refine EL.val (ix_64 rfl rfl hlt) rfl ?_
    refine EL.val (ld_22 rfl (below_load hbw cc)) rfl ?_
    refine EL.call (clv_60_0_1_1 rfl rfl) rfl hc ?_
    rintro e w2 ⟨rfl, hc2⟩
    refine ⟨_, rfl, ?_⟩
    replace hbw := Below.on hbw hc2 hbw.size
    clear hc2
    refine EL.nil ?_
    refine EX.seq ?_
    cases hp : pred (.slice xA xn xc)
    ·
      refine EC.no rfl ?_
      refine EC.skip ?_
      refine EX.blk ?_
      refine EX.seq ?_
      refine EC.region ?_
      refine EL.val (x_add rfl rfl (by first | assumption | exact IntWalk.i64_in _ ⟨by omega, by omega⟩)) rfl ?_
      refine EL.val (x_move rfl) rfl ?_
      refine EL.nil ?_
      refine EX.roundD (k + 1) ⟨rfl, trivial⟩ (by repeat first | with_reducible exact Sub.refl _ | refine sub_past rfl ?_ | exact Sub.refl _ | refine sub_del rfl ?_ | refine sub_insL_nil ?_) ⟨hlt, by rw [hat, hno, hp]; rfl, hbw⟩ (by omega)
    ·
      refine EC.yes rfl ?_
      refine EC.seq ?_
      refine EC.region ?_
      refine EL.val (x_move rfl) rfl ?_
      refine EL.val (x_assign rfl) rfl ?_
      refine EL.nil ?_
      refine EX.seq ?_
      refine EC.ret ?_
      refine EX.blk_ret ?_
      refine EX.seq_ret ?_
      refine EX.seq_ret ?_
      refine EX.blk_ret ?_
      refine EX.seq_ret ?_
      exact EX.done (res1 rfl rfl) ⟨⟨_, rfl, by rw [any_at hlt (ex ▸ hp)]; exact decide_eq_true (by omega)⟩, hbw⟩
  ·
    obtain rfl : k = l.length := by omega
    rw [List.take_length] at hno
    refine EC.seq ?_
    refine EC.region ?_
    refine EL.val (x_lss rfl rfl (by first | assumption | exact decide_eq_false (by omega))) rfl ?_
    refine EL.nil ?_
    refine EX.seq ?_
    refine EC.seq ?_
    refine EC.no rfl ?_
    refine EC.exit ?_
    refine EX.seq_exit ?_
    refine EX.seq_exit ?_
    refine EX.blk_here ?_
    refine EX.seq ?_
    refine EC.seq ?_
    refine EC.region ?_
    refine EL.val (x_assign rfl) rfl ?_
    refine EL.nil ?_
    refine EX.seq ?_
    refine EC.ret ?_
    exact EX.done (res1 rfl rfl) ⟨⟨_, rfl, by rw [hno]; rfl⟩, hbw⟩
theorem contains_val (l : List Value) (pred : Value → Bool) (p0 : Value) (v : Value) (w : World) (B : Nat) (hr : Rd w B 1 v l.length (l)) (hB : B ≤ w.heap.size) (hn : l.length ≤ 9223372036854775806) (hsl : ∀ x ∈ l, ∃ m A c, x = .slice A m c) (hf : ∀ x ∈ l, ∀ W, Below w.heap.size w W → Calls Try.prog 60 #[x, p0] W fun e w' => e = .returned (.bool (pred x)) ∧ Below W.heap.size W w') :
    Calls Try.prog 59 #[v, .func (.func 60) #[] #[p0]] w fun e w' => e = .returned (.bool (l.any pred)) ∧ Below w.heap.size w w' := by
  have hbw := Below.refl w.heap.size w
  refine EC.enter 9 Try.func59 rfl rfl rfl ?_
  refine EC.seq ?_
  refine EC.region ?_
  refine EL.val (x_assign rfl) rfl ?_
  refine EL.nil ?_
  refine EX.seq ?_
  refine EC.seq ?_
  refine EC.region ?_
  refine EL.val (x_move rfl) rfl ?_
  refine EL.val (x_move rfl) rfl ?_
  refine EL.call (cl_80 rfl rfl) rfl (index_val l pred p0 _ w B hr hB hn hsl hf) ?_
  rintro e w2 ⟨⟨r, rfl, hres⟩, hc2⟩
  refine ⟨_, rfl, ?_⟩
  replace hbw := Below.on hbw hc2 hbw.size
  refine EL.val (x_geq rfl rfl hres) rfl ?_
  refine EL.val (x_assign rfl) rfl ?_
  refine EL.nil ?_
  refine EX.seq ?_
  refine EC.ret ?_
  exact EX.done (res1 rfl rfl) ⟨rfl, hbw⟩
set_option maxRecDepth 100000 in
theorem index_run (l : List Run) (pred : Run → Bool) (p0 : Value) (v : Value) (w : World) (B : Nat) (hr : Rd w B 5 v l.length (runsC l)) (hB : B ≤ w.heap.size) (hn : l.length ≤ 9223372036854775806) (hf : ∀ x ∈ l, ∀ W, Below w.heap.size w W → Calls Try.prog 63 #[.agg #[.int .i64 x.y.fr, .int .i64 x.y.to, .int .i64 x.y.cost, .int .i64 x.y.room, .int .i64 x.wk], p0] W fun e w' => e = .returned (.bool (pred x)) ∧ Below W.heap.size W w') :
    Calls Try.prog 82 #[v, .func (.func 63) #[] #[p0]] w fun e w' => (∃ r : Int, e = .returned (.int .i64 r) ∧ decide (0 ≤ r) = l.any pred) ∧ Below w.heap.size w w' := by
  obtain ⟨A, c, rfl, _⟩ := hr.shape
  have hbw := Below.refl w.heap.size w
  refine EC.enter 19 Try.func82 rfl rfl rfl ?_
  refine EC.seq ?_
  refine EC.region ?_
  refine EL.val (x_assign rfl) rfl ?_
  refine EL.nil ?_
  refine EX.seq ?_
  refine EC.seq ?_
  refine EC.seq ?_
  refine EC.region ?_
  refine EL.val (x_move rfl) rfl ?_
  refine EL.val (ln_65 rfl) rfl ?_
  refine EL.val (x_move rfl) rfl ?_
  refine EL.nil ?_
  refine EX.seq ?_
  refine EC.block ?_
  refine EC.loopD [4, 5, 8, 9, 10, 11, 12, 13, 14, 15, 16, 17, 18] (fun x : Nat => [(8, .int .i64 (x : Nat))]) (fun x W => x ≤ l.length ∧ (l.take x).any pred = false ∧ Below w.heap.size w W) (fun x => l.length - x) 0 ⟨Nat.zero_le _, rfl, hbw⟩ ⟨rfl, trivial⟩ ?_
  clear hbw
  rintro k wk ⟨hk, hno, hbw⟩
  by_cases hlt : k < l.length
  ·
    obtain ⟨b, o, rfl, _, cc⟩ := runs_cells l k hlt w w.heap.size _ _ _ (hr.more hB)
    have hat := any_take (d := run0) (p := pred) hlt
    have hmem : l.getD k run0 ∈ l := by rw [getD_in hlt]; exact List.getElem_mem hlt
    obtain ⟨x, ex⟩ : ∃ z, z = l.getD k run0 := ⟨_, rfl⟩
    rw [← ex] at hat hmem cc
    have hc := hf x hmem wk hbw
    refine EC.seq ?_
    refine EC.region ?_
    refine EL.val (x_lss rfl rfl (by first | assumption | exact decide_eq_true (by omega))) rfl ?_
    refine EL.nil ?_
    refine EX.seq ?_
    refine EC.seq ?_
    refine EC.yes rfl ?_
    refine EC.skip ?_
    refine EX.seq ?_
    refine EC.seq ?_
    refine EC.block ?_
    refine EC.seq ?_
    refine EC.region ?_
    refine EL.val (x_move rfl) rfl ?_
    refine EL.val (x_assign rfl) rfl ?_
    refine EL.nil ?_
    refine EX.seq ?_
    refine EC.seq ?_
    refine EC.region ?_
    refine EL.val (x_move rfl) rfl ?_
    refine EL.val (x_move rfl) rfl ?_
    refine EL.val (x_move rfl) rfl ?_
    refine EL.val (ix_65 rfl rfl hlt) rfl ?_
    refine EL.val (ld_71 rfl (below_load hbw cc.c0) (below_load hbw cc.c1) (below_load hbw cc.c2) (below_load hbw cc.c3) (below_load hbw cc.c4)) rfl ?_
    refine EL.call (clv_63_0_1_1 rfl rfl) rfl hc ?_
    rintro e w2 ⟨rfl, hc2⟩
    refine ⟨_, rfl, ?_⟩
    replace hbw := Below.on hbw hc2 hbw.size
    clear hc2
    refine EL.nil ?_
    refine EX.seq ?_
    cases hp : pred x
    ·
      refine EC.no rfl ?_
      refine EC.skip ?_
      refine EX.blk ?_
      refine EX.seq ?_
      refine EC.region ?_
      refine EL.val (x_add rfl rfl (by first | assumption | exact IntWalk.i64_in _ ⟨by omega, by omega⟩)) rfl ?_
      refine EL.val (x_move rfl) rfl ?_
      refine EL.nil ?_
      refine EX.roundD (k + 1) ⟨rfl, trivial⟩ (by repeat first | with_reducible exact Sub.refl _ | refine sub_past rfl ?_ | exact Sub.refl _ | refine sub_del rfl ?_ | refine sub_insL_nil ?_) ⟨hlt, by rw [hat, hno, hp]; rfl, hbw⟩ (by omega)
    ·
      refine EC.yes rfl ?_
      refine EC.seq ?_
      refine EC.region ?_
      refine EL.val (x_move rfl) rfl ?_
      refine EL.val (x_assign rfl) rfl ?_
      refine EL.nil ?_
      refine EX.seq ?_
      refine EC.ret ?_
      refine EX.blk_ret ?_
      refine EX.seq_ret ?_
      refine EX.seq_ret ?_
      refine EX.blk_ret ?_
      refine EX.seq_ret ?_
      exact EX.done (res1 rfl rfl) ⟨⟨_, rfl, by rw [any_at hlt (ex ▸ hp)]; exact decide_eq_true (by omega)⟩, hbw⟩
  ·
    obtain rfl : k = l.length := by omega
    rw [List.take_length] at hno
    refine EC.seq ?_
    refine EC.region ?_
    refine EL.val (x_lss rfl rfl (by first | assumption | exact decide_eq_false (by omega))) rfl ?_
    refine EL.nil ?_
    refine EX.seq ?_
    refine EC.seq ?_
    refine EC.no rfl ?_
    refine EC.exit ?_
    refine EX.seq_exit ?_
    refine EX.seq_exit ?_
    refine EX.blk_here ?_
    refine EX.seq ?_
    refine EC.seq ?_
    refine EC.region ?_
    refine EL.val (x_assign rfl) rfl ?_
    refine EL.nil ?_
    refine EX.seq ?_
    refine EC.ret ?_
    exact EX.done (res1 rfl rfl) ⟨⟨_, rfl, by rw [hno]; rfl⟩, hbw⟩
theorem contains_run (l : List Run) (pred : Run → Bool) (p0 : Value) (v : Value) (w : World) (B : Nat) (hr : Rd w B 5 v l.length (runsC l)) (hB : B ≤ w.heap.size) (hn : l.length ≤ 9223372036854775806) (hf : ∀ x ∈ l, ∀ W, Below w.heap.size w W → Calls Try.prog 63 #[.agg #[.int .i64 x.y.fr, .int .i64 x.y.to, .int .i64 x.y.cost, .int .i64 x.y.room, .int .i64 x.wk], p0] W fun e w' => e = .returned (.bool (pred x)) ∧ Below W.heap.size W w') :
    Calls Try.prog 62 #[v, .func (.func 63) #[] #[p0]] w fun e w' => e = .returned (.bool (l.any pred)) ∧ Below w.heap.size w w' := by
  have hbw := Below.refl w.heap.size w
  refine EC.enter 9 Try.func62 rfl rfl rfl ?_
  refine EC.seq ?_
  refine EC.region ?_
  refine EL.val (x_assign rfl) rfl ?_
  refine EL.nil ?_
  refine EX.seq ?_
  refine EC.seq ?_
  refine EC.region ?_
  refine EL.val (x_move rfl) rfl ?_
  refine EL.val (x_move rfl) rfl ?_
  refine EL.call (cl_82 rfl rfl) rfl (index_run l pred p0 _ w B hr hB hn hf) ?_
  rintro e w2 ⟨⟨r, rfl, hres⟩, hc2⟩
  refine ⟨_, rfl, ?_⟩
  replace hbw := Below.on hbw hc2 hbw.size
  refine EL.val (x_geq rfl rfl hres) rfl ?_
  refine EL.val (x_assign rfl) rfl ?_
  refine EL.nil ?_
  refine EX.seq ?_
  refine EC.ret ?_
  exact EX.done (res1 rfl rfl) ⟨rfl, hbw⟩
theorem len1 (A : Option Addr) (m c P b : Nat) (w : World) (hp : w.cell? ⟨b, 0, none⟩ = some (.int .i64 (P : Nat))) : Calls Try.prog 60 #[.slice A m c, .pointer (some ⟨b, 0, none⟩)] w fun e w' => e = .returned (.bool (decide (sliceLen (.slice A m c) ≠ P))) ∧ Below w.heap.size w w' := by
  have hbw := Below.refl w.heap.size w
  refine EC.enter 8 Try.func60 rfl rfl rfl ?_
  refine EC.seq ?_
  refine EC.region ?_
  refine EL.val (x_assign rfl) rfl ?_
  refine EL.nil ?_
  refine EX.seq ?_
  refine EC.seq ?_
  refine EC.region ?_
  refine EL.val (x_move rfl) rfl ?_
  refine EL.val (ln_22 rfl) rfl ?_
  refine EL.val (ld_3 rfl hp) rfl ?_
  refine EL.val (x_neq rfl rfl rfl) rfl ?_
  refine EL.val (x_assign rfl) rfl ?_
  refine EL.nil ?_
  refine EX.seq ?_
  refine EC.ret ?_
  exact EX.done (res1 rfl rfl) ⟨by congr 2; exact decide_eq_decide.2 (by simp only [sliceLen]; omega), hbw⟩
theorem run1 (x : Run) (P b : Nat) (w : World) (hn : P ≤ 9223372036854775806) (hp : w.cell? ⟨b, 0, none⟩ = some (.int .i64 (P : Nat))) : Calls Try.prog 63 #[.agg #[.int .i64 x.y.fr, .int .i64 x.y.to, .int .i64 x.y.cost, .int .i64 x.y.room, .int .i64 x.wk], .pointer (some ⟨b, 0, none⟩)] w fun e w' => e = .returned (.bool (!runB P x)) ∧ Below w.heap.size w w' := by
  have hbw := Below.refl w.heap.size w
  refine EC.enter 17 Try.func63 rfl rfl rfl ?_
  refine EC.seq ?_
  refine EC.region ?_
  refine EL.newP (bx_71 rfl) rfl ?_
  intro g1 w1 q1 hb1 hg1 hl1
  have bhbw_1 := Nat.le_trans hbw.size hg1
  replace hbw := Below.on hbw hb1 hbw.size
  clear hb1 hg1 hl1
  refine EL.val (x_assign rfl) rfl ?_
  refine EL.nil ?_
  refine EX.seq ?_
  refine EC.seq ?_
  refine EC.region ?_
  refine EL.val (fa_71_1 rfl) rfl ?_
  refine EL.val (ld_3 rfl (q1.at (j := 4) rfl)) rfl ?_
  refine EL.newS (bs_29_1 rfl) rfl ?_
  intro g2 w2 q2 hb2 hg2 hl2
  have n1_2 : g1 ≠ g2 := Nat.ne_of_lt (Nat.lt_of_lt_of_le q1.lt hg2)
  have bhbw_2 := Nat.le_trans hbw.size hg2
  replace q1 := q1.below hb2 q1.lt
  replace hbw := Below.on hbw hb2 hbw.size
  clear hb2 hg2 hl2
  cases h1 : inB 1 12 x.wk
  ·
    refine EL.call (cl_52 rfl rfl rfl) rfl (within_1 q2 h1) ?_
    rintro e w3 ⟨rfl, hc3⟩
    refine ⟨_, rfl, ?_⟩
    replace q1 := q1.below hc3 q1.lt
    replace q2 := q2.below hc3 q2.lt
    replace hbw := Below.on hbw hc3 hbw.size
    clear hc3
    refine EL.val (x_not rfl) rfl ?_
    refine EL.val (x_move rfl) rfl ?_
    refine EL.skip rfl rfl rfl rfl ?_
    refine EL.skip rfl rfl rfl rfl ?_
    refine EL.skip rfl rfl rfl rfl ?_
    refine EL.skip rfl rfl rfl rfl ?_
    refine EL.skip rfl rfl rfl rfl ?_
    refine EL.skip rfl rfl rfl rfl ?_
    refine EL.val (x_pick_t rfl rfl) rfl ?_
    refine EL.val (x_assign rfl) rfl ?_
    refine EL.nil ?_
    refine EX.seq ?_
    refine EC.ret ?_
    exact EX.done (res1 rfl rfl) ⟨by congr 2; simp [runB, *], hbw⟩
  ·
    refine EL.call (cl_52 rfl rfl rfl) rfl (within_1 q2 h1) ?_
    rintro e w4 ⟨rfl, hc4⟩
    refine ⟨_, rfl, ?_⟩
    replace q1 := q1.below hc4 q1.lt
    replace q2 := q2.below hc4 q2.lt
    replace hbw := Below.on hbw hc4 hbw.size
    clear hc4
    refine EL.val (x_not rfl) rfl ?_
    refine EL.val (x_move rfl) rfl ?_
    refine EL.valg rfl rfl (ld_3 rfl (below_load hbw hp)) rfl ?_
    refine EL.valg rfl rfl (fa_71_0 rfl) rfl ?_
    refine EL.valg rfl rfl (ld_56 rfl (q1.at (j := 0) rfl) (q1.at (j := 1) rfl) (q1.at (j := 2) rfl) (q1.at (j := 3) rfl)) rfl ?_
    refine EL.newSg rfl rfl (bs_23_1 rfl) rfl ?_
    intro g5 w5 q5 hb5 hg5 hl5
    have n1_5 : g1 ≠ g5 := Nat.ne_of_lt (Nat.lt_of_lt_of_le q1.lt hg5)
    have n2_5 : g2 ≠ g5 := Nat.ne_of_lt (Nat.lt_of_lt_of_le q2.lt hg5)
    have bhbw_5 := Nat.le_trans hbw.size hg5
    replace q1 := q1.below hb5 q1.lt
    replace q2 := q2.below hb5 q2.lt
    replace hbw := Below.on hbw hb5 hbw.size
    clear hb5 hg5 hl5
    cases h2 : wayB P x.y
    ·
      refine EL.callg rfl rfl (cl_55 rfl rfl) rfl (areWays_to (n := P) (l := [x.y]) (b := false) (by simpa using h2) _ _ _ hn (rd_blk (k := 1) (l := [.int .i64 x.y.fr, .int .i64 x.y.to, .int .i64 x.y.cost, .int .i64 x.y.room]) q5 rfl) (Nat.le_refl _) (by simp)) ?_
      rintro e w6 ⟨rfl, hc6⟩
      refine ⟨_, rfl, ?_⟩
      replace q1 := q1.below hc6 q1.lt
      replace q2 := q2.below hc6 q2.lt
      replace q5 := q5.below hc6 q5.lt
      replace hbw := Below.on hbw hc6 hbw.size
      clear hc6
      refine EL.valg rfl rfl (x_not rfl) rfl ?_
      refine EL.val (x_pick_f rfl rfl) rfl ?_
      refine EL.val (x_assign rfl) rfl ?_
      refine EL.nil ?_
      refine EX.seq ?_
      refine EC.ret ?_
      exact EX.done (res1 rfl rfl) ⟨by congr 2; simp [runB, *], hbw⟩
    ·
      refine EL.callg rfl rfl (cl_55 rfl rfl) rfl (areWays_to (n := P) (l := [x.y]) (b := true) (by simpa using h2) _ _ _ hn (rd_blk (k := 1) (l := [.int .i64 x.y.fr, .int .i64 x.y.to, .int .i64 x.y.cost, .int .i64 x.y.room]) q5 rfl) (Nat.le_refl _) (by simp)) ?_
      rintro e w7 ⟨rfl, hc7⟩
      refine ⟨_, rfl, ?_⟩
      replace q1 := q1.below hc7 q1.lt
      replace q2 := q2.below hc7 q2.lt
      replace q5 := q5.below hc7 q5.lt
      replace hbw := Below.on hbw hc7 hbw.size
      clear hc7
      refine EL.valg rfl rfl (x_not rfl) rfl ?_
      refine EL.val (x_pick_f rfl rfl) rfl ?_
      refine EL.val (x_assign rfl) rfl ?_
      refine EL.nil ?_
      refine EX.seq ?_
      refine EC.ret ?_
      exact EX.done (res1 rfl rfl) ⟨by congr 2; simp [runB, *], hbw⟩
end Go.Proofs.Ytabgmnmpdjnjoaa
set_option linter.unusedVariables false
namespace Go.Proofs.Ytabgmnmpdjnjoaa
open Go Go.RowKit
/-- the block that a pointer or a slice points to -/
def blk0 : Value → Option Nat
  | .pointer (some a) => some a.block
  | .slice (some a) _ _ => some a.block
  | _ => none
section
variable {P : Program} {n : Nat} {σ : Sg} {w : World} {Q : Exit → Act → World → Prop} {L : List Oper}
/-- when some of the head have come up -/
structure HInvA (n : Nat) (L : List Oper) (cls : List (List Nat)) (m : Nat) (alc : List Nat) (σ : Sg) (w : World) (Φ : Nat → (Nat → Value) → World → Prop) (D : Array Bool) (val : Nat → Value) (a : Act) (w' : World) : Prop where
  below : Below w.heap.size w w'
  size : a.tmps.size = n
  defers : a.defers = []
  new : ∀ i d, i < m → D.getD i false = true → dstOf L i = some d → a.tmps[d]? = some (val i)
  old : ∀ t v, σ t = some v → (∀ k, k < m → D.getD k false = true → dstOf L k ≠ some t) → a.tmps[t]? = some v
  says : ∀ i, i < m → D.getD i false = true → Φ i (res val i (clsAt cls i)) w'
  down : ∀ i, D.getD i false = true → ∀ j ∈ clsAt cls i, D.getD j false = true
  alc1 : ∀ i ∈ alc, i < m → D.getD i false = true → ∃ g, blk0 (val i) = some g ∧ w.heap.size ≤ g ∧ g < w'.heap.size
  alc2 : ∀ i ∈ alc, ∀ j ∈ alc, i < m → j < m → D.getD i false = true → D.getD j false = true → i ≠ j → blk0 (val i) ≠ blk0 (val j)
  high : ∀ i, m ≤ i → D.getD i false = false
end
section
variable {P : Program} {n : Nat} {σ : Sg} {w : World} {L : List Oper} {cls : List (List Nat)} {alc : List Nat} {val : Nat → Value} {a : Act} {w1 : World} {i m : Nat} {Q : Exit → Act → World → Prop} {Φ : Nat → (Nat → Value) → World → Prop}
end
end Go.Proofs.Ytabgmnmpdjnjoaa
set_option linter.unusedVariables false
set_option linter.unusedSimpArgs false
namespace Go.Proofs.Ytabgmnmpdjnjoaa
open Go Go.RowKit
section
variable {P : Program} {w : World}
theorem run_growZ {t tn e : TypeId} {size bytes base m ty : Nat} (E : Elem P t e size bytes) (htn : P.underlying tn = some (.int .i64)) (h0 : 0 < m) (hm : m ≤ 1048576) (hby : bytes ≤ 1048576) (hbase : base ≤ w.heap.size) :
    ∃ g c w', (Builtin.append_ #[t, tn] ty #[.slice none 0 0, .int .i64 (m : Int)]).run P w = .ok (.slice (some ⟨g, 0, none⟩) m c) w' ∧ m ≤ c ∧ w'.ownsRow base e size (.slice (some ⟨g, 0, none⟩) 0 c) 0 [] ∧ Below w.heap.size w w' := by
  obtain ⟨i, z, hi, hz, hsize, hb, hzs⟩ := E.hi
  subst hsize
  have hmm : m * i.bytes ≤ 1048576 * i.bytes := Nat.mul_le_mul_right _ hm
  have h1 := Lib.run_append_nil_zeros (P := P) w t tn ty e i z .i64 .i64 E.ht htn hi hz m h0 E.hs (by omega) (by omega)
  have hge := grownCap_ge w m 0 e
  have hcm : grownCap w m 0 e ≤ maxLen := grownCap_le_maxLen w m 0 e (by simp only [maxLen]; omega)
  refine ⟨_, _, _, h1, hge, ?_, ?_⟩
  · refine World.ownsRow_made w.drew _ _ hbase hcm ?_
    simp only [Array.size_append, size_zeroCells, hzs, ← Nat.add_mul]
    congr 1
    omega
  · exact ⟨rfl, rfl, rfl, by simp, fun j hj => by
      simp only [World.alloc, World.drew]
      rw [Array.getElem?_push_lt hj, Array.getElem?_eq_getElem hj]⟩
theorem run_append_call2 {t tn : TypeId} {s x : Operand} {o : Oper} {v v' : Value} {src : Value} {w' : World} {a : Act} (ho : o.op = .call { callee := .builtin .append, args := #[s, x], argTypes := #[t, tn] }) (hs : a.eval s = v) (hx : a.eval x = src) (hr : (Builtin.append_ #[t, tn] o.type #[v, src]).run P w = .ok v' w') :
    (execOp a.eval o).run P w = .ok (.value v') w' := by
  unfold execOp
  simp only [ho, resolve, invoke, builtin, Sem.run_bind, Sem.run_pure, Result.andThen_ok, List.map_toArray, List.map_cons, List.map_nil, hs, hx, hr]
end
section
variable {P : Program} {n : Nat} {σ : Sg} {w : World} {Q : Exit → Act → World → Prop} {L : List Oper} {rest : List Oper}
theorem EL.growZ {d ty t tn e size bytes base m : Nat} {s x : Operand} {pos : String} {af : Array Edge} (E : Elem P t e size bytes) (htn : P.underlying tn = some (.int .i64)) (hs : evS σ s = some (.slice none 0 0)) (hx : evS σ x = some (.int .i64 (m : Nat))) (h0 : 0 < m) (hm : m ≤ 1048576) (hby : Nat.ble bytes 1048576 = true) (hbase : base ≤ w.heap.size) (hd : Nat.blt d n = true)
    (next : ∀ g c w', m ≤ c → w'.ownsRow base e size (.slice (some ⟨g, 0, none⟩) 0 c) 0 [] → Below w.heap.size w w' → EL P n L Q rest (ins σ d (.slice (some ⟨g, 0, none⟩) m c)) w') : EL P n L Q (⟨some d, .call { callee := .builtin .append, args := #[s, x], argTypes := #[t, tn] }, ty, pos, af, none⟩ :: rest) σ w := by
  intro a ha
  obtain ⟨g, c, w', h1, h2, h3, h4⟩ := run_growZ (P := P) (w := w) (ty := ty) E htn h0 hm (by simpa [Nat.ble_eq] using hby) hbase
  exact wpL_run (wanted_none rfl _) (run_append_call2 rfl (ha.eval hs) (ha.eval hx) h1) (next g c w' h2 h3 h4 _ (ha.put hd _))
end
end Go.Proofs.Ytabgmnmpdjnjoaa
set_option linter.unusedVariables false
set_option linter.unusedSimpArgs false
namespace Go.Proofs.Ytabgmnmpdjnjoaa
open Go Go.RowKit
section
variable {n : Nat} {σ : Sg} {w : World} {dst : Option Tmp} {ty : TypeId} {pos : String} {af : Array Edge} {g : Option (Nat × Bool)} {x y z : Operand} {at' : Array TypeId}
theorem slh_22 {b o m c hi : Nat} (hx : evS σ x = some (.slice (some ⟨b, o, none⟩) m c)) (hh : evS σ y = some (.int .i64 (hi : Int))) (h2 : hi ≤ c) : Gives Try.prog n σ w ⟨dst, .slice 22 x none (some y) none, ty, pos, af, g⟩ (.slice (some ⟨b, o, none⟩) hi c) := fun a ha => by
  have k1 : (0 : Int) ≤ (hi : Int) := Int.natCast_nonneg _
  have k3 : (hi : Int) ≤ (c : Int) := by omega
  simp only [execOp, Option.map_some, Option.map_none, ha.eval hx, ha.eval hh]
  by_cases e : c = 0
  · subst e; obtain rfl : hi = 0 := by omega
    simp [go_sem]
  · simp [go_sem, k1, k3, h2, e]
theorem cl_81 {x0 x1 : Operand} {v0 v1 : Value} (h0 : evS σ x0 = some v0) (h1 : evS σ x1 = some v1) (a : Act) (ha : Env n σ a) : (execOp a.eval ⟨dst, .call { callee := .value (.func 81), args := #[x0, x1], argTypes := at' }, ty, pos, af, g⟩).run Try.prog w = .ok (.enter 81 #[v0, v1]) w := by
  simp only [execOp, resolve, List.map_toArray, List.map_cons, List.map_nil, ha.eval h0, ha.eval h1]
  simp [go_sem, Act.eval]
end
end Go.Proofs.Ytabgmnmpdjnjoaa
set_option linter.unusedVariables false
set_option linter.unusedSimpArgs false
namespace Go.Proofs.Ytabgmnmpdjnjoaa
open Go Go.RowKit
section
variable {n : Nat} {σ : Sg} {w : World} {dst : Option Tmp} {ty : TypeId} {pos : String} {af : Array Edge} {g : Option (Nat × Bool)} {x y : Operand}
theorem cap_prt {A : Option Addr} {m c : Nat} (hx : evS σ x = some (.slice A m c)) : Gives Try.prog n σ w ⟨dst, .call { callee := .builtin .cap, args := #[x], argTypes := #[22] }, ty, pos, af, g⟩ (.int .i64 (c : Int)) := fun a ha => by
  simp only [execOp, resolve, List.map_toArray, List.map_cons, List.map_nil, ha.eval hx]
  simp [go_sem]
theorem slh_nil (hx : evS σ x = some (.slice none 0 0)) (hh : evS σ y = some (.int .i64 ((0 : Nat) : Int))) : Gives Try.prog n σ w ⟨dst, .slice 22 x none (some y) none, ty, pos, af, g⟩ (.slice none 0 0) := fun a ha => by
  simp only [execOp, Option.map_some, Option.map_none, ha.eval hx, ha.eval hh]
  simp [go_sem]
end
theorem grow_any (m : Nat) (w : World) (hm : m ≤ 1048576) :
    Calls Try.prog 81 #[.slice none 0 0, .int .i64 (m : Nat)] w fun e w' => (∃ v, e = .returned v ∧ w'.ownsRow w.heap.size 47 2 v 0 []) ∧ Below w.heap.size w w' := by
  have hbw := Below.refl w.heap.size w
  refine EC.enter 27 Try.func81 rfl rfl rfl ?_
  refine EC.seq ?_
  refine EC.region ?_
  refine EL.val (x_assign rfl) rfl ?_
  refine EL.nil ?_
  refine EX.seq ?_
  refine EC.seq ?_
  refine EC.seq ?_
  refine EC.region ?_
  refine EL.val (x_move rfl) rfl ?_
  refine EL.val (x_lss (r := false) rfl rfl (decide_eq_false (by omega))) rfl ?_
  refine EL.nil ?_
  refine EX.seq ?_
  refine EC.no rfl ?_
  refine EC.skip ?_
  refine EX.seq ?_
  refine EC.seq ?_
  refine EC.seq ?_
  refine EC.region ?_
  refine EL.val (x_move rfl) rfl ?_
  refine EL.val (x_move rfl) rfl ?_
  refine EL.val (cap_prt rfl) rfl ?_
  refine EL.val (x_move rfl) rfl ?_
  refine EL.val (ln_22 rfl) rfl ?_
  refine EL.val (x_sub rfl rfl (c := 0) rfl) rfl ?_
  refine EL.val (x_sub rfl rfl (c := ((m : Nat) : Int)) ((IntWalk.i64_in _ ⟨by omega, by omega⟩).trans (by omega))) rfl ?_
  refine EL.val (x_assign rfl) rfl ?_
  refine EL.nil ?_
  refine EX.seq ?_
  refine EC.seq ?_
  refine EC.region ?_
  refine EL.val (x_move rfl) rfl ?_
  by_cases hm0 : 0 < m
  ·
    refine EL.val (x_gtr (r := true) rfl rfl (decide_eq_true (by omega))) rfl ?_
    refine EL.nil ?_
    refine EX.seq ?_
    refine EC.yes rfl ?_
    refine EC.region ?_
    refine EL.val (x_move rfl) rfl ?_
    refine EL.val (x_move rfl) rfl ?_
    refine EL.val (cap_prt rfl) rfl ?_
    refine EL.val (slh_nil rfl rfl) rfl ?_
    refine EL.val (x_move rfl) rfl ?_
    refine EL.growZ (base := w.heap.size) prt_elem Try.underlying3 rfl rfl hm0 hm rfl (Nat.le_refl _) rfl ?_
    rintro g c w2 hmc ho hb2
    replace hbw := Below.on hbw hb2 hbw.size
    clear hb2
    refine EL.val (x_move rfl) rfl ?_
    refine EL.val (ln_22 rfl) rfl ?_
    refine EL.val (slh_22 (hi := 0) rfl rfl (Nat.zero_le _)) rfl ?_
    refine EL.val (x_assign rfl) rfl ?_
    refine EL.nil ?_
    refine EX.seq ?_
    refine EC.seq ?_
    refine EC.region ?_
    refine EL.val (x_move rfl) rfl ?_
    refine EL.val (x_assign rfl) rfl ?_
    refine EL.nil ?_
    refine EX.seq ?_
    refine EC.ret ?_
    exact EX.done (res1 rfl rfl) ⟨⟨_, rfl, ho⟩, hbw⟩
  ·
    obtain rfl : m = 0 := by omega
    refine EL.val (x_gtr (r := false) rfl rfl (decide_eq_false (by omega))) rfl ?_
    refine EL.nil ?_
    refine EX.seq ?_
    refine EC.no rfl ?_
    refine EC.skip ?_
    refine EX.seq ?_
    refine EC.seq ?_
    refine EC.region ?_
    refine EL.val (x_move rfl) rfl ?_
    refine EL.val (x_assign rfl) rfl ?_
    refine EL.nil ?_
    refine EX.seq ?_
    refine EC.ret ?_
    exact EX.done (res1 rfl rfl) ⟨⟨_, rfl, World.ownsRow_nil _ _ _ _⟩, hbw⟩
theorem flat_take {α : Type} {ls : List (List α)} {x : Nat} (hx : x < ls.length) : (ls.take (x + 1)).flatten.length = (ls.take x).flatten.length + (ls.getD x []).length := by
  rw [List.take_succ_eq_append_getElem hx, List.flatten_append, List.length_append, getD_in hx]
  simp
theorem flat_le {α : Type} {ls : List (List α)} (k : Nat) : (ls.take k).flatten.length ≤ ls.flatten.length := by
  have h : ls.flatten = (ls.take k).flatten ++ (ls.drop k).flatten := by rw [← List.flatten_append, List.take_append_drop]
  rw [h, List.length_append]
  exact Nat.le_add_right _ _
theorem flat_takeC {ls : List (List Prt)} {x : Nat} (hx : x < ls.length) : prtsC (ls.take (x + 1)).flatten = prtsC (ls.take x).flatten ++ (ls.getD x []).flatMap prtC := by
  rw [List.take_succ_eq_append_getElem hx, List.flatten_append, getD_in hx]
  simp [prtsC]
theorem concat_any (ls : List (List Prt)) (us : List Value) (v : Value) (w : World) (B : Nat) (hr : RdLL prtC 2 w B v ls us) (hB : B ≤ w.heap.size) (hl : ls.length ≤ 1048576) (hn : ls.flatten.length ≤ 1048576) :
    Calls Try.prog 61 #[v] w fun e w' => (∃ v', e = .returned v' ∧ w'.ownsRow w.heap.size 47 2 v' ls.flatten.length (prtsC ls.flatten)) ∧ Below w.heap.size w w' := by
  obtain ⟨A, c, rfl, _⟩ := hr.rd.shape
  have hbw := Below.refl w.heap.size w
  refine EC.enter 36 Try.func61 rfl rfl rfl ?_
  refine EC.seq ?_
  refine EC.region ?_
  refine EL.val (x_assign rfl) rfl ?_
  refine EL.nil ?_
  refine EX.seq ?_
  refine EC.seq ?_
  refine EC.region ?_
  refine EL.val (x_assign rfl) rfl ?_
  refine EL.nil ?_
  refine EX.seq ?_
  refine EC.seq ?_
  refine EC.seq ?_
  refine EC.region ?_
  refine EL.val (x_move rfl) rfl ?_
  refine EL.val (ln_64 rfl) rfl ?_
  refine EL.val (x_move rfl) rfl ?_
  refine EL.nil ?_
  refine EX.seq ?_
  refine EC.block ?_
  refine EC.loopD [3, 5, 11, 12, 13, 14, 15, 16, 17, 18, 19, 20, 21, 22] (fun x : Nat => [(3, .int .i64 ((ls.take x).flatten.length : Nat)), (11, .int .i64 (x : Nat))]) (fun x W => x ≤ ls.length ∧ Below w.heap.size w W) (fun x => ls.length - x) 0 ⟨Nat.zero_le _, hbw⟩ ⟨rfl, rfl, trivial⟩ ?_
  clear hbw
  rintro x wx ⟨hx, hbw⟩
  by_cases hlt : x < ls.length
  ·
    obtain ⟨b, o, rfl, _, cc⟩ := vals_cells us x (by rw [hr.len]; exact hlt) _ _ _ _ _ hr.rd
    have hrow := hr.row x hlt
    have htk := flat_take (ls := ls) hlt
    have hle := flat_le (ls := ls) (x + 1)
    obtain ⟨Ar, cr, er, _⟩ := hrow.shape
    rw [er] at cc hrow
    refine EC.seq ?_
    refine EC.region ?_
    refine EL.val (x_lss rfl rfl (decide_eq_true (show (((x : Nat) : Int) < ((ls.length : Nat) : Int)) by omega))) rfl ?_
    refine EL.nil ?_
    refine EX.seq ?_
    refine EC.seq ?_
    refine EC.yes rfl ?_
    refine EC.skip ?_
    refine EX.seq ?_
    refine EC.seq ?_
    refine EC.block ?_
    refine EC.seq ?_
    refine EC.region ?_
    refine EL.val (ix_64 rfl rfl hlt) rfl ?_
    refine EL.val (ld_22 rfl (below_load hbw cc)) rfl ?_
    refine EL.val (x_assign rfl) rfl ?_
    refine EL.nil ?_
    refine EX.seq ?_
    refine EC.seq ?_
    refine EC.region ?_
    refine EL.val (x_move rfl) rfl ?_
    refine EL.val (x_move rfl) rfl ?_
    refine EL.val (ln_22 rfl) rfl ?_
    refine EL.val (x_add rfl rfl (c := (((ls.take (x + 1)).flatten.length : Nat) : Int)) ((IntWalk.i64_in _ ⟨by omega, by omega⟩).trans (by omega))) rfl ?_
    refine EL.val (x_assign rfl) rfl ?_
    refine EL.nil ?_
    refine EX.seq ?_
    refine EC.seq ?_
    refine EC.region ?_
    refine EL.val (x_move rfl) rfl ?_
    refine EL.val (x_lss (r := false) rfl rfl (decide_eq_false (by omega))) rfl ?_
    refine EL.nil ?_
    refine EX.seq ?_
    refine EC.no rfl ?_
    refine EC.skip ?_
    refine EX.blk ?_
    refine EX.seq ?_
    refine EC.region ?_
    refine EL.val (x_add rfl rfl (c := ((x + 1 : Nat) : Int)) ((IntWalk.i64_in _ ⟨by first | omega | (simp only; omega), by first | omega | (simp only; omega)⟩).trans (by first | omega | (simp only; omega)))) rfl ?_
    refine EL.val (x_move rfl) rfl ?_
    refine EL.nil ?_
    refine EX.roundD (x + 1) ⟨rfl, rfl, trivial⟩ (by repeat first | with_reducible exact Sub.refl _ | refine sub_past rfl ?_ | exact Sub.refl _ | refine sub_del rfl ?_ | refine sub_insL_nil ?_) ⟨hlt, hbw⟩ (by omega)
  ·
    have hxe : x = ls.length := by omega
    subst hxe
    rw [List.take_length]
    refine EC.seq ?_
    refine EC.region ?_
    refine EL.val (x_lss rfl rfl (decide_eq_false (show ¬(((ls.length : Nat) : Int) < ((ls.length : Nat) : Int)) by omega))) rfl ?_
    refine EL.nil ?_
    refine EX.seq ?_
    refine EC.seq ?_
    refine EC.no rfl ?_
    refine EC.exit ?_
    refine EX.seq_exit ?_
    refine EX.seq_exit ?_
    refine EX.blk_here ?_
    refine EX.seq ?_
    refine EC.seq ?_
    refine EC.region ?_
    refine EL.val (x_move rfl) rfl ?_
    refine EL.call (cl_81 rfl rfl) rfl (grow_any ls.flatten.length _ hn) ?_
    rintro e w1 ⟨⟨v0, rfl, ho⟩, hc1⟩
    refine ⟨_, rfl, ?_⟩
    replace ho := own_less ho hbw.size
    replace hbw := Below.on hbw hc1 hbw.size
    clear hc1
    refine EL.val (x_assign rfl) rfl ?_
    refine EL.nil ?_
    refine EX.seq ?_
    refine EC.seq ?_
    refine EC.seq ?_
    refine EC.region ?_
    refine EL.val (x_move rfl) rfl ?_
    refine EL.val (ln_64 rfl) rfl ?_
    refine EL.val (x_move rfl) rfl ?_
    refine EL.nil ?_
    refine EX.seq ?_
    refine EC.block ?_
    refine EC.loopD [6, 8, 27, 28, 29, 30, 31, 32, 33, 34] (fun x : Nat × Value => [(6, x.2), (27, .int .i64 (x.1 : Nat))]) (fun x W => x.1 ≤ ls.length ∧ W.ownsRow w.heap.size 47 2 x.2 (ls.take x.1).flatten.length (prtsC (ls.take x.1).flatten) ∧ Below w.heap.size w W) (fun x => ls.length - x.1) (0, v0) ⟨Nat.zero_le _, ho, hbw⟩ ⟨rfl, rfl, trivial⟩ ?_
    clear hbw ho
    rintro ⟨x, v⟩ wx ⟨hx, ho, hbw⟩
    dsimp only at hx ho
    by_cases hlt : x < ls.length
    ·
      obtain ⟨b, o, rfl, _, cc⟩ := vals_cells us x (by rw [hr.len]; exact hlt) _ _ _ _ _ hr.rd
      have hrow := hr.row x hlt
      have htk := flat_take (ls := ls) hlt
      have hle := flat_le (ls := ls) (x + 1)
      obtain ⟨Ar, cr, er, _⟩ := hrow.shape
      rw [er] at cc hrow
      refine EC.seq ?_
      refine EC.region ?_
      refine EL.val (x_lss rfl rfl (decide_eq_true (show (((x : Nat) : Int) < ((ls.length : Nat) : Int)) by omega))) rfl ?_
      refine EL.nil ?_
      refine EX.seq ?_
      refine EC.seq ?_
      refine EC.yes rfl ?_
      refine EC.skip ?_
      refine EX.seq ?_
      refine EC.seq ?_
      refine EC.block ?_
      refine EC.seq ?_
      refine EC.region ?_
      refine EL.val (ix_64 rfl rfl hlt) rfl ?_
      refine EL.val (ld_22 rfl (below_load hbw cc)) rfl ?_
      refine EL.val (x_assign rfl) rfl ?_
      refine EL.nil ?_
      refine EX.seq ?_
      refine EC.region ?_
      refine EL.val (x_move rfl) rfl ?_
      refine EL.val (x_move rfl) rfl ?_
      refine EL.push prt_elem rfl rfl ho (hrow.below (hbw.mono hB)) (prtsC_one _) (by omega) rfl hbw.size rfl ?_
      intro v2 w2 ho2 hgr hb_ hat
      replace hbw := hbw.trans hb_
      clear ho hgr hb_ hat
      have ho := ho2
      clear ho2
      refine EL.val (x_assign rfl) rfl ?_
      refine EL.nil ?_
      refine EX.blk ?_
      refine EX.seq ?_
      refine EC.region ?_
      refine EL.val (x_add rfl rfl (c := ((x + 1 : Nat) : Int)) ((IntWalk.i64_in _ ⟨by first | omega | (simp only; omega), by first | omega | (simp only; omega)⟩).trans (by first | omega | (simp only; omega)))) rfl ?_
      refine EL.val (x_move rfl) rfl ?_
      refine EL.nil ?_
      refine EX.roundD (x + 1, _) ⟨rfl, rfl, trivial⟩ (by repeat first | with_reducible exact Sub.refl _ | refine sub_past rfl ?_ | exact Sub.refl _ | refine sub_del rfl ?_ | refine sub_insL_nil ?_) ⟨hlt, (by show World.ownsRow _ _ _ _ _ (ls.take (x + 1)).flatten.length (prtsC (ls.take (x + 1)).flatten); rw [htk, flat_takeC hlt]; exact ho), hbw⟩ (by simp only; omega)
    ·
      have hxe : x = ls.length := by omega
      subst hxe
      rw [List.take_length] at ho
      refine EC.seq ?_
      refine EC.region ?_
      refine EL.val (x_lss rfl rfl (decide_eq_false (show ¬(((ls.length : Nat) : Int) < ((ls.length : Nat) : Int)) by omega))) rfl ?_
      refine EL.nil ?_
      refine EX.seq ?_
      refine EC.seq ?_
      refine EC.no rfl ?_
      refine EC.exit ?_
      refine EX.seq_exit ?_
      refine EX.seq_exit ?_
      refine EX.blk_here ?_
      refine EX.seq ?_
      refine EC.seq ?_
      refine EC.region ?_
      refine EL.val (x_move rfl) rfl ?_
      refine EL.val (x_assign rfl) rfl ?_
      refine EL.nil ?_
      refine EX.seq ?_
      refine EC.ret ?_
      exact EX.done (res1 rfl rfl) ⟨⟨_, rfl, ho⟩, hbw⟩
end Go.Proofs.Ytabgmnmpdjnjoaa
set_option linter.unusedVariables false
set_option linter.unusedSimpArgs false
namespace Go.Proofs.Ytabgmnmpdjnjoaa
open Go Go.RowKit
section
variable {n : Nat} {σ : Sg} {w : World} {dst : Option Tmp} {ty : TypeId} {pos : String} {af : Array Edge} {g : Option (Nat × Bool)} {x y z : Operand} {at' : Array TypeId}
theorem sz_23 : (Try.prog.info? 23).map (·.size) = some 1 := by kernel_rfl
end
end Go.Proofs.Ytabgmnmpdjnjoaa
set_option linter.unusedVariables false
set_option linter.unusedSimpArgs false
namespace Go.Proofs.Ytabgmnmpdjnjoaa
open Go Go.RowKit
theorem grown_fresh {w W W2 : World} {row : Option Nat} {g : Nat} (h : w.grownBy W row) (h2 : W.grownBy W2 (some g)) (hg : w.heap.size ≤ g) : w.grownBy W2 row := ⟨h2.os.trans h.os, h2.tape.trans h.tape, h2.output.trans h.output, Nat.le_trans h.size h2.size, fun k hk hn => (h2.block k (Nat.lt_of_lt_of_le hk h.size) (fun e => by injection e with e; omega)).trans (h.block k hk hn)⟩
theorem own_at {w w' : World} {base e size n g : Nat} {v : Value} {xs : List Value} (h : w.ownsRow base e size v n xs) (hn : ∀ k, v.ownBlock = some k → k ≠ g) (hg : w.grownBy w' (some g)) : w'.ownsRow base e size v n xs :=
  h.kept hg (by
    rcases h1 : v.ownBlock with _ | k
    · exact .inl rfl
    · refine .inr fun h' => ?_
      injection h' with h'
      exact hn k h1 h')
set_option maxHeartbeats 1000000 in
set_option maxRecDepth 100000 in
theorem add_any {P : Nat} {va v : Value} (base gP gn : Nat) (y : Way) (k : Nat) (k2 : Int) (l : List Way) (w : World) (hqP : Blk w gP 3 #[.int .i64 (P : Nat)]) (hqn : Blk w gn 25 #[va, v]) (hne : gn ≠ gP) (hown : w.ownsRow base 56 4 v l.length (waysC l)) (hbg : base ≤ gn) (hbase : base ≤ w.heap.size) (hm : l.length + 1 ≤ 1048576)
    (hk1 : 0 ≤ (k : Int) * P ∧ (k : Int) * P ≤ 1000000) (hk2 : 0 ≤ k2 * (P : Int) ∧ k2 * (P : Int) ≤ 1000000) (hf : 0 ≤ y.fr ∧ y.fr ≤ 1000000) (ht : 0 ≤ y.to ∧ y.to ≤ 1000000) :
    Calls Try.prog 64 #[.agg #[.int .i64 y.fr, .int .i64 y.to, .int .i64 y.cost, .int .i64 y.room], .int .i64 (k : Nat), .int .i64 k2, .pointer (some ⟨gP, 0, none⟩), .pointer (some ⟨gn, 0, none⟩)] w fun e w' => e = .returned (.tuple #[]) ∧ ∃ v' w1, Blk w' gn 25 #[va, v'] ∧ Blk w' gP 3 #[.int .i64 (P : Nat)] ∧ w'.ownsRow base 56 4 v' (l.length + 1) (waysC (l ++ [⟨(k : Int) * P + y.fr, k2 * (P : Int) + y.to, y.cost, y.room⟩])) ∧ UpTo base w w' ∧ w.grownBy w1 v.ownBlock ∧ w1.grownBy w' (some gn) := by
  obtain ⟨A, cl, rfl, _⟩ := (Rd.of_own hown).shape
  have hup := UpTo.refl (w := w) hbase
  have hgg := grown_refl w (Value.slice A l.length cl).ownBlock
  have n00_0 := hne
  have n0_00 := hne.symm
  refine EC.enter 28 Try.func64 rfl rfl rfl ?_
  refine EC.seq ?_
  refine EC.region ?_
  refine EL.newP (bx_56 rfl) rfl ?_
  intro g1 w1 q1 hb1 hg1 hl1
  have n0_1 : gP ≠ g1 := Nat.ne_of_lt (Nat.lt_of_lt_of_le hqP.lt hg1)
  have n00_1 : gn ≠ g1 := Nat.ne_of_lt (Nat.lt_of_lt_of_le hqn.lt hg1)
  have nh_1 := fun k hk => Nat.ne_of_lt (Nat.lt_of_lt_of_le (hown.lt k hk).2 hg1)
  replace hg1 := Nat.le_trans hgg.size hg1
  replace hqP := hqP.below hb1 hqP.lt
  replace hqn := hqn.below hb1 hqn.lt
  replace hgg := grown_thenB hgg hb1
  replace hup := hup.below hb1
  replace hown := own_below hown hb1 (Nat.le_refl _)
  clear hb1 hl1
  refine EL.nil ?_
  refine EX.seq ?_
  refine EC.seq ?_
  have lt_0 := hqP.lt
  have lt_00 := hqn.lt
  have lt_1 := q1.lt
  refine EC.regionS [[], [], [0, 1], [], [3], [0, 1, 2, 3, 4], [], [], [6, 7], [], [9], [6, 7, 8, 9, 10], [0, 1, 2, 3, 4, 5, 9, 10], [0, 1, 2, 3, 4, 5, 9, 10, 12], [0, 1, 2, 3, 4, 5, 6, 7, 8, 9, 10, 11, 12, 13], [0, 1, 2, 3, 4, 5, 6, 7, 8, 9, 10, 11, 12, 13, 14]] 14 [] [13] (fun fl w_ => w1.grownBy w_ (some g1) ∧ (fl 13 = false → Blk w_ g1 56 _)) (phiS (fun i_ r => match i_ with | 0 => r 0 = .int .i64 (k : Nat) | 1 => r 1 = .int .i64 (P : Nat) | 2 => r 2 = .int .i64 ((k : Int) * P) | 3 => r 3 = .pointer (some ⟨g1, 0, none⟩) | 4 => r 4 = .int .i64 y.fr | 5 => r 5 = .int .i64 ((k : Int) * P + y.fr) | 6 => r 6 = .int .i64 k2 | 7 => r 7 = .int .i64 (P : Nat) | 8 => r 8 = .int .i64 (k2 * (P : Int)) | 9 => r 9 = .pointer (some ⟨g1, 1, none⟩) | 10 => r 10 = .int .i64 y.to | 11 => r 11 = .int .i64 (k2 * (P : Int) + y.to) | 12 => r 12 = .pointer (some ⟨g1, 0, none⟩) | _ => True) [(13, fun _ r w_ => Blk w_ g1 56 #[.int .i64 ((k : Int) * P + y.fr), .int .i64 y.to, .int .i64 y.cost, .int .i64 y.room])]) (by kernel_rfl) rfl rfl (by intro i hi; simp at hi; first | (subst hi; exact ⟨by simp, by omega⟩) | (rcases hi with rfl | rfl | rfl <;> exact ⟨by simp, by omega⟩) | (rcases hi with rfl | rfl <;> exact ⟨by simp, by omega⟩)) (base_own q1) (phiS_cons monoS_own (phiS_nil)) (fun i_ hi_ hs_ => ?_) (fun i_ hi_ => ?_) ?_
  · match i_, hi_ with
    | 0, _ =>
      intro val fl w1 a hb ha hd hfl
      obtain ⟨hb, hg0⟩ := hb
      have ha := ha.sub (Sub.ins (d := 1) (Sub.nil _) rfl)
      exact ss_val ha rfl rfl (x_move rfl) rfl rfl
    | 1, _ =>
      intro val fl w1 a hb ha hd hfl
      obtain ⟨hb, hg0⟩ := hb
      have ha := ha.sub (Sub.ins (d := 3) (Sub.nil _) rfl)
      exact ss_val ha rfl rfl (ld_3 rfl ((hqP.grown hb (fun h => n0_1 (Option.some.inj h))).at (j := 0) rfl)) rfl rfl
    | 2, _ =>
      intro val fl w1 a hb ha hd hfl
      obtain ⟨hb, hg0⟩ := hb
      have e0 : val 0 = .int .i64 (k : Nat) := hd 0 (memB_mem.1 rfl)
      have e1 : val 1 = .int .i64 (P : Nat) := hd 1 (memB_mem.1 rfl)
      have ha := ha.sub (Sub.ins (d := 9) (Sub.ins (d := 8) (Sub.nil _) (dep_get rfl e0)) (dep_get rfl e1))
      exact ss_val ha rfl rfl (x_mul rfl rfl (c := (k : Int) * P) (IntWalk.i64_in _ ⟨by omega, by omega⟩)) rfl rfl
    | 3, _ =>
      intro val fl w1 a hb ha hd hfl
      obtain ⟨hb, hg0⟩ := hb
      have ha := ha.sub (Sub.ins (d := 5) (Sub.nil _) rfl)
      exact ss_val ha rfl rfl (fa_56_0 rfl) rfl rfl
    | 4, _ =>
      intro val fl w1 a hb ha hd hfl
      obtain ⟨hb, hg0⟩ := hb
      have e3 : val 3 = .pointer (some ⟨g1, 0, none⟩) := hd 3 (memB_mem.1 rfl)
      have ha := ha.sub (Sub.ins (d := 11) (Sub.nil _) (dep_get rfl e3))
      exact ss_val ha rfl rfl (ld_3 rfl ((hg0 (hfl 13 (by simp) (memB_mem.1 rfl))).at (j := 0) rfl)) rfl rfl
    | 5, _ =>
      intro val fl w1 a hb ha hd hfl
      obtain ⟨hb, hg0⟩ := hb
      have e2 : val 2 = .int .i64 ((k : Int) * P) := hd 2 (memB_mem.1 rfl)
      have e4 : val 4 = .int .i64 y.fr := hd 4 (memB_mem.1 rfl)
      have ha := ha.sub (Sub.ins (d := 12) (Sub.ins (d := 10) (Sub.nil _) (dep_get rfl e2)) (dep_get rfl e4))
      exact ss_val ha rfl rfl (x_add rfl rfl (c := (k : Int) * P + y.fr) (IntWalk.i64_in _ ⟨by omega, by omega⟩)) rfl rfl
    | 6, _ =>
      intro val fl w1 a hb ha hd hfl
      obtain ⟨hb, hg0⟩ := hb
      have ha := ha.sub (Sub.ins (d := 2) (Sub.nil _) rfl)
      exact ss_val ha rfl rfl (x_move rfl) rfl rfl
    | 7, _ =>
      intro val fl w1 a hb ha hd hfl
      obtain ⟨hb, hg0⟩ := hb
      have ha := ha.sub (Sub.ins (d := 3) (Sub.nil _) rfl)
      exact ss_val ha rfl rfl (ld_3 rfl ((hqP.grown hb (fun h => n0_1 (Option.some.inj h))).at (j := 0) rfl)) rfl rfl
    | 8, _ =>
      intro val fl w1 a hb ha hd hfl
      obtain ⟨hb, hg0⟩ := hb
      have e6 : val 6 = .int .i64 k2 := hd 6 (memB_mem.1 rfl)
      have e7 : val 7 = .int .i64 (P : Nat) := hd 7 (memB_mem.1 rfl)
      have ha := ha.sub (Sub.ins (d := 15) (Sub.ins (d := 14) (Sub.nil _) (dep_get rfl e6)) (dep_get rfl e7))
      exact ss_val ha rfl rfl (x_mul rfl rfl (c := k2 * (P : Int)) (IntWalk.i64_in _ ⟨by omega, by omega⟩)) rfl rfl
    | 9, _ =>
      intro val fl w1 a hb ha hd hfl
      obtain ⟨hb, hg0⟩ := hb
      have ha := ha.sub (Sub.ins (d := 5) (Sub.nil _) rfl)
      exact ss_val ha rfl rfl (fa_56_1 rfl) rfl rfl
    | 10, _ =>
      intro val fl w1 a hb ha hd hfl
      obtain ⟨hb, hg0⟩ := hb
      have e9 : val 9 = .pointer (some ⟨g1, 1, none⟩) := hd 9 (memB_mem.1 rfl)
      have ha := ha.sub (Sub.ins (d := 17) (Sub.nil _) (dep_get rfl e9))
      exact ss_val ha rfl rfl (ld_3 rfl ((hg0 (hfl 13 (by simp) (memB_mem.1 rfl))).at (j := 1) rfl)) rfl rfl
    | 11, _ =>
      intro val fl w1 a hb ha hd hfl
      obtain ⟨hb, hg0⟩ := hb
      have e8 : val 8 = .int .i64 (k2 * (P : Int)) := hd 8 (memB_mem.1 rfl)
      have e10 : val 10 = .int .i64 y.to := hd 10 (memB_mem.1 rfl)
      have ha := ha.sub (Sub.ins (d := 18) (Sub.ins (d := 16) (Sub.nil _) (dep_get rfl e8)) (dep_get rfl e10))
      exact ss_val ha rfl rfl (x_add rfl rfl (c := k2 * (P : Int) + y.to) (IntWalk.i64_in _ ⟨by omega, by omega⟩)) rfl rfl
    | 12, _ =>
      intro val fl w1 a hb ha hd hfl
      obtain ⟨hb, hg0⟩ := hb
      have ha := ha.sub (Sub.ins (d := 5) (Sub.nil _) rfl)
      exact ss_val ha rfl rfl (fa_56_0 rfl) rfl rfl
    | 13, _ =>
      exact absurd (by simp) hs_
    | k + 14, h => exact absurd h (by omega)
  · simp only [List.mem_singleton] at hi_; subst hi_
    intro val fl w1 a hb hfi ha hd hfl
    obtain ⟨hb, hg0⟩ := hb
    have e12 : val 12 = .pointer (some ⟨g1, 0, none⟩) := hd 12 (memB_mem.1 rfl)
    have e5 : val 5 = .int .i64 ((k : Int) * P + y.fr) := hd 5 (memB_mem.1 rfl)
    have ha := ha.sub (Sub.ins (d := 13) (Sub.ins (d := 20) (Sub.nil _) (dep_get rfl e12)) (dep_get rfl e5))
    refine ts_store ha rfl rfl rfl (hg0 hfi) sz_3 rfl rfl rfl rfl ?_
    intro w' hq hgr
    refine ⟨undef, rfl, hgr.size, ⟨grown_two hb hgr, fun h => by rw [fset_eq] at h; cases h⟩, hq, fun j _ hj hn hA => ?_⟩
    exact phiS_cons_st (C := fun j => j ≠ 13 ∧ 13 ∉ clsAt [[], [], [0, 1], [], [3], [0, 1, 2, 3, 4], [], [], [6, 7], [], [9], [6, 7, 8, 9, 10], [0, 1, 2, 3, 4, 5, 9, 10], [0, 1, 2, 3, 4, 5, 9, 10, 12], [0, 1, 2, 3, 4, 5, 6, 7, 8, 9, 10, 11, 12, 13], [0, 1, 2, 3, 4, 5, 6, 7, 8, 9, 10, 11, 12, 13, 14]] j ∧ ∀ p ∈ [], (p = j ∨ p ∈ clsAt [[], [], [0, 1], [], [3], [0, 1, 2, 3, 4], [], [], [6, 7], [], [9], [6, 7, 8, 9, 10], [0, 1, 2, 3, 4, 5, 9, 10], [0, 1, 2, 3, 4, 5, 9, 10, 12], [0, 1, 2, 3, 4, 5, 6, 7, 8, 9, 10, 11, 12, 13], [0, 1, 2, 3, 4, 5, 6, 7, 8, 9, 10, 11, 12, 13, 14]] j) → ∀ q ∈ [], (q = 13 ∨ q ∈ clsAt [[], [], [0, 1], [], [3], [0, 1, 2, 3, 4], [], [], [6, 7], [], [9], [6, 7, 8, 9, 10], [0, 1, 2, 3, 4, 5, 9, 10], [0, 1, 2, 3, 4, 5, 9, 10, 12], [0, 1, 2, 3, 4, 5, 6, 7, 8, 9, 10, 11, 12, 13], [0, 1, 2, 3, 4, 5, 6, 7, 8, 9, 10, 11, 12, 13, 14]] 13) → p ≠ q → val p ≠ val q) (fun hc => absurd rfl hc.1) (fun _ _ h => h) j ⟨hj, hn, hA⟩
  · intro val fl wR1 hfl hb halc hd
    obtain ⟨hb, _⟩ := hb
    have e0 : val 0 = .int .i64 (k : Nat) := hd 0 (by omega)
    have e1 : val 1 = .int .i64 (P : Nat) := hd 1 (by omega)
    have e2 : val 2 = .int .i64 ((k : Int) * P) := hd 2 (by omega)
    have e3 : val 3 = .pointer (some ⟨g1, 0, none⟩) := hd 3 (by omega)
    have e4 : val 4 = .int .i64 y.fr := hd 4 (by omega)
    have e5 : val 5 = .int .i64 ((k : Int) * P + y.fr) := hd 5 (by omega)
    have e6 : val 6 = .int .i64 k2 := hd 6 (by omega)
    have e7 : val 7 = .int .i64 (P : Nat) := hd 7 (by omega)
    have e8 : val 8 = .int .i64 (k2 * (P : Int)) := hd 8 (by omega)
    have e9 : val 9 = .pointer (some ⟨g1, 1, none⟩) := hd 9 (by omega)
    have e10 : val 10 = .int .i64 y.to := hd 10 (by omega)
    have e11 : val 11 = .int .i64 (k2 * (P : Int) + y.to) := hd 11 (by omega)
    have e12 : val 12 = .pointer (some ⟨g1, 0, none⟩) := hd 12 (by omega)
    refine EL.ends (cs := [.int .i64 (k : Nat), .int .i64 (P : Nat), .int .i64 ((k : Int) * P), .pointer (some ⟨g1, 0, none⟩), .int .i64 y.fr, .int .i64 ((k : Int) * P + y.fr), .int .i64 k2, .int .i64 (P : Nat), .int .i64 (k2 * (P : Int)), .pointer (some ⟨g1, 1, none⟩), .int .i64 y.to, .int .i64 (k2 * (P : Int) + y.to), .pointer (some ⟨g1, 0, none⟩), val 13]) ⟨e0, e1, e2, e3, e4, e5, e6, e7, e8, e9, e10, e11, e12, rfl, trivial⟩ rfl ?_
    replace hqP := hqP.grown hb (fun h => n0_1 (Option.some.inj h))
    replace hqn := hqn.grown hb (fun h => n00_1 (Option.some.inj h))
    have q1 : Blk wR1 g1 56 #[.int .i64 ((k : Int) * P + y.fr), .int .i64 y.to, .int .i64 y.cost, .int .i64 y.room] := hd 13 (by omega)
    replace hgg := grown_fresh hgg hb hg1
    replace hup := hup.grown hb (fun g h => by injection h with h; subst h; exact Nat.le_trans hbase hg1)
    replace hown := own_at hown nh_1 hb
    refine EL.val (fa_56_1 rfl) rfl ?_
    refine EL.store rfl rfl q1 sz_3 rfl rfl rfl rfl ?_
    intro w2 hq2 hg2
    replace hqP := hqP.grown hg2 (fun h => n0_1 (Option.some.inj h))
    replace hqn := hqn.grown hg2 (fun h => n00_1 (Option.some.inj h))
    replace hgg := grown_fresh hgg hg2 hg1
    replace hup := hup.grown hg2 (fun g h => by injection h with h; subst h; exact Nat.le_trans hbase hg1)
    replace hown := own_at hown nh_1 hg2
    replace q1 := hq2
    clear hg2 hq2
    refine EL.nil ?_
    refine EX.seq ?_
    refine EC.region ?_
    refine EL.val (fa_25_1 rfl) rfl ?_
    refine EL.val (ld_23 rfl (hqn.at (j := 1) rfl)) rfl ?_
    refine EL.val (ld_56 rfl (q1.at (j := 0) rfl) (q1.at (j := 1) rfl) (q1.at (j := 2) rfl) (q1.at (j := 3) rfl)) rfl ?_
    refine EL.newS (bs_23_1 rfl) rfl ?_
    intro g3 w3 q3 hb3 hg3 hl3
    have n0_3 : gP ≠ g3 := Nat.ne_of_lt (Nat.lt_of_lt_of_le hqP.lt hg3)
    have n00_3 : gn ≠ g3 := Nat.ne_of_lt (Nat.lt_of_lt_of_le hqn.lt hg3)
    have n1_3 : g1 ≠ g3 := Nat.ne_of_lt (Nat.lt_of_lt_of_le q1.lt hg3)
    have nh_3 := fun k hk => Nat.ne_of_lt (Nat.lt_of_lt_of_le (hown.lt k hk).2 hg3)
    replace hg3 := Nat.le_trans hgg.size hg3
    replace hqP := hqP.below hb3 hqP.lt
    replace hqn := hqn.below hb3 hqn.lt
    replace q1 := q1.below hb3 q1.lt
    replace hgg := grown_thenB hgg hb3
    replace hup := hup.below hb3
    replace hown := own_below hown hb3 (Nat.le_refl _)
    clear hb3 hl3
    have hsz := hup.size
    refine EL.push way_elem rfl rfl hown (rd_blk (k := 1) (l := [.int .i64 ((k : Int) * P + y.fr), .int .i64 (k2 * (P : Int) + y.to), .int .i64 y.cost, .int .i64 y.room]) q3 rfl) (by intro u hu; simp only [List.mem_cons, List.not_mem_nil, or_false] at hu; rcases hu with rfl | rfl | rfl | rfl <;> rfl) (by omega) rfl hsz rfl ?_
    intro v2 wp ho2 hgr hb2 _
    replace hqP := blk_grown hqP hown rfl hgr
    replace hqn := blk_grown hqn hown rfl hgr
    replace hup := hup.grown hgr (fun g h => (hown.lt g h).1)
    have hg1 := grown_three hgg hgr
    clear hown hgr hb2 hgg
    obtain ⟨A2, c2, e2, _⟩ := (Rd.of_own ho2).shape
    subst e2
    refine EL.val (fa_25_1 rfl) rfl ?_
    refine EL.store rfl rfl hqn sz_23 rfl rfl rfl rfl ?_
    intro w4 hq4 hg4
    replace hqP := hqP.grown hg4 (fun h => n0_00 (Option.some.inj h))
    replace hup := hup.grown hg4 (fun g h => by injection h with h; subst h; exact hbg)
    have hg2_ := hg4
    replace ho2 := own_type ho2 hqn rfl hg4
    replace hqn := hq4
    clear hg4 hq4
    refine EL.nil ?_
    exact EX.done' (res0 rfl) ⟨rfl, _, _, hqn, hqP, by rw [waysC_app]; exact ho2, hup, hg1, hg2_⟩
end Go.Proofs.Ytabgmnmpdjnjoaa
set_option linter.unusedVariables false
set_option linter.unusedSimpArgs false
namespace Go.Proofs.Ytabgmnmpdjnjoaa
open Go Go.RowKit
section
variable {n : Nat} {σ : Sg} {w : World} {dst : Option Tmp} {ty : TypeId} {pos : String} {af : Array Edge} {g : Option (Nat × Bool)} {x y z : Operand} {at' : Array TypeId}
theorem bx_67 {v0 v1 v2 : Value} (hx : evS σ x = some (.agg #[v0, v1, v2])) (a : Act) (ha : Env n σ a) : (execOp a.eval ⟨dst, .box 67 x, ty, pos, af, g⟩).run Try.prog w = .ok (.value (.pointer (some ⟨w.heap.size, 0, none⟩))) (w.alloc (.cells #[v0, v1, v2] 67)) := by
  simp only [execOp, ha.eval hx]
  simp [go_sem]
theorem fa_67_2 {b o : Nat} (hx : evS σ x = some (.pointer (some ⟨b, o, none⟩))) : Gives Try.prog n σ w ⟨dst, .fieldAddr 67 x 2, ty, pos, af, g⟩ (.pointer (some ⟨b, o + 2, none⟩)) := fun a ha => by
  simp only [execOp, ha.eval hx]
  simp [go_sem]
theorem fa_67_0 {b o : Nat} (hx : evS σ x = some (.pointer (some ⟨b, o, none⟩))) : Gives Try.prog n σ w ⟨dst, .fieldAddr 67 x 0, ty, pos, af, g⟩ (.pointer (some ⟨b, o, none⟩)) := fun a ha => by
  simp only [execOp, ha.eval hx]
  simp [go_sem]
theorem ld_64 {b o : Nat} {v0 : Value} (hx : evS σ x = some (.pointer (some ⟨b, o, none⟩))) (c0 : w.cell? ⟨b, o, none⟩ = some v0) : Gives Try.prog n σ w ⟨dst, .load 64 x, ty, pos, af, g⟩ (v0) := fun a ha => by
  simp only [execOp, ha.eval hx]
  simp [go_sem, c0]
theorem mf_60_0_1 {x0 : Operand} {v0 : Value} (h0 : evS σ x0 = some v0) : Gives Try.prog n σ w ⟨dst, .makeFunc (.func 60) #[] #[x0], ty, pos, af, g⟩ (.func (.func 60) #[] #[v0]) := fun a ha => by
  simp only [execOp, List.map_toArray, List.map_cons, List.map_nil, ha.eval h0]
  simp [go_sem]
theorem cl_59 {x0 x1 : Operand} {v0 v1 : Value} (h0 : evS σ x0 = some v0) (h1 : evS σ x1 = some v1) (a : Act) (ha : Env n σ a) : (execOp a.eval ⟨dst, .call { callee := .value (.func 59), args := #[x0, x1], argTypes := at' }, ty, pos, af, g⟩).run Try.prog w = .ok (.enter 59 #[v0, v1]) w := by
  simp only [execOp, resolve, List.map_toArray, List.map_cons, List.map_nil, ha.eval h0, ha.eval h1]
  simp [go_sem, Act.eval]
theorem fa_67_1 {b o : Nat} (hx : evS σ x = some (.pointer (some ⟨b, o, none⟩))) : Gives Try.prog n σ w ⟨dst, .fieldAddr 67 x 1, ty, pos, af, g⟩ (.pointer (some ⟨b, o + 1, none⟩)) := fun a ha => by
  simp only [execOp, ha.eval hx]
  simp [go_sem]
theorem ld_65 {b o : Nat} {v0 : Value} (hx : evS σ x = some (.pointer (some ⟨b, o, none⟩))) (c0 : w.cell? ⟨b, o, none⟩ = some v0) : Gives Try.prog n σ w ⟨dst, .load 65 x, ty, pos, af, g⟩ (v0) := fun a ha => by
  simp only [execOp, ha.eval hx]
  simp [go_sem, c0]
theorem al_71 (a : Act) (_ : Env n σ a) : (execOp a.eval ⟨dst, .alloc 71, ty, pos, af, g⟩).run Try.prog w = .ok (.value (.pointer (some ⟨w.heap.size, 0, none⟩))) (w.alloc (.cells #[.int .i64 0, .int .i64 0, .int .i64 0, .int .i64 0, .int .i64 0] 71)) := by
  simp only [execOp]
  simp [go_sem]
theorem sz_71 : (Try.prog.info? 71).map (·.size) = some 5 := by kernel_rfl
theorem cl_61 {x0 : Operand} {v0 : Value} (h0 : evS σ x0 = some v0) (a : Act) (ha : Env n σ a) : (execOp a.eval ⟨dst, .call { callee := .value (.func 61), args := #[x0], argTypes := at' }, ty, pos, af, g⟩).run Try.prog w = .ok (.enter 61 #[v0]) w := by
  simp only [execOp, resolve, List.map_toArray, List.map_cons, List.map_nil, ha.eval h0]
  simp [go_sem, Act.eval]
theorem mf_63_0_1 {x0 : Operand} {v0 : Value} (h0 : evS σ x0 = some v0) : Gives Try.prog n σ w ⟨dst, .makeFunc (.func 63) #[] #[x0], ty, pos, af, g⟩ (.func (.func 63) #[] #[v0]) := fun a ha => by
  simp only [execOp, List.map_toArray, List.map_cons, List.map_nil, ha.eval h0]
  simp [go_sem]
theorem cl_62 {x0 x1 : Operand} {v0 v1 : Value} (h0 : evS σ x0 = some v0) (h1 : evS σ x1 = some v1) (a : Act) (ha : Env n σ a) : (execOp a.eval ⟨dst, .call { callee := .value (.func 62), args := #[x0, x1], argTypes := at' }, ty, pos, af, g⟩).run Try.prog w = .ok (.enter 62 #[v0, v1]) w := by
  simp only [execOp, resolve, List.map_toArray, List.map_cons, List.map_nil, ha.eval h0, ha.eval h1]
  simp [go_sem, Act.eval]
theorem mf_64_0_2 {x0 x1 : Operand} {v0 v1 : Value} (h0 : evS σ x0 = some v0) (h1 : evS σ x1 = some v1) : Gives Try.prog n σ w ⟨dst, .makeFunc (.func 64) #[] #[x0, x1], ty, pos, af, g⟩ (.func (.func 64) #[] #[v0, v1]) := fun a ha => by
  simp only [execOp, List.map_toArray, List.map_cons, List.map_nil, ha.eval h0, ha.eval h1]
  simp [go_sem]
theorem clv_64_0_3_2 {xf x0 x1 x2 : Operand} {v0 v1 v2 p0 p1 : Value} (hf : evS σ xf = some (.func (.func 64) #[] #[p0, p1])) (h0 : evS σ x0 = some v0) (h1 : evS σ x1 = some v1) (h2 : evS σ x2 = some v2) (a : Act) (ha : Env n σ a) : (execOp a.eval ⟨dst, .call { callee := .value xf, args := #[x0, x1, x2], argTypes := at' }, ty, pos, af, g⟩).run Try.prog w = .ok (.enter 64 #[v0, v1, v2, p0, p1]) w := by
  simp only [execOp, resolve, List.map_toArray, List.map_cons, List.map_nil, ha.eval hf, ha.eval h0, ha.eval h1, ha.eval h2]
  simp [go_sem, Deferred.ofValue]
end
end Go.Proofs.Ytabgmnmpdjnjoaa
