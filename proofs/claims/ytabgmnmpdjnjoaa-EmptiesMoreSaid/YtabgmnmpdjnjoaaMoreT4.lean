/- X12, EmRun, ExX13, X13, ExX14, X14, ELift, ExX15, X15, ExX16, X16, ExX17, EmDual, EmOpt, EmLeast, E19, X18, E20, EmFew, EmLk, ExX21, X22: what EmptiesMoreProof needs of them (merged by trimpack.py). -/
import Derived.Test.YtabgmnmpdjnjoaaMoreT3
set_option linter.unusedVariables false
set_option linter.unusedSimpArgs false
namespace Go.Proofs.Ytabgmnmpdjnjoaa
open Go Go.RowKit
theorem run_eqlS {P : Program} {w : World} {t e : TypeId} {b o m c : Nat} (ht : P.underlying t = some (.slice e)) : (binOp .eql t (.slice (some ⟨b, o, none⟩) m c) (.slice none 0 0)).run P w = .ok (.bool false) w := by
  have h : ∀ d : Nat, (Op.equalIn (d + 1) t (.slice (some ⟨b, o, none⟩) m c) (.slice none 0 0)).run P w = .ok false w := fun d => by
    simp [Op.equalIn, run_underlying ht]
  simp only [binOp]
  simp [Op.equal, Op.maxDepth, h 9999]
theorem x_eqlS {P : Program} {n : Nat} {σ : Sg} {w : World} {dst : Option Tmp} {ty t t' e : TypeId} {pos : String} {af : Array Edge} {g : Option (Nat × Bool)} {x y : Operand} {b o m c : Nat} (ht : P.underlying t = some (.slice e)) (hx : evS σ x = some (.slice (some ⟨b, o, none⟩) m c)) (hy : evS σ y = some (.slice none 0 0)) : Gives P n σ w ⟨dst, .binOp .eql t x y t', ty, pos, af, g⟩ (.bool false) := fun a ha => by
  simp only [execOp, ha.eval hx, ha.eval hy]
  simp [run_eqlS ht, Result.andThen, eqGuard, ha.eval hx, ha.eval hy]
theorem EL.copy {P : Program} {n : Nat} {L : List Oper} {Q : Exit → Act → World → Prop} {rest : List Oper} {σ : Sg} {w : World} {d ty t e size bytes base B mm g : Nat} {s x : Operand} {pos : String} {af : Array Edge} (E : Elem P t e size bytes) {src : Value} {news : List Value} (hs : evS σ s = some (.slice (some ⟨g, 0, none⟩) 0 0)) (hx : evS σ x = some src)
    (hq : Blk w g e #[]) (hg : base ≤ g) (hr : Rd w B size src mm news) (h1 : ∀ u ∈ news, u.oneCell' = true) (hm : mm ≤ 1048576) (hby : bytes ≤ 1048576) (hbase : base ≤ w.heap.size) (hd : Nat.blt d n = true)
    (next : ∀ v' w', w'.ownsRow base e size v' mm news → Below w.heap.size w w' → EL P n L Q rest (ins σ d v') w') : EL P n L Q (⟨some d, .call { callee := .builtin .append, args := #[s, x], argTypes := #[t, t] }, ty, pos, af, none⟩ :: rest) σ w := fun a ha => by
  obtain ⟨v', w', h2, h3, h4⟩ := run_copy (P := P) (ty := ty) E hq hg hr h1 hm hby hbase
  exact wpL_run (wanted_none rfl _) (run_append_call rfl (ha.eval hs) (ha.eval hx) h2) (next v' w' h3 h4 _ (ha.put hd _))
theorem clone_any (l : List Prt) (v : Value) (w : World) (B : Nat) (hr : Rd w B 2 v l.length (prtsC l)) (hB : B ≤ w.heap.size) (h0 : 0 < l.length) (hn : l.length ≤ 1048576) :
    Calls Try.prog 53 #[v] w fun e w' => (∃ v', e = .returned v' ∧ w'.ownsRow w.heap.size 47 2 v' l.length (prtsC l)) ∧ Below w.heap.size w w' := by
  obtain ⟨A, c, rfl, _⟩ := hr.shape
  obtain ⟨b0, o0, e0_, _⟩ := prts_cells l 0 h0 _ _ _ _ _ hr
  subst e0_
  have hbw := Below.refl w.heap.size w
  refine EC.enter 8 Try.func53 rfl rfl rfl ?_
  refine EC.seq ?_
  refine EC.region ?_
  refine EL.val (x_assign rfl) rfl ?_
  refine EL.nil ?_
  refine EX.seq ?_
  refine EC.seq ?_
  refine EC.seq ?_
  refine EC.region ?_
  refine EL.val (x_move rfl) rfl ?_
  refine EL.val (x_eqlS Try.underlying22 rfl rfl) rfl ?_
  refine EL.nil ?_
  refine EX.seq ?_
  refine EC.no rfl ?_
  refine EC.skip ?_
  refine EX.seq ?_
  refine EC.seq ?_
  refine EC.region ?_
  have hsz := hbw.size
  refine EL.newS bs_22_0 rfl ?_
  intro g1 w1 q1 hb1 hg1 hl1
  have bhbw_1 := Nat.le_trans hbw.size hg1
  replace hbw := Below.on hbw hb1 hbw.size
  clear hb1 hl1
  have hsz2 := hbw.size
  refine EL.val (x_move rfl) rfl ?_
  refine EL.copy prt_elem rfl rfl (base := w.heap.size) q1 (Nat.le_trans hsz hg1) (hr.below (hbw.mono hB)) (prtsC_one l) (by omega) (by omega) hbw.size rfl ?_
  intro v2 w2 ho hb2
  replace hbw := Below.on hbw hb2 hbw.size
  clear hb2
  refine EL.val (x_assign rfl) rfl ?_
  refine EL.nil ?_
  refine EX.seq ?_
  refine EC.ret ?_
  exact EX.done (res1 rfl rfl) ⟨⟨_, rfl, ho⟩, hbw⟩
theorem prts_cut (l r : List Prt) (c : Prt) (x : Int) : spl (prtsC (l ++ c :: r)) (0 + l.length * 2) [.int .i64 x] = prtsC (l ++ ⟨x, c.wants⟩ :: r) := by
  have e : ∀ (xs ys : List Value) (n : Nat), n = xs.length → spl (xs ++ ys) n [.int .i64 x] = xs ++ spl ys 0 [.int .i64 x] := by
    intro xs
    induction xs with
    | nil => intro ys n hn; subst hn; rfl
    | cons u xs ih =>
      intro ys n hn
      obtain rfl : n = xs.length + 1 := hn
      show u :: spl (xs ++ ys) xs.length _ = _
      rw [ih ys xs.length rfl]
      rfl
  rw [prtsC_app, prtsC_app, Nat.zero_add, e _ _ _ (by rw [prtsC_len])]
  congr 1
theorem spl_prts {l : List Prt} {k : Nat} (h : k < l.length) : spl (prtsC l) (0 + k * 2) [.int .i64 ((l.getD k prt0).has + 1)] = prtsC (l.set k (moreP (l.getD k prt0))) := by
  have hL : l = l.take k ++ l.getD k prt0 :: l.drop (k + 1) := by
    rw [show l.getD k prt0 = l[k] by simp [List.getD, h], ← List.drop_eq_getElem_cons h, List.take_append_drop]
  have hl : (l.take k).length = k := by rw [List.length_take]; omega
  have key := prts_cut (l.take k) (l.drop (k + 1)) (l.getD k prt0) ((l.getD k prt0).has + 1)
  rw [hl, ← hL] at key
  rw [key, List.set_eq_take_append_cons_drop, if_pos h, moreP]
set_option maxHeartbeats 1000000 in
theorem more_any (nt : Net) (port : Int) (vp vw : Value) (w : World) (B : Nat) (hr : RdNet w B vp vw nt) (hB : B ≤ w.heap.size) (hn1 : nt.ports.length ≤ 1073741824) (hn2 : nt.ways.length ≤ 1073741824) :
    Calls Try.prog 26 #[.agg #[vp, vw], .int .i64 port] w fun e w' => (∃ m err, e = .returned (.tuple #[.int .i64 m, .int .i64 err]) ∧ MoreR nt port m err) ∧ Below w.heap.size w w' := by
  obtain ⟨Ap, cp_, rfl, _⟩ := hr.ports.shape
  obtain ⟨Aw, cw_, rfl, _⟩ := hr.ways.shape
  have hbw := Below.refl w.heap.size w
  refine EC.enter 67 Try.func26 rfl rfl rfl ?_
  refine EC.seq ?_
  refine EC.region ?_
  refine EL.newP (bx_25 rfl) rfl ?_
  intro g1 w1 q1 hb1 hg1 hl1
  have bhbw_1 := Nat.le_trans hbw.size hg1
  replace hbw := Below.on hbw hb1 hbw.size
  clear hb1 hg1 hl1
  refine EL.val (x_assign rfl) rfl ?_
  refine EL.val (x_assign rfl) rfl ?_
  refine EL.nil ?_
  refine EX.seq ?_
  refine EC.seq ?_
  refine EC.block ?_
  refine EC.seq ?_
  refine EC.region ?_
  refine EL.val (ld_25 rfl (q1.at (j := 0) rfl) (q1.at (j := 1) rfl)) rfl ?_
  by_cases hv : netB nt = true
  ·
    obtain ⟨⟨hp1, hp60⟩, hw300, hvp, hvw⟩ := netB_ok hv
    refine EL.call (cl_27 rfl) rfl (check_to (e0 := 0) (by rw [netE, if_pos hv]) _ _ _ B (hr.below (hbw.mono hB)) (Nat.le_trans hB hbw.size) hn1 hn2) ?_
    rintro e w2 ⟨rfl, hc2⟩
    refine ⟨_, rfl, ?_⟩
    replace q1 := q1.below hc2 q1.lt
    replace hbw := Below.on hbw hc2 hbw.size
    clear hc2
    refine EL.val (x_neq (r := false) rfl rfl (by decide)) rfl ?_
    refine EL.val (x_assign rfl) rfl ?_
    refine EL.nil ?_
    refine EX.seq ?_
    refine EC.no rfl ?_
    refine EC.seq ?_
    refine EC.region ?_
    refine EL.val (fa_25_0 rfl) rfl ?_
    refine EL.val (ld_22 rfl (q1.at (j := 0) rfl)) rfl ?_
    refine EL.val (ln_22 rfl) rfl ?_
    refine EL.val (x_sub rfl rfl (c := ((nt.ports.length : Nat) : Int) - 1) (IntWalk.i64_in _ ⟨by omega, by omega⟩)) rfl ?_
    refine EL.val (x_move rfl) rfl ?_
    refine EL.newS (bs_29_1 rfl) rfl ?_
    intro g3 w3 q3 hb3 hg3 hl3
    have n1_3 : g1 ≠ g3 := Nat.ne_of_lt (Nat.lt_of_lt_of_le q1.lt hg3)
    have bhbw_3 := Nat.le_trans hbw.size hg3
    replace q1 := q1.below hb3 q1.lt
    replace hbw := Below.on hbw hb3 hbw.size
    clear hb3 hg3 hl3
    cases hin : inB 0 (((nt.ports.length : Nat) : Int) - 1) port
    ·
      have hpn : ¬(0 ≤ port ∧ port < nt.ports.length) := fun h => by rw [inB_iff.2 ⟨h.1, by omega⟩] at hin; cases hin
      refine EL.call (cl_52 rfl rfl rfl) rfl (within_1 (b := false) q3 hin) ?_
      rintro e w4 ⟨rfl, hc4⟩
      refine ⟨_, rfl, ?_⟩
      replace q1 := q1.below hc4 q1.lt
      replace q3 := q3.below hc4 q3.lt
      replace hbw := Below.on hbw hc4 hbw.size
      clear hc4
      refine EL.val (x_not rfl) rfl ?_
      refine EL.val (x_assign rfl) rfl ?_
      refine EL.nil ?_
      refine EX.seq ?_
      refine EC.yes rfl ?_
      refine EC.seq ?_
      refine EC.region ?_
      refine EL.val (x_assign rfl) rfl ?_
      refine EL.val (x_assign rfl) rfl ?_
      refine EL.nil ?_
      refine EX.seq ?_
      refine EC.ret ?_
      refine EX.blk_ret ?_
      refine EX.seq_ret ?_
      exact EX.done (res2 rfl rfl rfl) ⟨⟨_, _, rfl, .inr ⟨hv, .inl ⟨hpn, rfl, rfl⟩⟩⟩, hbw⟩
    ·
      have hpp := inB_iff.1 hin
      obtain ⟨k, rfl⟩ : ∃ k : Nat, port = ((k : Nat) : Int) := ⟨port.toNat, by omega⟩
      have hk : k < nt.ports.length := by omega
      have hpp2 : (0 : Int) ≤ ((k : Nat) : Int) ∧ ((k : Nat) : Int) < nt.ports.length := ⟨by omega, by omega⟩
      obtain ⟨bp, op, e_, _, pc0, pc1⟩ := prts_cells nt.ports k hk _ _ _ _ _ hr.ports
      subst e_
      obtain ⟨⟨ph0, ph1⟩, pw0, pw1⟩ := hvp k hk
      have hKN : (((k : Nat) : Int)).toNat = k := Int.toNat_natCast k
      refine EL.call (cl_52 rfl rfl rfl) rfl (within_1 (b := true) q3 hin) ?_
      rintro e w5 ⟨rfl, hc5⟩
      refine ⟨_, rfl, ?_⟩
      replace q1 := q1.below hc5 q1.lt
      replace hbw := Below.on hbw hc5 hbw.size
      clear hc5
      refine EL.val (x_not rfl) rfl ?_
      refine EL.val (x_assign rfl) rfl ?_
      refine EL.nil ?_
      refine EX.seq ?_
      refine EC.no rfl ?_
      refine EC.seq ?_
      refine EC.region ?_
      refine EL.val (fa_25_0 rfl) rfl ?_
      refine EL.val (ld_22 rfl (q1.at (j := 0) rfl)) rfl ?_
      refine EL.val (x_move rfl) rfl ?_
      refine EL.val (ix_22 rfl rfl hk) rfl ?_
      refine EL.val (fa_47_0 rfl) rfl ?_
      refine EL.val (ld_3 rfl (below_load hbw pc0)) rfl ?_
      by_cases hfu : (nt.ports.getD k prt0).has = 1000
      ·
        refine EL.val (x_eql (r := true) rfl rfl (decide_eq_true hfu)) rfl ?_
        refine EL.val (x_assign rfl) rfl ?_
        refine EL.nil ?_
        refine EX.seq ?_
        refine EC.yes rfl ?_
        refine EC.seq ?_
        refine EC.region ?_
        refine EL.val (x_assign rfl) rfl ?_
        refine EL.val (x_assign rfl) rfl ?_
        refine EL.nil ?_
        refine EX.seq ?_
        refine EC.ret ?_
        refine EX.blk_ret ?_
        refine EX.seq_ret ?_
        exact EX.done (res2 rfl rfl rfl) ⟨⟨_, _, rfl, .inr ⟨hv, .inr ⟨hpp2, .inl ⟨by rw [hKN]; exact hfu, rfl, rfl⟩⟩⟩⟩, hbw⟩
      ·
        refine EL.val (x_eql (r := false) rfl rfl (decide_eq_false hfu)) rfl ?_
        refine EL.val (x_assign rfl) rfl ?_
        refine EL.nil ?_
        refine EX.seq ?_
        refine EC.no rfl ?_
        refine EC.skip ?_
        refine EX.blk ?_
        refine EX.seq ?_
        refine EC.seq ?_
        refine EC.region ?_
        refine EL.val (ld_25 rfl (q1.at (j := 0) rfl) (q1.at (j := 1) rfl)) rfl ?_
        refine EL.call (cl_15 rfl) rfl (move_any nt _ _ _ B (hr.below (hbw.mono hB)) (Nat.le_trans hB hbw.size) hn1 hn2) ?_
        rintro e w6 ⟨⟨vm1, vr1, ml1, c1, pr1, e1, rfl, hm1, _, _⟩, hc6⟩
        refine ⟨_, rfl, ?_⟩
        replace q1 := q1.below hc6 q1.lt
        replace hbw := Below.on hbw hc6 hbw.size
        clear hc6
        refine EL.val (x_move rfl) rfl ?_
        refine EL.val (x_extract rfl rfl) rfl ?_
        refine EL.val (x_extract rfl rfl) rfl ?_
        refine EL.val (x_extract rfl rfl) rfl ?_
        refine EL.val (x_extract rfl rfl) rfl ?_
        refine EL.val (x_assign rfl) rfl ?_
        refine EL.val (x_assign rfl) rfl ?_
        refine EL.val (x_assign rfl) rfl ?_
        refine EL.val (x_assign rfl) rfl ?_
        refine EL.nil ?_
        refine EX.seq ?_
        refine EC.seq ?_
        refine EC.seq ?_
        refine EC.region ?_
        refine EL.val (x_move rfl) rfl ?_
        by_cases he0 : e1 = 0
        ·
          refine EL.val (x_neq (r := false) rfl rfl (decide_eq_false (by rw [he0]; exact fun h => h rfl))) rfl ?_
          refine EL.nil ?_
          refine EX.seq ?_
          refine EC.no rfl ?_
          refine EC.skip ?_
          refine EX.seq ?_
          refine EC.seq ?_
          refine EC.region ?_
          refine EL.val (fa_25_0 rfl) rfl ?_
          refine EL.val (ld_22 rfl (q1.at (j := 0) rfl)) rfl ?_
          refine EL.call (cl_53 rfl) rfl (clone_any nt.ports _ _ B (hr.below (hbw.mono hB)).ports (Nat.le_trans hB hbw.size) hp1 (by omega)) ?_
          rintro e w7 ⟨⟨vcl, rfl, hcl⟩, hc7⟩
          refine ⟨_, rfl, ?_⟩
          replace hcl := own_less hcl hbw.size
          replace q1 := q1.below hc7 q1.lt
          replace hbw := Below.on hbw hc7 hbw.size
          clear hc7
          obtain ⟨Ac, cc_, rfl, _⟩ := (Rd.of_own hcl).shape
          obtain ⟨gc, rfl⟩ := own_slice hcl hp1
          refine EL.val (fa_25_0 rfl) rfl ?_
          refine EL.store rfl rfl q1 sz_22 rfl rfl rfl rfl ?_
          intro w8 hq8 hg8
          replace hcl := own_type hcl q1 rfl hg8
          replace hbw := below_store hbw hg8 bhbw_1
          replace q1 := hq8
          clear hg8 hq8
          refine EL.nil ?_
          refine EX.seq ?_
          refine EC.seq ?_
          refine EC.region ?_
          refine EL.val (fa_25_0 rfl) rfl ?_
          refine EL.val (ld_22 rfl (q1.at (j := 0) rfl)) rfl ?_
          refine EL.val (x_move rfl) rfl ?_
          refine EL.val (ix_22 rfl rfl hk) rfl ?_
          refine EL.val (fa_47_0 rfl) rfl ?_
          obtain ⟨bq, oq, e2_, _, qc0, _⟩ := prts_cells nt.ports k hk _ _ _ _ _ (Rd.of_own hcl)
          injection e2_ with e2_
          injection e2_ with e3_ e4_
          subst e3_
          subst e4_
          refine EL.val (ld_3 rfl qc0) rfl ?_
          refine EL.val (x_add rfl rfl (c := (nt.ports.getD k prt0).has + 1) (IntWalk.i64_in _ ⟨by omega, by omega⟩)) rfl ?_
          refine EL.val (ix_22 rfl rfl hk) rfl ?_
          refine EL.val (fa_47_0 rfl) rfl ?_
          refine EL.storeRow (l' := [.int .i64 ((nt.ports.getD k prt0).has + 1)]) rfl rfl hcl sz_3 rfl rfl (by rw [prtsC_len]; omega) rfl ?_
          intro w9 hcl2 hgr
          rw [spl_prts hk] at hcl2
          replace q1 := blk_grown q1 hcl rfl hgr
          replace hbw := hbw.trans (below_row hcl hgr hbw.size)
          clear hcl hgr
          have hcl : World.ownsRow w9 w.heap.size 47 2 (.slice (some ⟨gc, 0, none⟩) nt.ports.length cc_) (moreN nt k).ports.length (prtsC (moreN nt k).ports) := own_n hcl2 (by show _ = (nt.ports.set _ _).length; rw [List.length_set])
          clear hcl2
          refine EL.nil ?_
          refine EX.seq ?_
          refine EC.seq ?_
          refine EC.region ?_
          refine EL.val (ld_25 rfl (q1.at (j := 0) rfl) (q1.at (j := 1) rfl)) rfl ?_
          have hrn : RdNet w9 w9.heap.size (.slice (some ⟨gc, 0, none⟩) nt.ports.length cc_) (.slice Aw nt.ways.length cw_) (moreN nt k) := ⟨Rd.of_own hcl, (hr.ways.below (hbw.mono hB)).more (Nat.le_trans hB hbw.size)⟩
          refine EL.call (cl_15 rfl) rfl (move_any (moreN nt k) _ _ _ _ hrn (Nat.le_refl _) (by show (nt.ports.set _ _).length ≤ _; rw [List.length_set]; exact hn1) hn2) ?_
          rintro e w10 ⟨⟨vm2, vr2, ml2, c2, pr2, e2, rfl, hm2, _, _⟩, hc10⟩
          have hbd1 := move_bd hm1
          have hbd2 := move_bd hm2
          refine ⟨_, rfl, ?_⟩
          replace q1 := q1.below hc10 q1.lt
          replace hcl := own_below hcl hc10 (Nat.le_refl _)
          replace hbw := Below.on hbw hc10 hbw.size
          clear hc10
          refine EL.val (x_move rfl) rfl ?_
          refine EL.val (x_extract rfl rfl) rfl ?_
          refine EL.val (x_extract rfl rfl) rfl ?_
          refine EL.val (x_extract rfl rfl) rfl ?_
          refine EL.val (x_extract rfl rfl) rfl ?_
          refine EL.val (x_assign rfl) rfl ?_
          refine EL.val (x_assign rfl) rfl ?_
          refine EL.val (x_assign rfl) rfl ?_
          refine EL.val (x_assign rfl) rfl ?_
          refine EL.nil ?_
          refine EX.seq ?_
          refine EC.seq ?_
          refine EC.region ?_
          refine EL.val (x_move rfl) rfl ?_
          refine EL.val (x_move rfl) rfl ?_
          refine EL.val (x_sub rfl rfl (c := c1 - c2) (IntWalk.i64_in _ ⟨by omega, by omega⟩)) rfl ?_
          refine EL.val (x_assign rfl) rfl ?_
          refine EL.val (x_assign rfl) rfl ?_
          refine EL.nil ?_
          refine EX.seq ?_
          refine EC.ret ?_
          exact EX.done (res2 rfl rfl rfl) ⟨⟨_, _, rfl, .inr ⟨hv, .inr ⟨hpp2, .inr ⟨by rw [hKN]; exact hfu, _, _, _, _, hm1, .inr ⟨he0, rfl, _, _, _, _, by rw [hKN]; exact hm2, rfl⟩⟩⟩⟩⟩, hbw⟩
        ·
          refine EL.val (x_neq (r := true) rfl rfl (decide_eq_true he0)) rfl ?_
          refine EL.nil ?_
          refine EX.seq ?_
          refine EC.yes rfl ?_
          refine EC.seq ?_
          refine EC.region ?_
          refine EL.val (x_assign rfl) rfl ?_
          refine EL.val (x_assign rfl) rfl ?_
          refine EL.nil ?_
          refine EX.seq ?_
          refine EC.ret ?_
          refine EX.seq_ret ?_
          exact EX.done (res2 rfl rfl rfl) ⟨⟨_, _, rfl, .inr ⟨hv, .inr ⟨hpp2, .inr ⟨by rw [hKN]; exact hfu, _, _, _, _, hm1, .inl ⟨he0, rfl, rfl⟩⟩⟩⟩⟩, hbw⟩
  ·
    have hvf : netB nt = false := by simpa using hv
    refine EL.call (cl_27 rfl) rfl (check_to (e0 := 2) (by rw [netE, if_neg hv]) _ _ _ B (hr.below (hbw.mono hB)) (Nat.le_trans hB hbw.size) hn1 hn2) ?_
    rintro e w11 ⟨rfl, hc11⟩
    refine ⟨_, rfl, ?_⟩
    replace q1 := q1.below hc11 q1.lt
    replace hbw := Below.on hbw hc11 hbw.size
    clear hc11
    refine EL.val (x_neq (r := true) rfl rfl (by decide)) rfl ?_
    refine EL.val (x_assign rfl) rfl ?_
    refine EL.nil ?_
    refine EX.seq ?_
    refine EC.yes rfl ?_
    refine EC.seq ?_
    refine EC.region ?_
    refine EL.val (x_assign rfl) rfl ?_
    refine EL.val (x_assign rfl) rfl ?_
    refine EL.nil ?_
    refine EX.seq ?_
    refine EC.ret ?_
    refine EX.blk_ret ?_
    refine EX.seq_ret ?_
    exact EX.done (res2 rfl rfl rfl) ⟨⟨_, _, rfl, .inl ⟨hvf, rfl, rfl⟩⟩, hbw⟩
end Go.Proofs.Ytabgmnmpdjnjoaa
set_option linter.unusedVariables false
set_option linter.unusedSimpArgs false
namespace Go.Proofs.Ytabgmnmpdjnjoaa
def fixedB (L : List Arc) (s : BF) : Bool := (List.range L.length).all fun i => !relaxes (arcAt L i) s.l
def bfRun (L : List Arc) (s : BF) : Nat → Option BF
  | 0 => none
  | f + 1 => if fixedB L s = true then some s else bfRun L (bfRound L s) f
theorem bfN_round (L : List Arc) (s : BF) : ∀ k, bfN L (bfRound L s) k = bfN L s (k + 1)
  | 0 => rfl
  | k + 1 => by rw [bfN, bfN_round L s k]; rfl
theorem bfRun_ok {L : List Arc} : ∀ {f : Nat} {s r : BF}, bfRun L s f = some r → EndsAt L s r.l r.by_
  | 0, s, r, h => by cases h
  | f + 1, s, r, h => by
    unfold bfRun at h
    split at h
    · rename_i hf
      injection h with h
      subst h
      exact ⟨0, fun i hi => by
        have := List.all_eq_true.1 hf i (List.mem_range.2 hi)
        show relaxes (arcAt L i) s.l = false
        simpa using this, rfl, rfl⟩
    · obtain ⟨k, h1, h2, h3⟩ := bfRun_ok h
      rw [bfN_round] at h1 h2 h3
      exact ⟨k + 1, h1, h2, h3⟩
def upRun (L : List Arc) (b : List Int) : Nat → Nat → Option Nat
  | 0, _ => none
  | f + 1, v => if b.getD v 0 = -1 then some 0 else if 0 ≤ b.getD v 0 then (upRun L b f (arcAt L (b.getD v 0).toNat).fr).map (· + 1) else none
theorem upRun_ok {L : List Arc} {b : List Int} : ∀ {f v k : Nat}, upRun L b f v = some k → Up L b v k
  | 0, v, k, h => by cases h
  | f + 1, v, k, h => by
    unfold upRun at h
    split at h
    · rename_i hb
      injection h with h
      subst h
      exact .root hb
    · split at h
      · rename_i hb
        cases e : upRun L b f (arcAt L (b.getD v 0).toNat).fr with
        | none => rw [e] at h; cases h
        | some j =>
          rw [e] at h
          injection h with h
          subst h
          exact .step (i := (b.getD v 0).toNat) (by omega) (upRun_ok e)
      · cases h
def fillRun (nt : Net) : Nat → List Arc → Option (List Arc)
  | 0, _ => none
  | f + 1, L => match bfRun L (bf0 (nt.ports.length + 2) (initS nt)) 64 with
    | none => none
    | some s => if s.by_.getD (nt.ports.length + 1) 0 < 0 then some L else match upRun L s.by_ 64 (nt.ports.length + 1) with
      | none => none
      | some k => fillRun nt f (augL L (chainL L s.by_ k (nt.ports.length + 1)))
theorem fillRun_ok {nt : Net} : ∀ {f : Nat} {L L' : List Arc}, fillRun nt f L = some L' → FillTo nt L L'
  | 0, L, L', h => by cases h
  | f + 1, L, L', h => by
    unfold fillRun at h
    split at h
    · cases h
    · rename_i s hs
      split at h
      · rename_i hb
        injection h with h
        subst h
        exact .stop (bfRun_ok hs) hb
      · rename_i hb
        split at h
        · cases h
        · rename_i k hk
          exact .step (bfRun_ok hs) (by omega) (upRun_ok hk) (fillRun_ok h)
theorem FillTo.st {nt : Net} (hv : netB nt = true) {L L' : List Arc} (h : FillTo nt L L') : St nt L → St nt L' := by
  induction h with
  | stop _ _ => exact id
  | step hE hb hk _ ih =>
    intro hst
    obtain ⟨k', hk', _, hpos, _⟩ := hst.way hv hE hb
    have e := hk'.one hk
    subst e
    exact ih (hst.aug hv hE hb hk (fun a ha => (hpos a ha).1)).1
def pricesRun (nt : Net) (L : List Arc) : Option (List Int) :=
  match bfRun L (bf0 (nt.ports.length + 2) (initS nt)) 64 with
  | none => none
  | some s => match bfRun L (bf0 (nt.ports.length + 2) (initB nt s.l)) 64 with
    | none => none
    | some r => some (pricesL nt s.l r.l)
theorem pricesRun_ok {nt : Net} {L : List Arc} {pr : List Int} (h : pricesRun nt L = some pr) : PricesOf nt L pr := by
  unfold pricesRun at h
  split at h
  · cases h
  · rename_i s hs
    split at h
    · cases h
    · rename_i r hr
      injection h with h
      subst h
      exact ⟨_, _, _, bfRun_ok hs, fun _ => ⟨_, bfRun_ok hr⟩, rfl⟩
def moveRun (nt : Net) (f : Nat) : Option (List Int × Int × List Int × Int) :=
  if netB nt = true then match fillRun nt f (openL nt) with
    | none => none
    | some L => if fullB nt L = true then (pricesRun nt L).map fun pr => (movesL L nt.ways.length, costTo nt (movesL L nt.ways.length) nt.ways.length, pr, 0) else some ([], 0, [], 7)
  else none
theorem moveRun_ok {nt : Net} {f : Nat} {ml pr : List Int} {c e : Int} (h : moveRun nt f = some (ml, c, pr, e)) : MoveR nt ml c pr e := by
  unfold moveRun at h
  split at h
  · rename_i hv
    split at h
    · cases h
    · rename_i L hL
      have hf := fillRun_ok hL
      have hst := hf.st hv (open_st hv)
      split at h
      · rename_i hfu
        cases hp : pricesRun nt L with
        | none => rw [hp] at h; cases h
        | some p =>
          rw [hp] at h
          injection h with h
          injection h with h1 h
          injection h with h2 h
          injection h with h3 h4
          subst h1 h2 h3 h4
          exact .inr ⟨hv, L, hf, hst, .inr ⟨hfu, rfl, rfl, rfl, pricesRun_ok hp⟩⟩
      · rename_i hfu
        injection h with h
        injection h with h1 h
        injection h with h2 h
        injection h with h3 h4
        subst h1 h2 h3 h4
        exact .inr ⟨hv, L, hf, hst, .inl ⟨by simpa using hfu, rfl, rfl, rfl, rfl⟩⟩
  · cases h
/-! ### The document's example -/
def net3 : Net := ⟨[⟨5, 0⟩, ⟨2, 1⟩, ⟨0, 4⟩], [⟨0, 1, 100, 3⟩, ⟨1, 2, 50, 9⟩, ⟨0, 2, 200, 9⟩]⟩
def net8 : Net := ⟨[⟨5, 0⟩, ⟨2, 1⟩, ⟨0, 8⟩], [⟨0, 1, 100, 3⟩, ⟨1, 2, 50, 9⟩, ⟨0, 2, 200, 9⟩]⟩
def lkRun (L : List Arc) (s : Nat) : Nat → List Nat
  | 0 => [s]
  | f + 1 => lkRun L s f ++ ((List.range L.length).filter fun i => decide (0 < (arcAt L i).room) && (lkRun L s f).contains (arcAt L i).to).map fun i => (arcAt L i).fr
theorem lkRun_ok {L : List Arc} {s : Nat} : ∀ {f v : Nat}, v ∈ lkRun L s f → Lk L s v
  | 0, v, h => by rw [List.mem_singleton.1 h]; exact .base
  | f + 1, v, h => by
    rcases List.mem_append.1 h with h | h
    · exact lkRun_ok h
    · obtain ⟨i, hi, rfl⟩ := List.mem_map.1 h
      have hi := List.mem_filter.1 hi
      have h2 := hi.2
      rw [Bool.and_eq_true, decide_eq_true_eq, List.contains_iff_mem] at h2
      exact .step (List.mem_range.1 hi.1) h2.1 (lkRun_ok h2.2)
theorem known_move {ml pr : List Int} {c e : Int} (h : MoveR net3 ml c pr e) : ml = [3, 4, 0] ∧ c = 500 ∧ pr = [0, 150, 200] ∧ e = 0 := h.one (moveRun_ok (f := 30) (by decide +kernel))
theorem known_bound : bndE net3 [0, 150, 200] = 0 ∧ bndV net3 [0, 150, 200] = 500 := by decide +kernel
theorem known_more {m e : Int} (h : MoreR net3 1 m e) : m = 100 ∧ e = 0 :=
  h.one (.inr ⟨by decide +kernel, .inr ⟨by decide +kernel, .inr ⟨by decide +kernel, [3, 4, 0], 500, [0, 150, 200], 0, moveRun_ok (f := 30) (by decide +kernel), .inr ⟨rfl, rfl, [2, 4, 0], 400, [0, 100, 150], 0, moveRun_ok (f := 30) (by decide +kernel), rfl⟩⟩⟩⟩)
def arcs8 : List Arc := (fillRun net8 30 (openL net8)).getD []
theorem known_lacks {ls : List Int} {lack e : Int} (h : LacksR net8 ls lack e) : ls.length = 3 ∧ lack = 2 ∧ e = 0 := by
  have hf : FillTo net8 (openL net8) arcs8 := by
    have h1 : (fillRun net8 30 (openL net8)).isSome = true := by decide +kernel
    obtain ⟨L, hL⟩ := Option.isSome_iff_exists.1 h1
    have h2 : arcs8 = L := by unfold arcs8; rw [hL]; rfl
    rw [h2]
    exact fillRun_ok hL
  rcases h with ⟨h1, _⟩ | ⟨_, he, L, f, hfl, _, hlk, hls, hla⟩
  · have h2 : netB net8 = true := by decide +kernel
    rw [h1] at h2
    cases h2
  · have e1 := hfl.one hf
    rw [e1] at hlk
    clear e1 hfl hf
    have g : ∀ v, (lkRun arcs8 4 4).contains v = true → f v = true := fun v hv => (hlk v).2 (lkRun_ok (f := 4) (List.contains_iff_mem.1 hv))
    have h0 := g 0 (by decide +kernel)
    have h1 := g 1 (by decide +kernel)
    have h2 := g 2 (by decide +kernel)
    have hl : lackL f 3 = [0, 1, 2] := by
      unfold lackL
      simp [List.range_succ, h0, h1, h2]
    have hls : ls = lackL f 3 := hls
    have hla : lack = lk2 net8 f 3 := hla
    rw [hl] at hls
    refine ⟨by rw [hls]; rfl, ?_, he⟩
    rw [hla]
    have hk : ∀ i, i < 3 → lkB net8 f i = false := fun i hi => by
      have : i = 0 ∨ i = 1 ∨ i = 2 := by omega
      rcases this with rfl | rfl | rfl
      · show (f 1 && !f 0) = false; rw [h0, h1]; rfl
      · show (f 2 && !f 1) = false; rw [h1, h2]; rfl
      · show (f 2 && !f 0) = false; rw [h0, h2]; rfl
    have hP : net8.ports.length = 3 := rfl
    have e0 : lk2 net8 f 0 = lk1 net8 (lackL f net8.ports.length) (lackL f net8.ports.length).length := rfl
    rw [hP, hl] at e0
    have st : ∀ k, k < 3 → lk2 net8 f (k + 1) = lk2 net8 f k := fun k hk2 => by
      have : lk2 net8 f (k + 1) = if lkB net8 f k = true then lk2 net8 f k - (net8.ways.getD k way0).room else lk2 net8 f k := rfl
      rw [this, hk k hk2]
      rfl
    rw [st 2 (by omega), st 1 (by omega), st 0 (by omega), e0]
    decide +kernel
end Go.Proofs.Ytabgmnmpdjnjoaa
set_option linter.unusedVariables false
set_option linter.unusedSimpArgs false
namespace Go.Proofs.Ytabgmnmpdjnjoaa
open Go Go.RowKit
section
variable {n : Nat} {σ : Sg} {w : World} {dst : Option Tmp} {ty : TypeId} {pos : String} {af : Array Edge} {g : Option (Nat × Bool)} {x y z : Operand} {at' : Array TypeId}
theorem bs_29_0 (a : Act) (_ : Env n σ a) : (execOp a.eval ⟨dst, .buildSlice 29 0 #[], ty, pos, af, g⟩).run Try.prog w = .ok (.value (.slice (some ⟨w.heap.size, 0, none⟩) 0 0)) (w.alloc (.cells #[] 3)) := by
  simp only [execOp]
  go_simp
theorem al_25 (a : Act) (_ : Env n σ a) : (execOp a.eval ⟨dst, .alloc 25, ty, pos, af, g⟩).run Try.prog w = .ok (.value (.pointer (some ⟨w.heap.size, 0, none⟩))) (w.alloc (.cells #[.slice none 0 0, .slice none 0 0] 25)) := by
  simp only [execOp]
  simp [go_sem]
theorem bs_23_0 (a : Act) (_ : Env n σ a) : (execOp a.eval ⟨dst, .buildSlice 23 0 #[], ty, pos, af, g⟩).run Try.prog w = .ok (.value (.slice (some ⟨w.heap.size, 0, none⟩) 0 0)) (w.alloc (.cells #[] 56)) := by
  simp only [execOp]
  go_simp
theorem bd_25_0_1 {x0 x1 : Operand} {A0 : Option Addr} {m0 : Nat} {c0 : Nat} {A1 : Option Addr} {m1 : Nat} {c1 : Nat} (h0 : evS σ x0 = some (.slice A0 m0 c0)) (h1 : evS σ x1 = some (.slice A1 m1 c1)) : Gives Try.prog n σ w ⟨dst, .build 25 #[(0, x0), (1, x1)], ty, pos, af, g⟩ (.agg #[.slice A0 m0 c0, .slice A1 m1 c1]) := fun a ha => by
  simp only [execOp, List.map_toArray, List.map_cons, List.map_nil, ha.eval h0, ha.eval h1]
  go_simp
theorem sz_25 : (Try.prog.info? 25).map (·.size) = some 2 := by kernel_rfl
theorem lv_25 {b o : Nat} {v0 v1 : Value} (c0 : w.cell? ⟨b, o, none⟩ = some v0) (c1 : w.cell? ⟨b, o + 1, none⟩ = some v1) : (loadVar 25 ⟨b, o, none⟩).run Try.prog w = .ok (.agg #[v0, v1]) w := by
  simp [go_sem, loadVar, c0, c1]
theorem neq_47 {a0 a1 b0 b1 : Int} {r : Bool} (hx : evS σ x = some (.agg #[.int .i64 a0, .int .i64 a1])) (hy : evS σ y = some (.agg #[.int .i64 b0, .int .i64 b1])) (hc : decide (¬ (a0 = b0 ∧ a1 = b1)) = r) : Gives Try.prog n σ w ⟨dst, .binOp .neq 47 x y 47, ty, pos, af, g⟩ (.bool r) := fun a ha => by
  subst hc
  simp only [execOp, ha.eval hx, ha.eval hy]
  go_simp
  repeat' split
  all_goals simp_all
theorem neq_56 {a0 a1 a2 a3 b0 b1 b2 b3 : Int} {r : Bool} (hx : evS σ x = some (.agg #[.int .i64 a0, .int .i64 a1, .int .i64 a2, .int .i64 a3])) (hy : evS σ y = some (.agg #[.int .i64 b0, .int .i64 b1, .int .i64 b2, .int .i64 b3])) (hc : decide (¬ (a0 = b0 ∧ a1 = b1 ∧ a2 = b2 ∧ a3 = b3)) = r) : Gives Try.prog n σ w ⟨dst, .binOp .neq 56 x y 56, ty, pos, af, g⟩ (.bool r) := fun a ha => by
  subst hc
  simp only [execOp, ha.eval hx, ha.eval hy]
  go_simp
  repeat' split
  all_goals simp_all
theorem bd_47_0 {x0 : Operand} {z0 : Int} (h0 : evS σ x0 = some (.int .i64 z0)) : Gives Try.prog n σ w ⟨dst, .build 47 #[(0, x0)], ty, pos, af, g⟩ (.agg #[.int .i64 z0, .int .i64 0]) := fun a ha => by
  simp only [execOp, List.map_toArray, List.map_cons, List.map_nil, ha.eval h0]
  go_simp
theorem bd_47_0_1 {x0 x1 : Operand} {z0 : Int} {z1 : Int} (h0 : evS σ x0 = some (.int .i64 z0)) (h1 : evS σ x1 = some (.int .i64 z1)) : Gives Try.prog n σ w ⟨dst, .build 47 #[(0, x0), (1, x1)], ty, pos, af, g⟩ (.agg #[.int .i64 z0, .int .i64 z1]) := fun a ha => by
  simp only [execOp, List.map_toArray, List.map_cons, List.map_nil, ha.eval h0, ha.eval h1]
  go_simp
theorem bd_47_1 {x0 : Operand} {z0 : Int} (h0 : evS σ x0 = some (.int .i64 z0)) : Gives Try.prog n σ w ⟨dst, .build 47 #[(1, x0)], ty, pos, af, g⟩ (.agg #[.int .i64 0, .int .i64 z0]) := fun a ha => by
  simp only [execOp, List.map_toArray, List.map_cons, List.map_nil, ha.eval h0]
  go_simp
theorem bs_22_3 {x0 x1 x2 : Operand} {v0_0 v0_1 v1_0 v1_1 v2_0 v2_1 : Value} (h0 : evS σ x0 = some (.agg #[v0_0, v0_1])) (h1 : evS σ x1 = some (.agg #[v1_0, v1_1])) (h2 : evS σ x2 = some (.agg #[v2_0, v2_1]))  (a : Act) (ha : Env n σ a) : (execOp a.eval ⟨dst, .buildSlice 22 3 #[(0, x0), (1, x1), (2, x2)], ty, pos, af, g⟩).run Try.prog w = .ok (.value (.slice (some ⟨w.heap.size, 0, none⟩) 3 3)) (w.alloc (.cells #[v0_0, v0_1, v1_0, v1_1, v2_0, v2_1] 47)) := by
  simp only [execOp, List.map_toArray, List.map_cons, List.map_nil, ha.eval h0, ha.eval h1, ha.eval h2]
  go_simp
theorem bd_56_0_1_2_3 {x0 x1 x2 x3 : Operand} {z0 : Int} {z1 : Int} {z2 : Int} {z3 : Int} (h0 : evS σ x0 = some (.int .i64 z0)) (h1 : evS σ x1 = some (.int .i64 z1)) (h2 : evS σ x2 = some (.int .i64 z2)) (h3 : evS σ x3 = some (.int .i64 z3)) : Gives Try.prog n σ w ⟨dst, .build 56 #[(0, x0), (1, x1), (2, x2), (3, x3)], ty, pos, af, g⟩ (.agg #[.int .i64 z0, .int .i64 z1, .int .i64 z2, .int .i64 z3]) := fun a ha => by
  simp only [execOp, List.map_toArray, List.map_cons, List.map_nil, ha.eval h0, ha.eval h1, ha.eval h2, ha.eval h3]
  go_simp
theorem bs_23_3 {x0 x1 x2 : Operand} {v0_0 v0_1 v0_2 v0_3 v1_0 v1_1 v1_2 v1_3 v2_0 v2_1 v2_2 v2_3 : Value} (h0 : evS σ x0 = some (.agg #[v0_0, v0_1, v0_2, v0_3])) (h1 : evS σ x1 = some (.agg #[v1_0, v1_1, v1_2, v1_3])) (h2 : evS σ x2 = some (.agg #[v2_0, v2_1, v2_2, v2_3]))  (a : Act) (ha : Env n σ a) : (execOp a.eval ⟨dst, .buildSlice 23 3 #[(0, x0), (1, x1), (2, x2)], ty, pos, af, g⟩).run Try.prog w = .ok (.value (.slice (some ⟨w.heap.size, 0, none⟩) 3 3)) (w.alloc (.cells #[v0_0, v0_1, v0_2, v0_3, v1_0, v1_1, v1_2, v1_3, v2_0, v2_1, v2_2, v2_3] 56)) := by
  simp only [execOp, List.map_toArray, List.map_cons, List.map_nil, ha.eval h0, ha.eval h1, ha.eval h2]
  go_simp
end
end Go.Proofs.Ytabgmnmpdjnjoaa
set_option linter.unusedVariables false
set_option linter.unusedSimpArgs false
namespace Go.Proofs.Ytabgmnmpdjnjoaa
open Go Go.RowKit
/-- a net of one's own -/
structure OwnNet (w : World) (base : Nat) (vp vw : Value) (n : Net) : Prop where
  ports : w.ownsRow base 47 2 vp n.ports.length (prtsC n.ports)
  ways : w.ownsRow base 56 4 vw n.ways.length (waysC n.ways)
theorem OwnNet.rd {w : World} {base : Nat} {vp vw : Value} {n : Net} (h : OwnNet w base vp vw n) : RdNet w w.heap.size vp vw n := ⟨Rd.of_own h.ports, Rd.of_own h.ways⟩
theorem OwnNet.below {w w' : World} {base : Nat} {vp vw : Value} {n : Net} (h : OwnNet w base vp vw n) (hb : Below w.heap.size w w') : OwnNet w' base vp vw n := ⟨own_below h.ports hb (Nat.le_refl _), own_below h.ways hb (Nat.le_refl _)⟩
theorem copied_any (nt : Net) (vp vw : Value) (w : World) (B : Nat) (hr : RdNet w B vp vw nt) (hB : B ≤ w.heap.size) (hn1 : nt.ports.length ≤ 1048576) (hn2 : nt.ways.length ≤ 1048576) :
    Calls Try.prog 14 #[.agg #[vp, vw]] w fun e w' => (∃ vp' vw', e = .returned (.agg #[vp', vw']) ∧ OwnNet w' w.heap.size vp' vw' nt) ∧ Below w.heap.size w w' := by
  obtain ⟨Ap, cp_, rfl, _⟩ := hr.ports.shape
  obtain ⟨Aw, cw_, rfl, _⟩ := hr.ways.shape
  have hbw := Below.refl w.heap.size w
  refine EC.enter 12 Try.func14 rfl rfl rfl ?_
  refine EC.seq ?_
  refine EC.region ?_
  refine EL.newP (bx_25 rfl) rfl ?_
  intro g1 w1 q1 hb1 hg1 hl1
  have bhbw_1 := Nat.le_trans hbw.size hg1
  replace hbw := Below.on hbw hb1 hbw.size
  clear hb1 hg1 hl1
  refine EL.newP al_25 rfl ?_
  intro g2 w2 q2 hb2 hg2 hl2
  have n1_2 : g1 ≠ g2 := Nat.ne_of_lt (Nat.lt_of_lt_of_le q1.lt hg2)
  have bhbw_2 := Nat.le_trans hbw.size hg2
  replace q1 := q1.below hb2 q1.lt
  replace hbw := Below.on hbw hb2 hbw.size
  clear hb2 hg2 hl2
  refine EL.nil ?_
  refine EX.seq ?_
  refine EC.seq ?_
  have hsz0 := hbw.size
  have lt_1 := q1.lt
  have lt_2 := q2.lt
  refine EC.regionP [[], [], [1], [0, 1, 2], [], [], [5], [0, 1, 2, 3, 4, 5, 6], [0, 1, 2, 3, 4, 5, 6, 7], [0, 1, 2, 3, 4, 5, 6, 7, 8]] 9 [] (phi (fun i_ r => match i_ with | 1 => r 1 = .pointer (some ⟨g1, 0, none⟩) | 2 => r 2 = .slice Ap nt.ports.length cp_ | 5 => r 5 = .pointer (some ⟨g1, 1, none⟩) | 6 => r 6 = .slice Aw nt.ways.length cw_ | _ => True) [(0, fun r w_ => ∃ g_, r 0 = .slice (some ⟨g_, 0, none⟩) 0 0 ∧ Blk w_ g_ 47 #[] ∧ w2.heap.size ≤ g_), (3, fun r w_ => ∃ A_ c_, r 3 = .slice A_ nt.ports.length c_ ∧ w_.ownsRow w2.heap.size 47 2 (.slice A_ nt.ports.length c_) nt.ports.length (prtsC nt.ports)), (4, fun r w_ => ∃ g_, r 4 = .slice (some ⟨g_, 0, none⟩) 0 0 ∧ Blk w_ g_ 56 #[] ∧ w2.heap.size ≤ g_), (7, fun r w_ => ∃ A_ c_, r 7 = .slice A_ nt.ways.length c_ ∧ w_.ownsRow w2.heap.size 56 4 (.slice A_ nt.ways.length c_) nt.ways.length (waysC nt.ways)), (8, fun r w_ => ∃ A_ c_ A2_ c2_, r 8 = .agg #[.slice A_ nt.ports.length c_, .slice A2_ nt.ways.length c2_] ∧ w_.ownsRow w2.heap.size 47 2 (.slice A_ nt.ports.length c_) nt.ports.length (prtsC nt.ports) ∧ w_.ownsRow w2.heap.size 56 4 (.slice A2_ nt.ways.length c2_) nt.ways.length (waysC nt.ways))]) (by kernel_rfl) rfl rfl (phi_cons mono_bs (phi_cons mono_cp (phi_cons mono_bs (phi_cons mono_cp (phi_cons (by rintro _ _ _ hb ⟨A_, c_, A2_, c2_, h1, h2, h3⟩; exact ⟨A_, c_, A2_, c2_, h1, own_below h2 hb (Nat.le_refl _), own_below h3 hb (Nat.le_refl _)⟩) (phi_nil)))))) (fun i_ hi_ => ?_) ?_
  · match i_, hi_ with
    | 0, _ =>
      intro val w1 a hb ha hd
      have ha := ha.sub (Sub.nil _)
      exact hs_newS ha rfl rfl (bs_22_0) rfl (fun g w' hq _ hge => ⟨g, rfl, hq, Nat.le_trans hb.size hge⟩)
    | 1, _ =>
      intro val w1 a hb ha hd
      have ha := ha.sub (Sub.ins (d := 1) (Sub.nil _) rfl)
      exact hs_val ha rfl rfl (fa_25_0 rfl) rfl rfl
    | 2, _ =>
      intro val w1 a hb ha hd
      have e1 : val 1 = .pointer (some ⟨g1, 0, none⟩) := hd 1 (memB_mem.1 rfl)
      have ha := ha.sub (Sub.ins (d := 4) (Sub.nil _) (dep_get rfl e1))
      exact hs_val ha rfl rfl (ld_22 rfl ((q1.below hb q1.lt).at (j := 0) rfl)) rfl rfl
    | 3, _ =>
      intro val w1 a hb ha hd
      obtain ⟨g0_, e0, q0_, h0_⟩ := hd 0 (memB_mem.1 rfl)
      change val 0 = _ at e0
      have e2 : val 2 = .slice Ap nt.ports.length cp_ := hd 2 (memB_mem.1 rfl)
      have ha := ha.sub (Sub.ins (d := 5) (Sub.ins (d := 3) (Sub.nil _) (dep_get rfl e0)) (dep_get rfl e2))
      refine hs_copy prt_elem ha rfl rfl rfl q0_ h0_ (hr.ports.below ((Below.on hbw hb hbw.size).mono hB)) (prtsC_one _) (by omega) rfl hb.size rfl (fun v' w' ho => ?_)
      obtain ⟨A, c9, rfl, _⟩ := (Rd.of_own ho).shape
      exact ⟨A, c9, rfl, ho⟩
    | 4, _ =>
      intro val w1 a hb ha hd
      have ha := ha.sub (Sub.nil _)
      exact hs_newS ha rfl rfl (bs_23_0) rfl (fun g w' hq _ hge => ⟨g, rfl, hq, Nat.le_trans hb.size hge⟩)
    | 5, _ =>
      intro val w1 a hb ha hd
      have ha := ha.sub (Sub.ins (d := 1) (Sub.nil _) rfl)
      exact hs_val ha rfl rfl (fa_25_1 rfl) rfl rfl
    | 6, _ =>
      intro val w1 a hb ha hd
      have e5 : val 5 = .pointer (some ⟨g1, 1, none⟩) := hd 5 (memB_mem.1 rfl)
      have ha := ha.sub (Sub.ins (d := 8) (Sub.nil _) (dep_get rfl e5))
      exact hs_val ha rfl rfl (ld_23 rfl ((q1.below hb q1.lt).at (j := 1) rfl)) rfl rfl
    | 7, _ =>
      intro val w1 a hb ha hd
      obtain ⟨g4_, e4, q4_, h4_⟩ := hd 4 (memB_mem.1 rfl)
      change val 4 = _ at e4
      have e6 : val 6 = .slice Aw nt.ways.length cw_ := hd 6 (memB_mem.1 rfl)
      have ha := ha.sub (Sub.ins (d := 9) (Sub.ins (d := 7) (Sub.nil _) (dep_get rfl e4)) (dep_get rfl e6))
      refine hs_copy way_elem ha rfl rfl rfl q4_ h4_ (hr.ways.below ((Below.on hbw hb hbw.size).mono hB)) (waysC_one _) (by omega) rfl hb.size rfl (fun v' w' ho => ?_)
      obtain ⟨A, c9, rfl, _⟩ := (Rd.of_own ho).shape
      exact ⟨A, c9, rfl, ho⟩
    | 8, _ =>
      intro val w1 a hb ha hd
      obtain ⟨A3_, c3_, e3, o3_⟩ := hd 3 (memB_mem.1 rfl)
      obtain ⟨A7_, c7_, e7, o7_⟩ := hd 7 (memB_mem.1 rfl)
      have ha := ha.sub (Sub.ins (d := 10) (Sub.ins (d := 6) (Sub.nil _) (dep_get rfl e3)) (dep_get rfl e7))
      exact hs_val ha rfl rfl (bd_25_0_1 rfl rfl) ⟨A3_, c3_, A7_, c7_, rfl, o3_, o7_⟩ rfl
    | k + 9, h => exact absurd h (by omega)
  · intro val wR1 hb halc hd
    obtain ⟨ga0_1, e0, qa0_1, hga0_1⟩ := hd 0 (by omega)
    change val 0 = _ at e0
    change Blk wR1 ga0_1 47 #[] at qa0_1
    have e1 : val 1 = .pointer (some ⟨g1, 0, none⟩) := hd 1 (by omega)
    have e2 : val 2 = .slice Ap nt.ports.length cp_ := hd 2 (by omega)
    obtain ⟨A3_, c3_, e3, o3_⟩ := hd 3 (by omega)
    obtain ⟨ga4_1, e4, qa4_1, hga4_1⟩ := hd 4 (by omega)
    change val 4 = _ at e4
    change Blk wR1 ga4_1 56 #[] at qa4_1
    have e5 : val 5 = .pointer (some ⟨g1, 1, none⟩) := hd 5 (by omega)
    have e6 : val 6 = .slice Aw nt.ways.length cw_ := hd 6 (by omega)
    obtain ⟨A7_, c7_, e7, o7_⟩ := hd 7 (by omega)
    obtain ⟨A8_, c8_, B8_, d8_, e8, o8_, u8_⟩ := hd 8 (by omega)
    refine EL.ends (cs := [.slice (some ⟨ga0_1, 0, none⟩) 0 0, .pointer (some ⟨g1, 0, none⟩), .slice Ap nt.ports.length cp_, .slice A3_ nt.ports.length c3_, .slice (some ⟨ga4_1, 0, none⟩) 0 0, .pointer (some ⟨g1, 1, none⟩), .slice Aw nt.ways.length cw_, .slice A7_ nt.ways.length c7_, .agg #[.slice A8_ nt.ports.length c8_, .slice B8_ nt.ways.length d8_]]) ⟨e0, e1, e2, e3, e4, e5, e6, e7, e8, trivial⟩ rfl ?_
    replace q1 := q1.below hb q1.lt
    replace q2 := q2.below hb q2.lt
    have n1_3 : g1 ≠ ga0_1 := Nat.ne_of_lt (Nat.lt_of_lt_of_le lt_1 hga0_1)
    have n2_3 : g2 ≠ ga0_1 := Nat.ne_of_lt (Nat.lt_of_lt_of_le lt_2 hga0_1)
    have bhbw_3 := Nat.le_trans hbw.size hga0_1
    have n1_4 : g1 ≠ ga4_1 := Nat.ne_of_lt (Nat.lt_of_lt_of_le lt_1 hga4_1)
    have n2_4 : g2 ≠ ga4_1 := Nat.ne_of_lt (Nat.lt_of_lt_of_le lt_2 hga4_1)
    have bhbw_4 := Nat.le_trans hbw.size hga4_1
    replace hbw := Below.on hbw hb hbw.size
    clear hb
    replace o8_ := own_less o8_ hsz0
    replace u8_ := own_less u8_ hsz0
    refine EL.store rfl rfl q2 sz_25 rfl rfl rfl rfl ?_
    intro w5 hq5 hg5
    replace q1 := q1.grown hg5 (fun h => n1_2 (Option.some.inj h))
    replace o8_ := own_type o8_ q2 rfl hg5
    replace u8_ := own_type u8_ q2 rfl hg5
    replace hbw := below_store hbw hg5 bhbw_2
    replace q2 := hq5
    clear hg5 hq5
    refine EL.nil ?_
    refine EX.seq ?_
    refine EC.ret ?_
    exact EX.done (resc1 rfl rfl (lv_25 (q2.at (j := 0) rfl) (q2.at (j := 1) rfl))) ⟨⟨_, _, rfl, ⟨o8_, u8_⟩⟩, hbw⟩
set_option maxRecDepth 100000 in
theorem same_same (nt : Net) (vp vw up uw : Value) (w : World) (B : Nat) (hr : RdNet w B vp vw nt) (hs : RdNet w B up uw nt) (hB : B ≤ w.heap.size) (hn1 : nt.ports.length ≤ 1073741824) (hn2 : nt.ways.length ≤ 1073741824) :
    Calls Try.prog 16 #[.agg #[vp, vw], .agg #[up, uw]] w fun e w' => e = .returned (.bool true) ∧ Below w.heap.size w w' := by
  obtain ⟨Ap, cp_, rfl, _⟩ := hr.ports.shape
  obtain ⟨Aw, cw_, rfl, _⟩ := hr.ways.shape
  obtain ⟨Bp, dp_, rfl, _⟩ := hs.ports.shape
  obtain ⟨Bw, dw_, rfl, _⟩ := hs.ways.shape
  have hbw := Below.refl w.heap.size w
  refine EC.enter 59 Try.func16 rfl rfl rfl ?_
  refine EC.seq ?_
  refine EC.region ?_
  refine EL.newP (bx_25 rfl) rfl ?_
  intro g1 w1 q1 hb1 hg1 hl1
  have bhbw_1 := Nat.le_trans hbw.size hg1
  replace hbw := Below.on hbw hb1 hbw.size
  clear hb1 hg1 hl1
  refine EL.newP (bx_25 rfl) rfl ?_
  intro g2 w2 q2 hb2 hg2 hl2
  have n1_2 : g1 ≠ g2 := Nat.ne_of_lt (Nat.lt_of_lt_of_le q1.lt hg2)
  have bhbw_2 := Nat.le_trans hbw.size hg2
  replace q1 := q1.below hb2 q1.lt
  replace hbw := Below.on hbw hb2 hbw.size
  clear hb2 hg2 hl2
  refine EL.val (x_assign rfl) rfl ?_
  refine EL.nil ?_
  refine EX.seq ?_
  refine EC.seq ?_
  refine EC.seq ?_
  refine EC.region ?_
  refine EL.val (fa_25_0 rfl) rfl ?_
  refine EL.val (ld_22 rfl (q1.at (j := 0) rfl)) rfl ?_
  refine EL.val (ln_22 rfl) rfl ?_
  refine EL.val (fa_25_0 rfl) rfl ?_
  refine EL.val (ld_22 rfl (q2.at (j := 0) rfl)) rfl ?_
  refine EL.val (ln_22 rfl) rfl ?_
  refine EL.val (x_neq (r := false) rfl rfl (decide_eq_false (fun h => h rfl))) rfl ?_
  refine EL.val (x_move rfl) rfl ?_
  refine EL.valg rfl rfl (fa_25_1 rfl) rfl ?_
  refine EL.valg rfl rfl (ld_23 rfl (q1.at (j := 1) rfl)) rfl ?_
  refine EL.valg rfl rfl (ln_23 rfl) rfl ?_
  refine EL.valg rfl rfl (fa_25_1 rfl) rfl ?_
  refine EL.valg rfl rfl (ld_23 rfl (q2.at (j := 1) rfl)) rfl ?_
  refine EL.valg rfl rfl (ln_23 rfl) rfl ?_
  refine EL.valg rfl rfl (x_neq (r := false) rfl rfl (decide_eq_false (fun h => h rfl))) rfl ?_
  refine EL.val (x_pick_f rfl rfl) rfl ?_
  refine EL.nil ?_
  refine EX.seq ?_
  refine EC.no rfl ?_
  refine EC.skip ?_
  refine EX.seq ?_
  refine EC.seq ?_
  refine EC.seq ?_
  refine EC.region ?_
  refine EL.val (x_assign rfl) rfl ?_
  refine EL.nil ?_
  refine EX.seq ?_
  refine EC.block ?_
  refine EC.loopD [4, 5, 23, 24, 25, 26, 27, 28, 29, 30, 31, 32, 33, 34, 35, 36, 37, 38, 39, 40] (fun x : Nat => [(5, .int .i64 (x : Nat))]) (fun x W => x ≤ nt.ports.length ∧ Blk W g1 25 #[.slice Ap nt.ports.length cp_, .slice Aw nt.ways.length cw_] ∧ Blk W g2 25 #[.slice Bp nt.ports.length dp_, .slice Bw nt.ways.length dw_] ∧ Below w.heap.size w W) (fun x => nt.ports.length - x) 0 ⟨Nat.zero_le _, q1, q2, hbw⟩ ⟨rfl, trivial⟩ ?_
  clear q1 q2 hbw
  rintro x wx ⟨hx, q2x, q3x, hbw⟩
  by_cases hlt : x < nt.ports.length
  ·
    obtain ⟨b1, o1, e_, _, a0, a1⟩ := prts_cells nt.ports x hlt _ _ _ _ _ hr.ports
    subst e_
    obtain ⟨b2, o2, e_, _, c0, c1⟩ := prts_cells nt.ports x hlt _ _ _ _ _ hs.ports
    subst e_
    refine EC.seq ?_
    refine EC.seq ?_
    refine EC.region ?_
    refine EL.val (x_move rfl) rfl ?_
    refine EL.val (fa_25_0 rfl) rfl ?_
    refine EL.val (ld_22 rfl (q2x.at (j := 0) rfl)) rfl ?_
    refine EL.val (ln_22 rfl) rfl ?_
    refine EL.val (x_lss rfl rfl (decide_eq_true (show (((x : Nat) : Int) < ((nt.ports.length : Nat) : Int)) by omega))) rfl ?_
    refine EL.nil ?_
    refine EX.seq ?_
    refine EC.yes rfl ?_
    refine EC.skip ?_
    refine EX.seq ?_
    refine EC.seq ?_
    refine EC.block ?_
    refine EC.seq ?_
    refine EC.regionQ (by kernel_rfl) (by kernel_rfl) ?_
    refine EQ.val (fun _ hw => (fa_25_0 rfl)) rfl ?_
    refine EQ.val (fun _ hw => (ld_22 rfl (below_load hw (q2x.at (j := 0) rfl)))) rfl ?_
    refine EQ.val (fun _ hw => (x_move rfl)) rfl ?_
    refine EQ.val (fun _ hw => (ix_22 rfl rfl hlt)) rfl ?_
    refine EQ.val (fun _ hw => (ld_47 rfl (below_load hw (below_load hbw a0)) (below_load hw (below_load hbw a1)))) rfl ?_
    refine EQ.val (fun _ hw => (fa_25_0 rfl)) rfl ?_
    refine EQ.val (fun _ hw => (ld_22 rfl (below_load hw (q3x.at (j := 0) rfl)))) rfl ?_
    refine EQ.val (fun _ hw => (x_move rfl)) rfl ?_
    refine EQ.val (fun _ hw => (ix_22 rfl rfl hlt)) rfl ?_
    refine EQ.val (fun _ hw => (ld_47 rfl (below_load hw (below_load hbw c0)) (below_load hw (below_load hbw c1)))) rfl ?_
    refine EQ.val (fun _ hw => (neq_47 (r := false) rfl rfl (decide_eq_false (fun h => h ⟨rfl, rfl⟩)))) rfl ?_
    refine EQ.fin (fun w3 hw_ => ?_)
    replace q2x := q2x.below hw_ q2x.lt
    replace q3x := q3x.below hw_ q3x.lt
    replace hbw := Below.on hbw hw_ hbw.size
    clear hw_
    refine EX.seq ?_
    refine EC.no rfl ?_
    refine EC.skip ?_
    refine EX.blk ?_
    refine EX.seq ?_
    refine EC.region ?_
    refine EL.val (x_move rfl) rfl ?_
    refine EL.val (x_add rfl rfl (c := ((x + 1 : Nat) : Int)) ((IntWalk.i64_in _ ⟨by first | omega | (simp only; omega), by first | omega | (simp only; omega)⟩).trans (by first | omega | (simp only; omega)))) rfl ?_
    refine EL.val (x_assign rfl) rfl ?_
    refine EL.nil ?_
    refine EX.roundD (x + 1) ⟨rfl, trivial⟩ (by repeat first | with_reducible exact Sub.refl _ | refine sub_past rfl ?_ | exact Sub.refl _ | refine sub_del rfl ?_ | refine sub_insL_nil ?_) ⟨hlt, q2x, q3x, hbw⟩ (by omega)
  ·
    have hxe : x = nt.ports.length := by omega
    subst hxe
    refine EC.seq ?_
    refine EC.seq ?_
    refine EC.region ?_
    refine EL.val (x_move rfl) rfl ?_
    refine EL.val (fa_25_0 rfl) rfl ?_
    refine EL.val (ld_22 rfl (q2x.at (j := 0) rfl)) rfl ?_
    refine EL.val (ln_22 rfl) rfl ?_
    refine EL.val (x_lss rfl rfl (decide_eq_false (show ¬(((nt.ports.length : Nat) : Int) < ((nt.ports.length : Nat) : Int)) by omega))) rfl ?_
    refine EL.nil ?_
    refine EX.seq ?_
    refine EC.no rfl ?_
    refine EC.exit ?_
    refine EX.seq_exit ?_
    refine EX.seq_exit ?_
    refine EX.blk_here ?_
    refine EX.seq ?_
    refine EC.seq ?_
    refine EC.seq ?_
    refine EC.region ?_
    refine EL.val (x_assign rfl) rfl ?_
    refine EL.nil ?_
    refine EX.seq ?_
    refine EC.block ?_
    refine EC.loopD [4, 6, 41, 42, 43, 44, 45, 46, 47, 48, 49, 50, 51, 52, 53, 54, 55, 56, 57, 58] (fun x : Nat => [(6, .int .i64 (x : Nat))]) (fun x W => x ≤ nt.ways.length ∧ Blk W g1 25 #[.slice Ap nt.ports.length cp_, .slice Aw nt.ways.length cw_] ∧ Blk W g2 25 #[.slice Bp nt.ports.length dp_, .slice Bw nt.ways.length dw_] ∧ Below w.heap.size w W) (fun x => nt.ways.length - x) 0 ⟨Nat.zero_le _, q2x, q3x, hbw⟩ ⟨rfl, trivial⟩ ?_
    clear q2x q3x hbw
    rintro x wx ⟨hx, q2x, q3x, hbw⟩
    by_cases hlt : x < nt.ways.length
    ·
      obtain ⟨b1, o1, e_, _, wa⟩ := ways_cells nt.ways x hlt _ _ _ _ _ hr.ways
      subst e_
      obtain ⟨b2, o2, e_, _, wb⟩ := ways_cells nt.ways x hlt _ _ _ _ _ hs.ways
      subst e_
      refine EC.seq ?_
      refine EC.seq ?_
      refine EC.region ?_
      refine EL.val (x_move rfl) rfl ?_
      refine EL.val (fa_25_1 rfl) rfl ?_
      refine EL.val (ld_23 rfl (q2x.at (j := 1) rfl)) rfl ?_
      refine EL.val (ln_23 rfl) rfl ?_
      refine EL.val (x_lss rfl rfl (decide_eq_true (show (((x : Nat) : Int) < ((nt.ways.length : Nat) : Int)) by omega))) rfl ?_
      refine EL.nil ?_
      refine EX.seq ?_
      refine EC.yes rfl ?_
      refine EC.skip ?_
      refine EX.seq ?_
      refine EC.seq ?_
      refine EC.block ?_
      refine EC.seq ?_
      refine EC.regionQ (by kernel_rfl) (by kernel_rfl) ?_
      refine EQ.val (fun _ hw => (fa_25_1 rfl)) rfl ?_
      refine EQ.val (fun _ hw => (ld_23 rfl (below_load hw (q2x.at (j := 1) rfl)))) rfl ?_
      refine EQ.val (fun _ hw => (x_move rfl)) rfl ?_
      refine EQ.val (fun _ hw => (ix_23 rfl rfl hlt)) rfl ?_
      refine EQ.val (fun _ hw => (ld_56 rfl (below_load hw (below_load hbw wa.c0)) (below_load hw (below_load hbw wa.c1)) (below_load hw (below_load hbw wa.c2)) (below_load hw (below_load hbw wa.c3)))) rfl ?_
      refine EQ.val (fun _ hw => (fa_25_1 rfl)) rfl ?_
      refine EQ.val (fun _ hw => (ld_23 rfl (below_load hw (q3x.at (j := 1) rfl)))) rfl ?_
      refine EQ.val (fun _ hw => (x_move rfl)) rfl ?_
      refine EQ.val (fun _ hw => (ix_23 rfl rfl hlt)) rfl ?_
      refine EQ.val (fun _ hw => (ld_56 rfl (below_load hw (below_load hbw wb.c0)) (below_load hw (below_load hbw wb.c1)) (below_load hw (below_load hbw wb.c2)) (below_load hw (below_load hbw wb.c3)))) rfl ?_
      refine EQ.val (fun _ hw => (neq_56 (r := false) rfl rfl (decide_eq_false (fun h => h ⟨rfl, rfl, rfl, rfl⟩)))) rfl ?_
      refine EQ.fin (fun w4 hw_ => ?_)
      replace q2x := q2x.below hw_ q2x.lt
      replace q3x := q3x.below hw_ q3x.lt
      replace hbw := Below.on hbw hw_ hbw.size
      clear hw_
      refine EX.seq ?_
      refine EC.no rfl ?_
      refine EC.skip ?_
      refine EX.blk ?_
      refine EX.seq ?_
      refine EC.region ?_
      refine EL.val (x_move rfl) rfl ?_
      refine EL.val (x_add rfl rfl (c := ((x + 1 : Nat) : Int)) ((IntWalk.i64_in _ ⟨by first | omega | (simp only; omega), by first | omega | (simp only; omega)⟩).trans (by first | omega | (simp only; omega)))) rfl ?_
      refine EL.val (x_assign rfl) rfl ?_
      refine EL.nil ?_
      refine EX.roundD (x + 1) ⟨rfl, trivial⟩ (by repeat first | with_reducible exact Sub.refl _ | refine sub_past rfl ?_ | exact Sub.refl _ | refine sub_del rfl ?_ | refine sub_insL_nil ?_) ⟨hlt, q2x, q3x, hbw⟩ (by omega)
    ·
      have hxe : x = nt.ways.length := by omega
      subst hxe
      refine EC.seq ?_
      refine EC.seq ?_
      refine EC.region ?_
      refine EL.val (x_move rfl) rfl ?_
      refine EL.val (fa_25_1 rfl) rfl ?_
      refine EL.val (ld_23 rfl (q2x.at (j := 1) rfl)) rfl ?_
      refine EL.val (ln_23 rfl) rfl ?_
      refine EL.val (x_lss rfl rfl (decide_eq_false (show ¬(((nt.ways.length : Nat) : Int) < ((nt.ways.length : Nat) : Int)) by omega))) rfl ?_
      refine EL.nil ?_
      refine EX.seq ?_
      refine EC.no rfl ?_
      refine EC.exit ?_
      refine EX.seq_exit ?_
      refine EX.seq_exit ?_
      refine EX.blk_here ?_
      refine EX.seq ?_
      refine EC.seq ?_
      refine EC.region ?_
      refine EL.val (x_assign rfl) rfl ?_
      refine EL.nil ?_
      refine EX.seq ?_
      refine EC.ret ?_
      exact EX.done (res1 rfl rfl) ⟨rfl, hbw⟩
def largeB (nt : Net) : Bool := decide (70 < nt.ports.length) || decide (320 < nt.ways.length)
theorem largeB_no {nt : Net} (h : largeB nt = false) : nt.ports.length ≤ 70 ∧ nt.ways.length ≤ 320 := by
  simp only [largeB, Bool.or_eq_false_iff, decide_eq_false_iff_not] at h
  omega
theorem large_to {nt : Net} {b : Bool} (h : largeB nt = b) (vp vw : Value) (w : World) (B : Nat) (hr : RdNet w B vp vw nt) :
    Calls Try.prog 29 #[.agg #[vp, vw]] w fun e w' => e = .returned (.bool b) ∧ Below w.heap.size w w' := by
  subst h
  obtain ⟨Ap, cp_, rfl, _⟩ := hr.ports.shape
  obtain ⟨Aw, cw_, rfl, _⟩ := hr.ways.shape
  have hbw := Below.refl w.heap.size w
  refine EC.enter 13 Try.func29 rfl rfl rfl ?_
  refine EC.seq ?_
  refine EC.region ?_
  refine EL.newP (bx_25 rfl) rfl ?_
  intro g1 w1 q1 hb1 hg1 hl1
  have bhbw_1 := Nat.le_trans hbw.size hg1
  replace hbw := Below.on hbw hb1 hbw.size
  clear hb1 hg1 hl1
  refine EL.val (x_assign rfl) rfl ?_
  refine EL.nil ?_
  refine EX.seq ?_
  refine EC.seq ?_
  refine EC.region ?_
  refine EL.val (fa_25_0 rfl) rfl ?_
  refine EL.val (ld_22 rfl (q1.at (j := 0) rfl)) rfl ?_
  refine EL.val (ln_22 rfl) rfl ?_
  by_cases h1 : 70 < nt.ports.length
  ·
    refine EL.val (x_gtr (r := true) rfl rfl (decide_eq_true (by omega))) rfl ?_
    refine EL.val (x_move rfl) rfl ?_
    refine EL.skip rfl rfl rfl rfl ?_
    refine EL.skip rfl rfl rfl rfl ?_
    refine EL.skip rfl rfl rfl rfl ?_
    refine EL.skip rfl rfl rfl rfl ?_
    refine EL.val (x_pick_t rfl rfl) rfl ?_
    refine EL.val (x_assign rfl) rfl ?_
    refine EL.nil ?_
    refine EX.seq ?_
    refine EC.ret ?_
    exact EX.done (res1 rfl rfl) ⟨by rw [largeB, decide_eq_true h1]; rfl, hbw⟩
  ·
    refine EL.val (x_gtr (r := false) rfl rfl (decide_eq_false (by omega))) rfl ?_
    refine EL.val (x_move rfl) rfl ?_
    refine EL.valg rfl rfl (fa_25_1 rfl) rfl ?_
    refine EL.valg rfl rfl (ld_23 rfl (q1.at (j := 1) rfl)) rfl ?_
    refine EL.valg rfl rfl (ln_23 rfl) rfl ?_
    by_cases h2 : 320 < nt.ways.length
    ·
      refine EL.valg rfl rfl (x_gtr (r := true) rfl rfl (decide_eq_true (by omega))) rfl ?_
      refine EL.val (x_pick_f rfl rfl) rfl ?_
      refine EL.val (x_assign rfl) rfl ?_
      refine EL.nil ?_
      refine EX.seq ?_
      refine EC.ret ?_
      exact EX.done (res1 rfl rfl) ⟨by rw [largeB, decide_eq_false h1, decide_eq_true h2]; rfl, hbw⟩
    ·
      refine EL.valg rfl rfl (x_gtr (r := false) rfl rfl (decide_eq_false (by omega))) rfl ?_
      refine EL.val (x_pick_f rfl rfl) rfl ?_
      refine EL.val (x_assign rfl) rfl ?_
      refine EL.nil ?_
      refine EX.seq ?_
      refine EC.ret ?_
      exact EX.done (res1 rfl rfl) ⟨by rw [largeB, decide_eq_false h1, decide_eq_false h2]; rfl, hbw⟩
theorem three_any (w : World) : Calls Try.prog 37 #[] w fun e w' => (∃ vp vw, e = .returned (.agg #[vp, vw]) ∧ OwnNet w' w.heap.size vp vw net3) ∧ Below w.heap.size w w' := by
  have hbw := Below.refl w.heap.size w
  refine EC.enter 10 Try.func37 rfl rfl rfl ?_
  refine EC.seq ?_
  refine EC.region ?_
  refine EL.newP al_25 rfl ?_
  intro g1 w1 q1 hb1 hg1 hl1
  have bhbw_1 := Nat.le_trans hbw.size hg1
  replace hbw := Below.on hbw hb1 hbw.size
  clear hb1 hg1 hl1
  refine EL.nil ?_
  refine EX.seq ?_
  refine EC.seq ?_
  refine EC.region ?_
  refine EL.val (bd_47_0 rfl) rfl ?_
  refine EL.val (bd_47_0_1 rfl rfl) rfl ?_
  refine EL.val (bd_47_1 rfl) rfl ?_
  refine EL.newS (bs_22_3 rfl rfl rfl) rfl ?_
  intro g2 w2 q2 hb2 hg2 hl2
  have n1_2 : g1 ≠ g2 := Nat.ne_of_lt (Nat.lt_of_lt_of_le q1.lt hg2)
  have bhbw_2 := Nat.le_trans hbw.size hg2
  replace q1 := q1.below hb2 q1.lt
  replace hbw := Below.on hbw hb2 hbw.size
  clear hb2 hg2 hl2
  refine EL.val (bd_56_0_1_2_3 rfl rfl rfl rfl) rfl ?_
  refine EL.val (bd_56_0_1_2_3 rfl rfl rfl rfl) rfl ?_
  refine EL.val (bd_56_0_1_2_3 rfl rfl rfl rfl) rfl ?_
  refine EL.newS (bs_23_3 rfl rfl rfl) rfl ?_
  intro g3 w3 q3 hb3 hg3 hl3
  have n1_3 : g1 ≠ g3 := Nat.ne_of_lt (Nat.lt_of_lt_of_le q1.lt hg3)
  have n2_3 : g2 ≠ g3 := Nat.ne_of_lt (Nat.lt_of_lt_of_le q2.lt hg3)
  have bhbw_3 := Nat.le_trans hbw.size hg3
  replace q1 := q1.below hb3 q1.lt
  replace q2 := q2.below hb3 q2.lt
  replace hbw := Below.on hbw hb3 hbw.size
  clear hb3 hg3 hl3
  refine EL.val (bd_25_0_1 rfl rfl) rfl ?_
  refine EL.store rfl rfl q1 sz_25 rfl rfl rfl rfl ?_
  intro w4 hq4 hg4
  replace q2 := q2.grown hg4 (fun h => n1_2.symm (Option.some.inj h))
  replace q3 := q3.grown hg4 (fun h => n1_3.symm (Option.some.inj h))
  replace hbw := below_store hbw hg4 bhbw_1
  replace q1 := hq4
  clear hg4 hq4
  refine EL.nil ?_
  refine EX.seq ?_
  refine EC.ret ?_
  exact EX.done (resc1 rfl rfl (lv_25 (q1.at (j := 0) rfl) (q1.at (j := 1) rfl))) ⟨⟨_, _, rfl, ⟨own_built (k := 3) (l := prtsC net3.ports) q2 rfl (by omega) bhbw_2, own_built (k := 3) (l := waysC net3.ways) q3 rfl (by omega) bhbw_3⟩⟩, hbw⟩
end Go.Proofs.Ytabgmnmpdjnjoaa
set_option linter.unusedVariables false
set_option linter.unusedSimpArgs false
namespace Go.Proofs.Ytabgmnmpdjnjoaa
open Go Go.RowKit
section
variable {n : Nat} {σ : Sg} {w : World} {dst : Option Tmp} {ty : TypeId} {pos : String} {af : Array Edge} {g : Option (Nat × Bool)} {x y z : Operand} {at' : Array TypeId}
theorem cl_37  (a : Act) (_ : Env n σ a) : (execOp a.eval ⟨dst, .call { callee := .value (.func 37), args := #[], argTypes := at' }, ty, pos, af, g⟩).run Try.prog w = .ok (.enter 37 #[]) w := by
  simp only [execOp, resolve, List.map_toArray, List.map_nil]
  simp [go_sem, Act.eval]
theorem bs_29_3 {x0 x1 x2 : Operand} {z0_0 z1_0 z2_0 : Int} (h0 : evS σ x0 = some (.int .i64 z0_0)) (h1 : evS σ x1 = some (.int .i64 z1_0)) (h2 : evS σ x2 = some (.int .i64 z2_0)) (a : Act) (ha : Env n σ a) : (execOp a.eval ⟨dst, .buildSlice 29 3 #[(0, x0), (1, x1), (2, x2)], ty, pos, af, g⟩).run Try.prog w = .ok (.value (.slice (some ⟨w.heap.size, 0, none⟩) 3 3)) (w.alloc (.cells #[.int .i64 z0_0, .int .i64 z1_0, .int .i64 z2_0] 3)) := by
  simp only [execOp, List.map_toArray, List.map_cons, List.map_nil, ha.eval h0, ha.eval h1, ha.eval h2]
  go_simp
theorem cl_32 {x0 x1 : Operand} {v0 v1 : Value} (h0 : evS σ x0 = some v0) (h1 : evS σ x1 = some v1) (a : Act) (ha : Env n σ a) : (execOp a.eval ⟨dst, .call { callee := .value (.func 32), args := #[x0, x1], argTypes := at' }, ty, pos, af, g⟩).run Try.prog w = .ok (.enter 32 #[v0, v1]) w := by
  simp only [execOp, resolve, List.map_toArray, List.map_cons, List.map_nil, ha.eval h0, ha.eval h1]
  simp [go_sem, Act.eval]
theorem cl_26 {x0 x1 : Operand} {v0 v1 : Value} (h0 : evS σ x0 = some v0) (h1 : evS σ x1 = some v1) (a : Act) (ha : Env n σ a) : (execOp a.eval ⟨dst, .call { callee := .value (.func 26), args := #[x0, x1], argTypes := at' }, ty, pos, af, g⟩).run Try.prog w = .ok (.enter 26 #[v0, v1]) w := by
  simp only [execOp, resolve, List.map_toArray, List.map_cons, List.map_nil, ha.eval h0, ha.eval h1]
  simp [go_sem, Act.eval]
theorem cl_23 {x0 : Operand} {v0 : Value} (h0 : evS σ x0 = some v0) (a : Act) (ha : Env n σ a) : (execOp a.eval ⟨dst, .call { callee := .value (.func 23), args := #[x0], argTypes := at' }, ty, pos, af, g⟩).run Try.prog w = .ok (.enter 23 #[v0]) w := by
  simp only [execOp, resolve, List.map_toArray, List.map_cons, List.map_nil, ha.eval h0]
  simp [go_sem, Act.eval]
end
end Go.Proofs.Ytabgmnmpdjnjoaa
set_option linter.unusedVariables false
set_option linter.unusedSimpArgs false
namespace Go.Proofs.Ytabgmnmpdjnjoaa
open Go Go.RowKit
theorem OwnNet.box {w w' : World} {base k T : Nat} {cs : Array Value} {vp vw : Value} {n : Net} (h : OwnNet w base vp vw n) (hq : Blk w k T cs) (h1 : Nat.beq T 47 = false) (h2 : Nat.beq T 56 = false) (hg : w.grownBy w' (some k)) : OwnNet w' base vp vw n := ⟨own_type h.ports hq h1 hg, own_type h.ways hq h2 hg⟩
set_option maxHeartbeats 1000000 in
set_option maxRecDepth 100000 in
theorem known_any (w : World) : Calls Try.prog 13 #[] w fun e w' => e = .returned (.bool true) ∧ Below w.heap.size w w' := by
  have hbw := Below.refl w.heap.size w
  refine EC.enter 103 Try.func13 rfl rfl rfl ?_
  refine EC.seq ?_
  refine EC.region ?_
  refine EL.val (x_assign rfl) rfl ?_
  refine EL.nil ?_
  refine EX.seq ?_
  refine EC.seq ?_
  refine EC.region ?_
  have sz_hbw := hbw.size
  refine EL.call cl_37 rfl (three_any _) ?_
  rintro e w1 ⟨⟨vp1, vw1, rfl, hn⟩, hc1⟩
  refine ⟨_, rfl, ?_⟩
  replace hbw := Below.on hbw hc1 hbw.size
  clear hc1
  refine EL.call (cl_15 rfl) rfl (move_any net3 _ _ _ _ hn.rd (Nat.le_refl _) (by decide) (by decide)) ?_
  rintro e w2 ⟨⟨vm, vr, ml, c, pr, e, rfl, hm, hrm, hrp⟩, hc2⟩
  refine ⟨_, rfl, ?_⟩
  obtain ⟨rfl, rfl, rfl, rfl⟩ := known_move hm
  obtain ⟨Am, cm_, rfl, _⟩ := hrm.shape
  obtain ⟨Ar, cr_, rfl, _⟩ := hrp.shape
  replace hbw := Below.on hbw hc2 hbw.size
  clear hc2
  have hbM := Below.refl w2.heap.size w2
  refine EL.val (x_move rfl) rfl ?_
  refine EL.val (x_extract rfl rfl) rfl ?_
  refine EL.val (x_extract rfl rfl) rfl ?_
  refine EL.val (x_extract rfl rfl) rfl ?_
  refine EL.val (x_extract rfl rfl) rfl ?_
  refine EL.val (x_assign rfl) rfl ?_
  refine EL.val (x_assign rfl) rfl ?_
  refine EL.val (x_assign rfl) rfl ?_
  refine EL.val (x_assign rfl) rfl ?_
  refine EL.nil ?_
  refine EX.seq ?_
  refine EC.seq ?_
  refine EC.region ?_
  have sz_hbw := hbw.size
  have sz_hbM := hbM.size
  refine EL.call cl_37 rfl (three_any _) ?_
  rintro e w3 ⟨⟨vp3, vw3, rfl, hn⟩, hc3⟩
  refine ⟨_, rfl, ?_⟩
  replace hbw := Below.on hbw hc3 hbw.size
  replace hbM := Below.on hbM hc3 hbM.size
  clear hc3
  refine EL.newS (bs_29_3 rfl rfl rfl) rfl ?_
  intro g4 w4 q4 hb4 hg4 hl4
  have bhbw_4 := Nat.le_trans hbw.size hg4
  have bhbM_4 := Nat.le_trans hbM.size hg4
  replace hn := hn.below hb4
  replace hbw := Below.on hbw hb4 hbw.size
  replace hbM := Below.on hbM hb4 hbM.size
  clear hb4 hg4 hl4
  refine EL.call (cl_32 rfl rfl) rfl (bound_any net3 _ _ _ _ hn.rd (Nat.le_refl _) (by decide) (by decide) [0, 150, 200] _ (rd_blk (k := 3) (l := ints [0, 150, 200]) q4 rfl) (by decide)) ?_
  rintro e w5 ⟨rfl, hc5⟩
  refine ⟨_, rfl, ?_⟩
  rw [known_bound.1, known_bound.2]
  replace hbw := Below.on hbw hc5 hbw.size
  replace hbM := Below.on hbM hc5 hbM.size
  clear hc5
  refine EL.val (x_move rfl) rfl ?_
  refine EL.val (x_extract rfl rfl) rfl ?_
  refine EL.val (x_extract rfl rfl) rfl ?_
  refine EL.val (x_assign rfl) rfl ?_
  refine EL.val (x_assign rfl) rfl ?_
  refine EL.nil ?_
  refine EX.seq ?_
  refine EC.seq ?_
  refine EC.region ?_
  have sz_hbw := hbw.size
  have sz_hbM := hbM.size
  refine EL.call cl_37 rfl (three_any _) ?_
  rintro e w6 ⟨⟨vp6, vw6, rfl, hn⟩, hc6⟩
  refine ⟨_, rfl, ?_⟩
  replace hbw := Below.on hbw hc6 hbw.size
  replace hbM := Below.on hbM hc6 hbM.size
  clear hc6
  refine EL.call (cl_26 rfl rfl) rfl (more_any net3 1 _ _ _ _ hn.rd (Nat.le_refl _) (by decide) (by decide)) ?_
  rintro e w7 ⟨⟨m_, e_, rfl, hmr⟩, hc7⟩
  refine ⟨_, rfl, ?_⟩
  obtain ⟨rfl, rfl⟩ := known_more hmr
  replace hbw := Below.on hbw hc7 hbw.size
  replace hbM := Below.on hbM hc7 hbM.size
  clear hc7
  refine EL.val (x_move rfl) rfl ?_
  refine EL.val (x_extract rfl rfl) rfl ?_
  refine EL.val (x_extract rfl rfl) rfl ?_
  refine EL.val (x_assign rfl) rfl ?_
  refine EL.val (x_assign rfl) rfl ?_
  refine EL.nil ?_
  refine EX.seq ?_
  refine EC.seq ?_
  refine EC.region ?_
  have sz_hbw := hbw.size
  have sz_hbM := hbM.size
  refine EL.call cl_37 rfl (three_any _) ?_
  rintro e w8 ⟨⟨vp8, vw8, rfl, hn⟩, hc8⟩
  refine ⟨_, rfl, ?_⟩
  replace hbw := Below.on hbw hc8 hbw.size
  replace hbM := Below.on hbM hc8 hbM.size
  clear hc8
  obtain ⟨Ap, cp_, ep_, _⟩ := (Rd.of_own hn.ports).shape
  have ep_ : vp8 = .slice Ap 3 cp_ := ep_
  subst ep_
  obtain ⟨gp, eg_⟩ := own_slice (m := 3) hn.ports (by omega)
  subst eg_
  obtain ⟨Aw, cw_, ew_, _⟩ := (Rd.of_own hn.ways).shape
  have ew_ : vw8 = .slice Aw 3 cw_ := ew_
  subst ew_
  refine EL.newP al_25 rfl ?_
  intro g9 w9 q9 hb9 hg9 hl9
  have bhbw_9 := Nat.le_trans hbw.size hg9
  have bhbM_9 := Nat.le_trans hbM.size hg9
  replace hn := hn.below hb9
  replace hbw := Below.on hbw hb9 hbw.size
  replace hbM := Below.on hbM hb9 hbM.size
  clear hb9 hg9 hl9
  refine EL.store rfl rfl q9 sz_25 rfl rfl rfl rfl ?_
  intro w10 hq10 hg10
  replace hn := hn.box q9 rfl rfl hg10
  replace hbw := below_store hbw hg10 bhbw_9
  replace hbM := below_store hbM hg10 bhbM_9
  replace q9 := hq10
  clear hg10 hq10
  refine EL.nil ?_
  refine EX.seq ?_
  refine EC.seq ?_
  refine EC.region ?_
  refine EL.val (fa_25_0 rfl) rfl ?_
  refine EL.val (ld_22 rfl (q9.at (j := 0) rfl)) rfl ?_
  refine EL.val (ix_22 (k := 2) rfl rfl (by omega)) rfl ?_
  refine EL.val (fa_47_1 rfl) rfl ?_
  have hnw := hn.ways
  refine EL.storeRow (l' := [.int .i64 8]) rfl rfl hn.ports sz_3 rfl rfl (by decide) rfl ?_
  intro w11 ho2 hgr
  have hn8 : OwnNet w11 w7.heap.size (.slice (some ⟨gp, 0, none⟩) 3 cp_) (.slice Aw 3 cw_) net8 := ⟨ho2, own_grown hnw hn.ports rfl hgr⟩
  replace q9 := blk_grown q9 hn.ports rfl hgr
  replace hbw := hbw.trans (below_row (own_less hn.ports sz_hbw) hgr hbw.size)
  replace hbM := hbM.trans (below_row (own_less hn.ports sz_hbM) hgr hbM.size)
  clear hn hnw ho2 hgr
  refine EL.nil ?_
  refine EX.seq ?_
  refine EC.seq ?_
  refine EC.region ?_
  refine EL.val (ld_25 rfl (q9.at (j := 0) rfl) (q9.at (j := 1) rfl)) rfl ?_
  refine EL.call (cl_23 rfl) rfl (lacks_any net8 _ _ _ _ hn8.rd (Nat.le_refl _) (by decide) (by decide)) ?_
  rintro e w12 ⟨⟨vl, ls, lack, e_, rfl, hlr, hrl⟩, hc12⟩
  refine ⟨_, rfl, ?_⟩
  obtain ⟨hl3, rfl, rfl⟩ := known_lacks hlr
  obtain ⟨Al, cl_, rfl, _⟩ := hrl.shape
  rw [hl3]
  replace q9 := q9.below hc12 q9.lt
  replace hbw := Below.on hbw hc12 hbw.size
  replace hbM := Below.on hbM hc12 hbM.size
  clear hc12
  refine EL.val (x_move rfl) rfl ?_
  refine EL.val (x_extract rfl rfl) rfl ?_
  refine EL.val (x_extract rfl rfl) rfl ?_
  refine EL.val (x_extract rfl rfl) rfl ?_
  refine EL.val (x_assign rfl) rfl ?_
  refine EL.val (x_assign rfl) rfl ?_
  refine EL.val (x_assign rfl) rfl ?_
  refine EL.nil ?_
  refine EX.seq ?_
  refine EC.seq ?_
  refine EC.seq ?_
  refine EC.region ?_
  refine EL.val (x_move rfl) rfl ?_
  refine EL.val (x_neq (r := false) rfl rfl (by decide)) rfl ?_
  refine EL.val (x_move rfl) rfl ?_
  refine EL.valg rfl rfl (x_move rfl) rfl ?_
  refine EL.valg rfl rfl (x_neq (r := false) rfl rfl (by decide)) rfl ?_
  refine EL.val (x_pick_f rfl rfl) rfl ?_
  refine EL.val (x_move rfl) rfl ?_
  refine EL.valg rfl rfl (x_move rfl) rfl ?_
  refine EL.valg rfl rfl (x_neq (r := false) rfl rfl (by decide)) rfl ?_
  refine EL.val (x_pick_f rfl rfl) rfl ?_
  refine EL.val (x_move rfl) rfl ?_
  refine EL.valg rfl rfl (x_move rfl) rfl ?_
  refine EL.valg rfl rfl (x_neq (r := false) rfl rfl (by decide)) rfl ?_
  refine EL.val (x_pick_f rfl rfl) rfl ?_
  refine EL.val (x_move rfl) rfl ?_
  refine EL.valg rfl rfl (x_move rfl) rfl ?_
  refine EL.valg rfl rfl (ln_29 rfl) rfl ?_
  refine EL.valg rfl rfl (x_neq (r := false) rfl rfl (by decide)) rfl ?_
  refine EL.val (x_pick_f rfl rfl) rfl ?_
  refine EL.val (x_move rfl) rfl ?_
  refine EL.valg rfl rfl (x_move rfl) rfl ?_
  refine EL.valg rfl rfl (ln_29 rfl) rfl ?_
  refine EL.valg rfl rfl (x_neq (r := false) rfl rfl (by decide)) rfl ?_
  refine EL.val (x_pick_f rfl rfl) rfl ?_
  refine EL.val (x_move rfl) rfl ?_
  refine EL.valg rfl rfl (x_move rfl) rfl ?_
  refine EL.valg rfl rfl (ln_29 rfl) rfl ?_
  refine EL.valg rfl rfl (x_neq (r := false) rfl rfl (by decide)) rfl ?_
  refine EL.val (x_pick_f rfl rfl) rfl ?_
  refine EL.nil ?_
  refine EX.seq ?_
  refine EC.no rfl ?_
  refine EC.skip ?_
  refine EX.seq ?_
  refine EC.seq ?_
  refine EC.region ?_
  obtain ⟨bm, om, em_, _, c0_⟩ := ints_cells [3, 4, 0] 0 (by decide) _ _ _ _ _ hrm
  obtain ⟨bm2, om2, em2_, _, c1_⟩ := ints_cells [3, 4, 0] 1 (by decide) _ _ _ _ _ hrm
  obtain ⟨br, or_, er_, _, c2_⟩ := ints_cells [0, 150, 200] 0 (by decide) _ _ _ _ _ hrp
  subst em_
  subst er_
  injection em2_ with em2_
  injection em2_ with e1_ e2_
  subst e1_
  subst e2_
  refine EL.val (x_move rfl) rfl ?_
  refine EL.val (x_eql (r := true) rfl rfl (by decide)) rfl ?_
  refine EL.val (x_move rfl) rfl ?_
  refine EL.valg rfl rfl (x_move rfl) rfl ?_
  refine EL.valg rfl rfl (x_eql (r := true) rfl rfl (by decide)) rfl ?_
  refine EL.val (x_pick_t rfl rfl) rfl ?_
  refine EL.val (x_move rfl) rfl ?_
  refine EL.valg rfl rfl (x_move rfl) rfl ?_
  refine EL.valg rfl rfl (x_eql (r := true) rfl rfl (by decide)) rfl ?_
  refine EL.val (x_pick_t rfl rfl) rfl ?_
  refine EL.val (x_move rfl) rfl ?_
  refine EL.valg rfl rfl (x_move rfl) rfl ?_
  refine EL.valg rfl rfl (x_eql (r := true) rfl rfl (by decide)) rfl ?_
  refine EL.val (x_pick_t rfl rfl) rfl ?_
  refine EL.val (x_move rfl) rfl ?_
  refine EL.valg rfl rfl (x_move rfl) rfl ?_
  refine EL.valg rfl rfl (ix_29 (k := 0) rfl rfl (by decide)) rfl ?_
  refine EL.valg rfl rfl (ld_3 rfl (below_load hbM c0_)) rfl ?_
  refine EL.valg rfl rfl (x_eql (r := true) rfl rfl (by decide)) rfl ?_
  refine EL.val (x_pick_t rfl rfl) rfl ?_
  refine EL.val (x_move rfl) rfl ?_
  refine EL.valg rfl rfl (x_move rfl) rfl ?_
  refine EL.valg rfl rfl (ix_29 (k := 1) rfl rfl (by decide)) rfl ?_
  refine EL.valg rfl rfl (ld_3 rfl (below_load hbM c1_)) rfl ?_
  refine EL.valg rfl rfl (x_eql (r := true) rfl rfl (by decide)) rfl ?_
  refine EL.val (x_pick_t rfl rfl) rfl ?_
  refine EL.val (x_move rfl) rfl ?_
  refine EL.valg rfl rfl (x_move rfl) rfl ?_
  refine EL.valg rfl rfl (ix_29 (k := 0) rfl rfl (by decide)) rfl ?_
  refine EL.valg rfl rfl (ld_3 rfl (below_load hbM c2_)) rfl ?_
  refine EL.valg rfl rfl (x_eql (r := true) rfl rfl (by decide)) rfl ?_
  refine EL.val (x_pick_t rfl rfl) rfl ?_
  refine EL.val (x_assign rfl) rfl ?_
  refine EL.nil ?_
  refine EX.seq ?_
  refine EC.ret ?_
  exact EX.done (res1 rfl rfl) ⟨rfl, hbw⟩
end Go.Proofs.Ytabgmnmpdjnjoaa
namespace Go.Proofs.Ytabgmnmpdjnjoaa
open Go Go.ChangeShapes Go.WideShapes Go.Deep Go.RowKit Go.Joins
theorem cell_spot {w : World} {x : Addr} {u : Value} (h : w.cell? x = some u) : x.spot = none ∧ x.block < w.heap.size := by
  unfold World.cell? at h
  split at h
  · rename_i c e f hg
    split at h
    · cases h
    · rename_i hs
      refine ⟨by simpa using hs, ?_⟩
      rcases Nat.lt_or_ge x.block w.heap.size with hlt | hge
      · exact hlt
      · rw [Array.getElem?_eq_none hge] at hg; cases hg
  · cases h
section
variable {H : Type} {enc : TypeId × Value → H} {P : Program} {w : World} {base : Nat} {spare : Nat → Bool} {held : Bool}
/-- rows of cells, one behind the other -/
theorem rd_of_cells {b off n c s : Nat} {B : Nat} (row : Nat → List Value) (hlen : ∀ i, (row i).length = s) (hs : 0 < s) (hB : b < B) (hnc : n ≤ c)
    (hcell : ∀ i, i < n → ∀ j u, (row i)[j]? = some u → w.cell? ⟨b, off + (i * s + j), none⟩ = some u) :
    Rd w B s (.slice (some ⟨b, off, none⟩) n c) n ((List.range n).flatMap row) := by
  refine ⟨by rw [flat_len hlen, List.length_range], _, _, rfl, hnc, fun _ => ⟨b, off, rfl, hB, fun q u hu => ?_⟩⟩
  have hq : q < n * s := by
    have := (List.getElem?_eq_some_iff.1 hu).1
    rwa [flat_len hlen, List.length_range] at this
  have hk : q / s < n := by
    rw [Nat.div_lt_iff_lt_mul hs]
    exact hq
  have e : q = q / s * s + q % s := by rw [Nat.mul_comm]; exact (Nat.div_add_mod q s).symm
  have hg := flat_get hlen (List.range n) (q / s) (by simpa using hk) (q % s) (Nat.mod_lt _ hs)
  rw [← e, List.getElem_range] at hg
  rw [hg] at hu
  have := hcell (q / s) hk (q % s) u hu
  rwa [← e] at this
theorem add_lit_more (x : Addr) (n : Nat) (h : x.spot = none) : x.add n = ⟨x.block, x.off + n, none⟩ := by
  obtain ⟨b, o, s⟩ := x
  subst h
  rw [Addr.add_lit]
/-- a slice, opened to its elements -/
theorem rd_list {α : Type} [Inhabited α] {f : α → List Value} {s : Nat} {Good : α → Prop} (hf : ∀ x, (f x).length = s) (hs : 0 < s) {t e : TypeId} {fuel : Nat} {v : Value} {x : DataW H × List MemPlace} (ht : P.underlying t = some (.slice e)) (hC : P.cellsOf e = s)
    (hE : ∀ (fuel : Nat) (cs : List Value) (x : DataW H × List MemPlace), cs.length = s → DataW.trod enc P w base spare held fuel e cs = some x → ∃ y : α, cs = f y ∧ Good y) (h : DataW.trod enc P w base spare held fuel t [v] = some x) :
    ∃ l : List α, Rd w w.heap.size s v l.length (l.flatMap f) ∧ (∀ y ∈ l, Good y) ∧ l.length ≤ maxLen := by
  rcases open_slice ht h with ⟨hcs, _⟩ | ⟨a, len, cap, m, n, D, Pl, hcs, _, hl, hcap, hm, _, hi⟩
  · injection hcs with hcs
    subst hcs
    exact ⟨[], Rd.nil_ _ _ _, by simp, Nat.zero_le _⟩
  · injection hcs with hcs
    subst hcs
    have hcell : ∀ i, i < len → ∃ y : α, (∀ j u, (f y)[j]? = some u → w.cell? (a.add (i * s + j)) = some u) ∧ Good y := by
      intro i hi'
      obtain ⟨cs', hc, ht'⟩ := hi i (by rw [hm]; split <;> omega)
      rw [hC] at hc
      obtain ⟨_, hcl, hat⟩ := World.cells?_some hc
      obtain ⟨y, hy, hg⟩ := hE _ cs' _ hcl ht'
      subst hy
      refine ⟨y, fun j u hu => ?_, hg⟩
      have hj : j < s := by
        have := (List.getElem?_eq_some_iff.1 hu).1
        rwa [hf] at this
      have h1 := hat j hj
      rw [Go.Deep.add_add] at h1
      rw [h1, hu]
    let pick : Nat → α := fun i => if h : i < len then Classical.choose (hcell i h) else default
    have hpick : ∀ i, (h : i < len) → (∀ j u, (f (pick i))[j]? = some u → w.cell? (a.add (i * s + j)) = some u) ∧ Good (pick i) := fun i h => by
      have := Classical.choose_spec (hcell i h)
      simp only [pick, dif_pos h]
      exact this
    refine ⟨(List.range len).map pick, ?_, ?_, by simp; omega⟩
    · rw [List.length_map, List.length_range]
      rcases Nat.eq_zero_or_pos len with hz | hz
      · subst hz
        exact ⟨by simp, _, _, rfl, hl, fun h => absurd h (by omega)⟩
      · have h0 := (hpick 0 hz).1 0 _ (List.getElem?_eq_getElem (by rw [hf]; exact hs))
        obtain ⟨hsp, hb⟩ := cell_spot h0
        have e0 : a.add (0 * s + 0) = a := by simp [Addr.add]
        rw [e0] at hsp hb
        have hx : a = ⟨a.block, a.off, none⟩ := by obtain ⟨b, o, s⟩ := a; subst hsp; rfl
        rw [hx, List.flatMap_map]
        refine rd_of_cells _ (fun i => hf _) hs hb hl fun i hi' j u hu => ?_
        have h1 := (hpick i hi').1 j u hu
        rw [add_lit_more a _ hsp] at h1
        exact h1
    · intro y hy
      obtain ⟨i, hi', rfl⟩ := List.mem_map.1 hy
      exact (hpick i (by simpa using hi')).2
theorem fld_of {fs : Array Field} {n : Nat} {cs : List Value} {ys : List (DataW H × List MemPlace)} (hf : ∀ (i : Nat) (f : Field), fs[i]? = some f → DataW.trod enc P w base spare held n f.type ((cs.drop f.offset).take (P.cellsOf f.type)) = ys[i]?)
    {j ft off z : Nat} {f : Field} (hj : fs[j]? = some f) (h1 : f.type = ft) (h2 : f.offset = off) (h3 : P.cellsOf ft = z) : DataW.trod enc P w base spare held n ft ((cs.drop off).take z) = ys[j]? := by
  subst h1 h2 h3
  exact hf j f hj
end
section
variable {H : Type} {enc : TypeId × Value → H} {w : World} {base : Nat} {spare : Nat → Bool} {held : Bool}
theorem co_3 : Try.prog.cellsOf 3 = 1 := by kernel_rfl
set_option maxRecDepth 100000 in
theorem cells_47 {fuel : Nat} {cs : List Value} {x : DataW H × List MemPlace} (hl : cs.length = 2) (h : DataW.trod enc Try.prog w base spare held fuel 47 cs = some x) : ∃ (z0 : Int) (z1 : Int), cs = [.int .i64 z0, .int .i64 z1] := by
  obtain ⟨ys, n, _, _, _, hyl, hf⟩ := DataW.trod_struct Try.underlying47 h
  match cs, hl with
  | [u0, u1], _ =>
    match ys, hyl with
    | [y0, y1], _ =>
      have q0 : DataW.trod enc Try.prog w base spare held n 3 [u0] = some y0 := fld_of hf (j := 0) rfl rfl rfl co_3
      obtain ⟨z0, hz0, _, _⟩ := DataW.trod_int Try.underlying3 q0
      injection hz0 with hz0
      subst hz0
      have q1 : DataW.trod enc Try.prog w base spare held n 3 [u1] = some y1 := fld_of hf (j := 1) rfl rfl rfl co_3
      obtain ⟨z1, hz1, _, _⟩ := DataW.trod_int Try.underlying3 q1
      injection hz1 with hz1
      subst hz1
      exact ⟨z0, z1, rfl⟩
theorem co_47 : Try.prog.cellsOf 47 = 2 := by kernel_rfl
set_option maxRecDepth 100000 in
theorem cells_56 {fuel : Nat} {cs : List Value} {x : DataW H × List MemPlace} (hl : cs.length = 4) (h : DataW.trod enc Try.prog w base spare held fuel 56 cs = some x) : ∃ (z0 : Int) (z1 : Int) (z2 : Int) (z3 : Int), cs = [.int .i64 z0, .int .i64 z1, .int .i64 z2, .int .i64 z3] := by
  obtain ⟨ys, n, _, _, _, hyl, hf⟩ := DataW.trod_struct Try.underlying56 h
  match cs, hl with
  | [u0, u1, u2, u3], _ =>
    match ys, hyl with
    | [y0, y1, y2, y3], _ =>
      have q0 : DataW.trod enc Try.prog w base spare held n 3 [u0] = some y0 := fld_of hf (j := 0) rfl rfl rfl co_3
      obtain ⟨z0, hz0, _, _⟩ := DataW.trod_int Try.underlying3 q0
      injection hz0 with hz0
      subst hz0
      have q1 : DataW.trod enc Try.prog w base spare held n 3 [u1] = some y1 := fld_of hf (j := 1) rfl rfl rfl co_3
      obtain ⟨z1, hz1, _, _⟩ := DataW.trod_int Try.underlying3 q1
      injection hz1 with hz1
      subst hz1
      have q2 : DataW.trod enc Try.prog w base spare held n 3 [u2] = some y2 := fld_of hf (j := 2) rfl rfl rfl co_3
      obtain ⟨z2, hz2, _, _⟩ := DataW.trod_int Try.underlying3 q2
      injection hz2 with hz2
      subst hz2
      have q3 : DataW.trod enc Try.prog w base spare held n 3 [u3] = some y3 := fld_of hf (j := 3) rfl rfl rfl co_3
      obtain ⟨z3, hz3, _, _⟩ := DataW.trod_int Try.underlying3 q3
      injection hz3 with hz3
      subst hz3
      exact ⟨z0, z1, z2, z3, rfl⟩
theorem co_56 : Try.prog.cellsOf 56 = 4 := by kernel_rfl
theorem co_22 : Try.prog.cellsOf 22 = 1 := by kernel_rfl
theorem co_23 : Try.prog.cellsOf 23 = 1 := by kernel_rfl
set_option maxRecDepth 100000 in
theorem cells_25 {fuel : Nat} {cs : List Value} {x : DataW H × List MemPlace} (hl : cs.length = 2) (h : DataW.trod enc Try.prog w base spare held fuel 25 cs = some x) : ∃ (v0 : Value) (v1 : Value), cs = [v0, v1] ∧ (∃ n x, DataW.trod enc Try.prog w base spare held n 22 [v0] = some x) ∧ (∃ n x, DataW.trod enc Try.prog w base spare held n 23 [v1] = some x) := by
  obtain ⟨ys, n, _, _, _, hyl, hf⟩ := DataW.trod_struct Try.underlying25 h
  match cs, hl with
  | [u0, u1], _ =>
    match ys, hyl with
    | [y0, y1], _ =>
      have q0 : DataW.trod enc Try.prog w base spare held n 22 [u0] = some y0 := fld_of hf (j := 0) rfl rfl rfl co_22
      have q1 : DataW.trod enc Try.prog w base spare held n 23 [u1] = some y1 := fld_of hf (j := 1) rfl rfl rfl co_23
      exact ⟨u0, u1, rfl, ⟨_, _, q0⟩, ⟨_, _, q1⟩⟩
theorem co_25 : Try.prog.cellsOf 25 = 2 := by kernel_rfl
theorem cells_len_25 {fuel : Nat} {v : Value} {x : DataW H × List MemPlace} (h : DataW.trod enc Try.prog w base spare held fuel 25 v.cells.toList = some x) : v.cells.toList.length = 2 := by
  obtain ⟨_, _, _, _, hlen, _, _⟩ := DataW.trod_struct Try.underlying25 h
  rw [hlen]
  exact co_25
instance : Inhabited Prt := ⟨prt0⟩
instance : Inhabited Way := ⟨way0⟩
theorem rd_prts {fuel : Nat} {v : Value} {x : DataW H × List MemPlace} (h : DataW.trod enc Try.prog w base spare held fuel 22 [v] = some x) : ∃ l : List Prt, Rd w w.heap.size 2 v l.length (prtsC l) ∧ l.length ≤ maxLen := by
  obtain ⟨l, h1, _, h2⟩ := rd_list (f := prtC) (Good := fun _ => True) prtC_len (by omega) Try.underlying22 co_47 (fun _ cs _ hl ht => by
    obtain ⟨a, b, rfl⟩ := cells_47 hl ht
    exact ⟨⟨a, b⟩, rfl, trivial⟩) h
  exact ⟨l, h1, h2⟩
theorem rd_ways {fuel : Nat} {v : Value} {x : DataW H × List MemPlace} (h : DataW.trod enc Try.prog w base spare held fuel 23 [v] = some x) : ∃ l : List Way, Rd w w.heap.size 4 v l.length (waysC l) ∧ l.length ≤ maxLen := by
  obtain ⟨l, h1, _, h2⟩ := rd_list (f := wayC) (Good := fun _ => True) wayC_len (by omega) Try.underlying23 co_56 (fun _ cs _ hl ht => by
    obtain ⟨a, b, c, d, rfl⟩ := cells_56 hl ht
    exact ⟨⟨a, b, c, d⟩, rfl, trivial⟩) h
  exact ⟨l, h1, h2⟩
theorem net_of {v : Value} {d : DataW H} {p : List MemPlace} (h : DataW.Trod enc Try.prog w base spare held 25 v d p) : ∃ (nt : Net) (vp vw : Value), v = .agg #[vp, vw] ∧ RdNet w w.heap.size vp vw nt ∧ nt.ports.length ≤ maxLen ∧ nt.ways.length ≤ maxLen := by
  obtain ⟨fuel, hf⟩ := h
  obtain ⟨a, b, he, ⟨_, _, ha⟩, ⟨_, _, hb⟩⟩ := cells_25 (cells_len_25 hf) hf
  obtain ⟨l, h1, h2⟩ := rd_prts ha
  obtain ⟨m, h3, h4⟩ := rd_ways hb
  refine ⟨⟨l, m⟩, a, b, ?_, ⟨h1, h3⟩, h2, h4⟩
  cases v with
    | agg cs =>
      have : cs = #[a, b] := by
        apply Array.ext'
        simpa [Value.cells] using he
      rw [this]
    | _ => simp [Value.cells] at he
end
end Go.Proofs.Ytabgmnmpdjnjoaa
set_option linter.unusedVariables false
set_option linter.unusedSimpArgs false
namespace Go.Proofs.Ytabgmnmpdjnjoaa
open Go Go.RowKit
section
variable {n : Nat} {σ : Sg} {w : World} {dst : Option Tmp} {ty : TypeId} {pos : String} {af : Array Edge} {g : Option (Nat × Bool)} {x y z : Operand} {at' : Array TypeId}
theorem cl_42 {x0 x1 x2 : Operand} {v0 v1 v2 : Value} (h0 : evS σ x0 = some v0) (h1 : evS σ x1 = some v1) (h2 : evS σ x2 = some v2) (a : Act) (ha : Env n σ a) : (execOp a.eval ⟨dst, .call { callee := .value (.func 42), args := #[x0, x1, x2], argTypes := at' }, ty, pos, af, g⟩).run Try.prog w = .ok (.enter 42 #[v0, v1, v2]) w := by
  simp only [execOp, resolve, List.map_toArray, List.map_cons, List.map_nil, ha.eval h0, ha.eval h1, ha.eval h2]
  simp [go_sem, Act.eval]
theorem cl_43 {x0 : Operand} {v0 : Value} (h0 : evS σ x0 = some v0) (a : Act) (ha : Env n σ a) : (execOp a.eval ⟨dst, .call { callee := .value (.func 43), args := #[x0], argTypes := at' }, ty, pos, af, g⟩).run Try.prog w = .ok (.enter 43 #[v0]) w := by
  simp only [execOp, resolve, List.map_toArray, List.map_cons, List.map_nil, ha.eval h0]
  simp [go_sem, Act.eval]
theorem cl_44 {x0 x1 : Operand} {v0 v1 : Value} (h0 : evS σ x0 = some v0) (h1 : evS σ x1 = some v1) (a : Act) (ha : Env n σ a) : (execOp a.eval ⟨dst, .call { callee := .value (.func 44), args := #[x0, x1], argTypes := at' }, ty, pos, af, g⟩).run Try.prog w = .ok (.enter 44 #[v0, v1]) w := by
  simp only [execOp, resolve, List.map_toArray, List.map_cons, List.map_nil, ha.eval h0, ha.eval h1]
  simp [go_sem, Act.eval]
end
end Go.Proofs.Ytabgmnmpdjnjoaa
set_option linter.unusedVariables false
set_option linter.unusedSimpArgs false
namespace Go.Proofs.Ytabgmnmpdjnjoaa
open Go Go.RowKit
theorem rin_any {n lo hi : Int} {b : Bool} (w : World) (h : inB lo hi n = b) :
    Calls Try.prog 42 #[.int .i64 n, .int .i64 lo, .int .i64 hi] w fun e w' => e = .returned (.bool b) ∧ Below w.heap.size w w' := by
  have hbw := Below.refl w.heap.size w
  refine EC.enter 15 Try.func42 rfl rfl rfl ?_
  refine EC.seq ?_
  refine EC.region ?_
  refine EL.val (x_assign rfl) rfl ?_
  refine EL.nil ?_
  refine EX.seq ?_
  refine EC.seq ?_
  refine EC.region ?_
  refine EL.val (x_move rfl) rfl ?_
  refine EL.val (x_move rfl) rfl ?_
  by_cases h1 : lo ≤ n
  ·
    refine EL.val (x_geq rfl rfl (by first | assumption | exact decide_eq_true (by omega))) rfl ?_
    refine EL.val (x_move rfl) rfl ?_
    refine EL.valg rfl rfl (x_move rfl) rfl ?_
    refine EL.valg rfl rfl (x_move rfl) rfl ?_
    by_cases h2 : n ≤ hi
    ·
      refine EL.valg rfl rfl (x_leq rfl rfl (by first | assumption | exact decide_eq_true (by omega))) rfl ?_
      refine EL.val (x_pick_t rfl rfl) rfl ?_
      refine EL.val (x_assign rfl) rfl ?_
      refine EL.nil ?_
      refine EX.seq ?_
      refine EC.ret ?_
      exact EX.done (res1 rfl rfl) ⟨by congr 2; rw [← h]; symm; first | (rw [inB_iff]; omega) | (rw [inB_not]; omega), hbw⟩
    ·
      refine EL.valg rfl rfl (x_leq rfl rfl (by first | assumption | exact decide_eq_false (by omega))) rfl ?_
      refine EL.val (x_pick_t rfl rfl) rfl ?_
      refine EL.val (x_assign rfl) rfl ?_
      refine EL.nil ?_
      refine EX.seq ?_
      refine EC.ret ?_
      exact EX.done (res1 rfl rfl) ⟨by congr 2; rw [← h]; symm; first | (rw [inB_iff]; omega) | (rw [inB_not]; omega), hbw⟩
  ·
    refine EL.val (x_geq rfl rfl (by first | assumption | exact decide_eq_false (by omega))) rfl ?_
    refine EL.val (x_move rfl) rfl ?_
    refine EL.skip rfl rfl rfl rfl ?_
    refine EL.skip rfl rfl rfl rfl ?_
    refine EL.skip rfl rfl rfl rfl ?_
    refine EL.val (x_pick_f rfl rfl) rfl ?_
    refine EL.val (x_assign rfl) rfl ?_
    refine EL.nil ?_
    refine EX.seq ?_
    refine EC.ret ?_
    exact EX.done (res1 rfl rfl) ⟨by congr 2; rw [← h]; symm; first | (rw [inB_iff]; omega) | (rw [inB_not]; omega), hbw⟩
theorem rport_any {p : Prt} {b : Bool} (w : World) (h : prtB p = b) :
    Calls Try.prog 43 #[.agg #[.int .i64 p.has, .int .i64 p.wants]] w fun e w' => e = .returned (.bool b) ∧ Below w.heap.size w w' := by
  have hbw := Below.refl w.heap.size w
  refine EC.enter 11 Try.func43 rfl rfl rfl ?_
  refine EC.seq ?_
  refine EC.region ?_
  refine EL.newP (bx_47 rfl) rfl ?_
  intro g1 w1 q1 hb1 hg1 hl1
  have bhbw_1 := Nat.le_trans hbw.size hg1
  replace hbw := Below.on hbw hb1 hbw.size
  clear hb1 hg1 hl1
  refine EL.val (x_assign rfl) rfl ?_
  refine EL.nil ?_
  refine EX.seq ?_
  refine EC.seq ?_
  refine EC.region ?_
  refine EL.val (fa_47_0 rfl) rfl ?_
  refine EL.val (ld_3 rfl (q1.at (j := 0) rfl)) rfl ?_
  cases h1 : inB 0 1000 p.has
  ·
    refine EL.call (cl_42 rfl rfl rfl) rfl (rin_any _ h1) ?_
    rintro e w2 ⟨rfl, hc2⟩
    refine ⟨_, rfl, ?_⟩
    replace q1 := q1.below hc2 q1.lt
    replace hbw := Below.on hbw hc2 hbw.size
    clear hc2
    refine EL.val (x_move rfl) rfl ?_
    refine EL.skip rfl rfl rfl rfl ?_
    refine EL.skip rfl rfl rfl rfl ?_
    refine EL.skip rfl rfl rfl rfl ?_
    refine EL.val (x_pick_f rfl rfl) rfl ?_
    refine EL.val (x_assign rfl) rfl ?_
    refine EL.nil ?_
    refine EX.seq ?_
    refine EC.ret ?_
    exact EX.done (res1 rfl rfl) ⟨by rw [← h]; simp [prtB, *], hbw⟩
  ·
    refine EL.call (cl_42 rfl rfl rfl) rfl (rin_any _ h1) ?_
    rintro e w3 ⟨rfl, hc3⟩
    refine ⟨_, rfl, ?_⟩
    replace q1 := q1.below hc3 q1.lt
    replace hbw := Below.on hbw hc3 hbw.size
    clear hc3
    refine EL.val (x_move rfl) rfl ?_
    refine EL.valg rfl rfl (fa_47_1 rfl) rfl ?_
    refine EL.valg rfl rfl (ld_3 rfl (q1.at (j := 1) rfl)) rfl ?_
    cases h2 : inB 0 1000 p.wants
    ·
      refine EL.callg rfl rfl (cl_42 rfl rfl rfl) rfl (rin_any _ h2) ?_
      rintro e w4 ⟨rfl, hc4⟩
      refine ⟨_, rfl, ?_⟩
      replace q1 := q1.below hc4 q1.lt
      replace hbw := Below.on hbw hc4 hbw.size
      clear hc4
      refine EL.val (x_pick_t rfl rfl) rfl ?_
      refine EL.val (x_assign rfl) rfl ?_
      refine EL.nil ?_
      refine EX.seq ?_
      refine EC.ret ?_
      exact EX.done (res1 rfl rfl) ⟨by rw [← h]; simp [prtB, *], hbw⟩
    ·
      refine EL.callg rfl rfl (cl_42 rfl rfl rfl) rfl (rin_any _ h2) ?_
      rintro e w5 ⟨rfl, hc5⟩
      refine ⟨_, rfl, ?_⟩
      replace q1 := q1.below hc5 q1.lt
      replace hbw := Below.on hbw hc5 hbw.size
      clear hc5
      refine EL.val (x_pick_t rfl rfl) rfl ?_
      refine EL.val (x_assign rfl) rfl ?_
      refine EL.nil ?_
      refine EX.seq ?_
      refine EC.ret ?_
      exact EX.done (res1 rfl rfl) ⟨by rw [← h]; simp [prtB, *], hbw⟩
theorem rway_any {n : Nat} {x : Way} {b : Bool} (w : World) (hn : n ≤ 1073741824) (h : wayB n x = b) :
    Calls Try.prog 44 #[.agg #[.int .i64 x.fr, .int .i64 x.to, .int .i64 x.cost, .int .i64 x.room], .int .i64 (n : Nat)] w fun e w' => e = .returned (.bool b) ∧ Below w.heap.size w w' := by
  have hbw := Below.refl w.heap.size w
  refine EC.enter 34 Try.func44 rfl rfl rfl ?_
  refine EC.seq ?_
  refine EC.region ?_
  refine EL.newP (bx_56 rfl) rfl ?_
  intro g1 w1 q1 hb1 hg1 hl1
  have bhbw_1 := Nat.le_trans hbw.size hg1
  replace hbw := Below.on hbw hb1 hbw.size
  clear hb1 hg1 hl1
  refine EL.val (x_assign rfl) rfl ?_
  refine EL.nil ?_
  refine EX.seq ?_
  refine EC.seq ?_
  refine EC.region ?_
  refine EL.val (fa_56_0 rfl) rfl ?_
  refine EL.val (ld_3 rfl (q1.at (j := 0) rfl)) rfl ?_
  refine EL.val (x_move rfl) rfl ?_
  refine EL.val (x_sub rfl rfl (c := ((n : Nat) : Int) - 1) (IntWalk.i64_in _ ⟨by omega, by omega⟩)) rfl ?_
  cases h1 : inB 0 (((n : Nat) : Int) - 1) x.fr
  ·
    refine EL.call (cl_42 rfl rfl rfl) rfl (rin_any _ h1) ?_
    rintro e w2 ⟨rfl, hc2⟩
    refine ⟨_, rfl, ?_⟩
    replace q1 := q1.below hc2 q1.lt
    replace hbw := Below.on hbw hc2 hbw.size
    clear hc2
    refine EL.val (x_move rfl) rfl ?_
    refine EL.skip rfl rfl rfl rfl ?_
    refine EL.skip rfl rfl rfl rfl ?_
    refine EL.skip rfl rfl rfl rfl ?_
    refine EL.skip rfl rfl rfl rfl ?_
    refine EL.skip rfl rfl rfl rfl ?_
    refine EL.val (x_pick_f rfl rfl) rfl ?_
    refine EL.val (x_move rfl) rfl ?_
    refine EL.skip rfl rfl rfl rfl ?_
    refine EL.skip rfl rfl rfl rfl ?_
    refine EL.skip rfl rfl rfl rfl ?_
    refine EL.skip rfl rfl rfl rfl ?_
    refine EL.skip rfl rfl rfl rfl ?_
    refine EL.val (x_pick_f rfl rfl) rfl ?_
    refine EL.val (x_move rfl) rfl ?_
    refine EL.skip rfl rfl rfl rfl ?_
    refine EL.skip rfl rfl rfl rfl ?_
    refine EL.skip rfl rfl rfl rfl ?_
    refine EL.val (x_pick_f rfl rfl) rfl ?_
    refine EL.val (x_move rfl) rfl ?_
    refine EL.skip rfl rfl rfl rfl ?_
    refine EL.skip rfl rfl rfl rfl ?_
    refine EL.skip rfl rfl rfl rfl ?_
    refine EL.val (x_pick_f rfl rfl) rfl ?_
    refine EL.val (x_assign rfl) rfl ?_
    refine EL.nil ?_
    refine EX.seq ?_
    refine EC.ret ?_
    exact EX.done (res1 rfl rfl) ⟨by rw [← h]; simp [wayB, *], hbw⟩
  ·
    refine EL.call (cl_42 rfl rfl rfl) rfl (rin_any _ h1) ?_
    rintro e w3 ⟨rfl, hc3⟩
    refine ⟨_, rfl, ?_⟩
    replace q1 := q1.below hc3 q1.lt
    replace hbw := Below.on hbw hc3 hbw.size
    clear hc3
    refine EL.val (x_move rfl) rfl ?_
    refine EL.valg rfl rfl (fa_56_1 rfl) rfl ?_
    refine EL.valg rfl rfl (ld_3 rfl (q1.at (j := 1) rfl)) rfl ?_
    refine EL.valg rfl rfl (x_move rfl) rfl ?_
    refine EL.valg rfl rfl (x_sub rfl rfl (c := ((n : Nat) : Int) - 1) (IntWalk.i64_in _ ⟨by omega, by omega⟩)) rfl ?_
    cases h2 : inB 0 (((n : Nat) : Int) - 1) x.to
    ·
      refine EL.callg rfl rfl (cl_42 rfl rfl rfl) rfl (rin_any _ h2) ?_
      rintro e w4 ⟨rfl, hc4⟩
      refine ⟨_, rfl, ?_⟩
      replace q1 := q1.below hc4 q1.lt
      replace hbw := Below.on hbw hc4 hbw.size
      clear hc4
      refine EL.val (x_pick_t rfl rfl) rfl ?_
      refine EL.val (x_move rfl) rfl ?_
      refine EL.skip rfl rfl rfl rfl ?_
      refine EL.skip rfl rfl rfl rfl ?_
      refine EL.skip rfl rfl rfl rfl ?_
      refine EL.skip rfl rfl rfl rfl ?_
      refine EL.skip rfl rfl rfl rfl ?_
      refine EL.val (x_pick_f rfl rfl) rfl ?_
      refine EL.val (x_move rfl) rfl ?_
      refine EL.skip rfl rfl rfl rfl ?_
      refine EL.skip rfl rfl rfl rfl ?_
      refine EL.skip rfl rfl rfl rfl ?_
      refine EL.val (x_pick_f rfl rfl) rfl ?_
      refine EL.val (x_move rfl) rfl ?_
      refine EL.skip rfl rfl rfl rfl ?_
      refine EL.skip rfl rfl rfl rfl ?_
      refine EL.skip rfl rfl rfl rfl ?_
      refine EL.val (x_pick_f rfl rfl) rfl ?_
      refine EL.val (x_assign rfl) rfl ?_
      refine EL.nil ?_
      refine EX.seq ?_
      refine EC.ret ?_
      exact EX.done (res1 rfl rfl) ⟨by rw [← h]; simp [wayB, *], hbw⟩
    ·
      refine EL.callg rfl rfl (cl_42 rfl rfl rfl) rfl (rin_any _ h2) ?_
      rintro e w5 ⟨rfl, hc5⟩
      refine ⟨_, rfl, ?_⟩
      replace q1 := q1.below hc5 q1.lt
      replace hbw := Below.on hbw hc5 hbw.size
      clear hc5
      refine EL.val (x_pick_t rfl rfl) rfl ?_
      refine EL.val (x_move rfl) rfl ?_
      refine EL.valg rfl rfl (fa_56_0 rfl) rfl ?_
      refine EL.valg rfl rfl (ld_3 rfl (q1.at (j := 0) rfl)) rfl ?_
      refine EL.valg rfl rfl (fa_56_1 rfl) rfl ?_
      refine EL.valg rfl rfl (ld_3 rfl (q1.at (j := 1) rfl)) rfl ?_
      by_cases h3 : x.fr ≠ x.to
      ·
        refine EL.valg rfl rfl (x_neq rfl rfl (by first | assumption | exact decide_eq_true (by omega))) rfl ?_
        refine EL.val (x_pick_t rfl rfl) rfl ?_
        refine EL.val (x_move rfl) rfl ?_
        refine EL.valg rfl rfl (fa_56_2 rfl) rfl ?_
        refine EL.valg rfl rfl (ld_3 rfl (q1.at (j := 2) rfl)) rfl ?_
        cases h4 : inB 0 1000000 x.cost
        ·
          refine EL.callg rfl rfl (cl_42 rfl rfl rfl) rfl (rin_any _ h4) ?_
          rintro e w6 ⟨rfl, hc6⟩
          refine ⟨_, rfl, ?_⟩
          replace q1 := q1.below hc6 q1.lt
          replace hbw := Below.on hbw hc6 hbw.size
          clear hc6
          refine EL.val (x_pick_t rfl rfl) rfl ?_
          refine EL.val (x_move rfl) rfl ?_
          refine EL.skip rfl rfl rfl rfl ?_
          refine EL.skip rfl rfl rfl rfl ?_
          refine EL.skip rfl rfl rfl rfl ?_
          refine EL.val (x_pick_f rfl rfl) rfl ?_
          refine EL.val (x_assign rfl) rfl ?_
          refine EL.nil ?_
          refine EX.seq ?_
          refine EC.ret ?_
          exact EX.done (res1 rfl rfl) ⟨by rw [← h]; simp [wayB, *], hbw⟩
        ·
          refine EL.callg rfl rfl (cl_42 rfl rfl rfl) rfl (rin_any _ h4) ?_
          rintro e w7 ⟨rfl, hc7⟩
          refine ⟨_, rfl, ?_⟩
          replace q1 := q1.below hc7 q1.lt
          replace hbw := Below.on hbw hc7 hbw.size
          clear hc7
          refine EL.val (x_pick_t rfl rfl) rfl ?_
          refine EL.val (x_move rfl) rfl ?_
          refine EL.valg rfl rfl (fa_56_3 rfl) rfl ?_
          refine EL.valg rfl rfl (ld_3 rfl (q1.at (j := 3) rfl)) rfl ?_
          cases h5 : inB 0 1000 x.room
          ·
            refine EL.callg rfl rfl (cl_42 rfl rfl rfl) rfl (rin_any _ h5) ?_
            rintro e w8 ⟨rfl, hc8⟩
            refine ⟨_, rfl, ?_⟩
            replace q1 := q1.below hc8 q1.lt
            replace hbw := Below.on hbw hc8 hbw.size
            clear hc8
            refine EL.val (x_pick_t rfl rfl) rfl ?_
            refine EL.val (x_assign rfl) rfl ?_
            refine EL.nil ?_
            refine EX.seq ?_
            refine EC.ret ?_
            exact EX.done (res1 rfl rfl) ⟨by rw [← h]; simp [wayB, *], hbw⟩
          ·
            refine EL.callg rfl rfl (cl_42 rfl rfl rfl) rfl (rin_any _ h5) ?_
            rintro e w9 ⟨rfl, hc9⟩
            refine ⟨_, rfl, ?_⟩
            replace q1 := q1.below hc9 q1.lt
            replace hbw := Below.on hbw hc9 hbw.size
            clear hc9
            refine EL.val (x_pick_t rfl rfl) rfl ?_
            refine EL.val (x_assign rfl) rfl ?_
            refine EL.nil ?_
            refine EX.seq ?_
            refine EC.ret ?_
            exact EX.done (res1 rfl rfl) ⟨by rw [← h]; simp [wayB, *], hbw⟩
      ·
        refine EL.valg rfl rfl (x_neq rfl rfl (by first | assumption | exact decide_eq_false (by omega))) rfl ?_
        refine EL.val (x_pick_t rfl rfl) rfl ?_
        refine EL.val (x_move rfl) rfl ?_
        refine EL.skip rfl rfl rfl rfl ?_
        refine EL.skip rfl rfl rfl rfl ?_
        refine EL.skip rfl rfl rfl rfl ?_
        refine EL.val (x_pick_f rfl rfl) rfl ?_
        refine EL.val (x_move rfl) rfl ?_
        refine EL.skip rfl rfl rfl rfl ?_
        refine EL.skip rfl rfl rfl rfl ?_
        refine EL.skip rfl rfl rfl rfl ?_
        refine EL.val (x_pick_f rfl rfl) rfl ?_
        refine EL.val (x_assign rfl) rfl ?_
        refine EL.nil ?_
        refine EX.seq ?_
        refine EC.ret ?_
        exact EX.done (res1 rfl rfl) ⟨by rw [← h]; simp [wayB, *], hbw⟩
section
variable {nt : Net}
theorem net_a (h : inB 1 60 ((nt.ports.length : Nat) : Int) = false) : netB nt = false := by
  cases e : netB nt with
  | false => rfl
  | true =>
    obtain ⟨⟨h1, h2⟩, _⟩ := netB_ok e
    rw [inB_iff.2 ⟨by omega, by omega⟩] at h
    cases h
theorem net_b (h : 300 < nt.ways.length) : netB nt = false := by
  cases e : netB nt with
  | false => rfl
  | true => obtain ⟨_, h2, _⟩ := netB_ok e; omega
theorem net_parts (h : netB nt = true) : nt.ports.all prtB = true ∧ nt.ways.all (wayB nt.ports.length) = true := by
  simp only [netB, Bool.and_eq_true] at h
  exact h.2.2.2
theorem net_c {i : Nat} (hi : i < nt.ports.length) (h : prtB (nt.ports.getD i prt0) = false) : netB nt = false := by
  cases e : netB nt with
  | false => rfl
  | true =>
    have := List.all_eq_true.1 (net_parts e).1 _ (List.getElem_mem hi)
    rw [getD_in hi, this] at h
    cases h
theorem net_d {i : Nat} (hi : i < nt.ways.length) (h : wayB nt.ports.length (nt.ways.getD i way0) = false) : netB nt = false := by
  cases e : netB nt with
  | false => rfl
  | true =>
    have := List.all_eq_true.1 (net_parts e).2 _ (List.getElem_mem hi)
    rw [getD_in hi, this] at h
    cases h
theorem net_e (h1 : inB 1 60 ((nt.ports.length : Nat) : Int) = true) (h2 : ¬300 < nt.ways.length) (h3 : nt.ports.all prtB = true) (h4 : nt.ways.all (wayB nt.ports.length) = true) : netB nt = true := by
  have := inB_iff.1 h1
  simp only [netB, Bool.and_eq_true, decide_eq_true_eq]
  exact ⟨by omega, by omega, by omega, h3, h4⟩
theorem allP_take {l : List Prt} {p : Prt → Bool} {x : Nat} (hx : x < l.length) (h : (l.take x).all p = true) (h2 : p (l.getD x prt0) = true) : (l.take (x + 1)).all p = true := by
  rw [List.take_succ_eq_append_getElem hx, List.all_append, h, show l[x] = l.getD x prt0 by simp [hx]]
  simp only [List.all_cons, List.all_nil, Bool.and_true, Bool.true_and]
  exact h2
theorem allW_take {l : List Way} {p : Way → Bool} {x : Nat} (hx : x < l.length) (h : (l.take x).all p = true) (h2 : p (l.getD x way0) = true) : (l.take (x + 1)).all p = true := by
  rw [List.take_succ_eq_append_getElem hx, List.all_append, h, show l[x] = l.getD x way0 by simp [hx]]
  simp only [List.all_cons, List.all_nil, Bool.and_true, Bool.true_and]
  exact h2
end
set_option maxRecDepth 100000 in
theorem rnet_any (nt : Net) (vp vw : Value) (w : World) (B : Nat) (hr : RdNet w B vp vw nt) (hB : B ≤ w.heap.size) (hn1 : nt.ports.length ≤ 1073741824) (hn2 : nt.ways.length ≤ 1073741824) :
    Calls Try.prog 17 #[.agg #[vp, vw]] w fun e w' => e = .returned (.bool (netB nt)) ∧ Below w.heap.size w w' := by
  obtain ⟨Ap, cp_, rfl, _⟩ := hr.ports.shape
  obtain ⟨Aw, cw_, rfl, _⟩ := hr.ways.shape
  have hbw := Below.refl w.heap.size w
  refine EC.enter 47 Try.func17 rfl rfl rfl ?_
  refine EC.seq ?_
  refine EC.region ?_
  refine EL.newP (bx_25 rfl) rfl ?_
  intro g1 w1 q1 hb1 hg1 hl1
  have bhbw_1 := Nat.le_trans hbw.size hg1
  replace hbw := Below.on hbw hb1 hbw.size
  clear hb1 hg1 hl1
  refine EL.val (x_assign rfl) rfl ?_
  refine EL.nil ?_
  refine EX.seq ?_
  refine EC.seq ?_
  refine EC.seq ?_
  refine EC.region ?_
  refine EL.val (fa_25_0 rfl) rfl ?_
  refine EL.val (ld_22 rfl (q1.at (j := 0) rfl)) rfl ?_
  refine EL.val (ln_22 rfl) rfl ?_
  cases h1 : inB 1 60 ((nt.ports.length : Nat) : Int)
  ·
    refine EL.call (cl_42 rfl rfl rfl) rfl (rin_any _ h1) ?_
    rintro e w2 ⟨rfl, hc2⟩
    refine ⟨_, rfl, ?_⟩
    replace q1 := q1.below hc2 q1.lt
    replace hbw := Below.on hbw hc2 hbw.size
    clear hc2
    refine EL.val (x_not rfl) rfl ?_
    refine EL.val (x_move rfl) rfl ?_
    refine EL.skip rfl rfl rfl rfl ?_
    refine EL.skip rfl rfl rfl rfl ?_
    refine EL.skip rfl rfl rfl rfl ?_
    refine EL.skip rfl rfl rfl rfl ?_
    refine EL.val (x_pick_t rfl rfl) rfl ?_
    refine EL.nil ?_
    refine EX.seq ?_
    refine EC.yes rfl ?_
    refine EC.seq ?_
    refine EC.region ?_
    refine EL.val (x_assign rfl) rfl ?_
    refine EL.nil ?_
    refine EX.seq ?_
    refine EC.ret ?_
    refine EX.seq_ret ?_
    exact EX.done (res1 rfl rfl) ⟨by rw [net_a h1], hbw⟩
  ·
    refine EL.call (cl_42 rfl rfl rfl) rfl (rin_any _ h1) ?_
    rintro e w3 ⟨rfl, hc3⟩
    refine ⟨_, rfl, ?_⟩
    replace q1 := q1.below hc3 q1.lt
    replace hbw := Below.on hbw hc3 hbw.size
    clear hc3
    refine EL.val (x_not rfl) rfl ?_
    refine EL.val (x_move rfl) rfl ?_
    refine EL.valg rfl rfl (fa_25_1 rfl) rfl ?_
    refine EL.valg rfl rfl (ld_23 rfl (q1.at (j := 1) rfl)) rfl ?_
    refine EL.valg rfl rfl (ln_23 rfl) rfl ?_
    by_cases h2 : 300 < nt.ways.length
    ·
      refine EL.valg rfl rfl (x_gtr (r := true) rfl rfl (decide_eq_true (by omega))) rfl ?_
      refine EL.val (x_pick_f rfl rfl) rfl ?_
      refine EL.nil ?_
      refine EX.seq ?_
      refine EC.yes rfl ?_
      refine EC.seq ?_
      refine EC.region ?_
      refine EL.val (x_assign rfl) rfl ?_
      refine EL.nil ?_
      refine EX.seq ?_
      refine EC.ret ?_
      refine EX.seq_ret ?_
      exact EX.done (res1 rfl rfl) ⟨by rw [net_b h2], hbw⟩
    ·
      refine EL.valg rfl rfl (x_gtr (r := false) rfl rfl (decide_eq_false (by omega))) rfl ?_
      refine EL.val (x_pick_f rfl rfl) rfl ?_
      refine EL.nil ?_
      refine EX.seq ?_
      refine EC.no rfl ?_
      refine EC.skip ?_
      refine EX.seq ?_
      refine EC.seq ?_
      refine EC.seq ?_
      refine EC.region ?_
      refine EL.val (x_assign rfl) rfl ?_
      refine EL.nil ?_
      refine EX.seq ?_
      refine EC.block ?_
      refine EC.loopD [2, 3, 16, 17, 18, 19, 20, 21, 22, 23, 24, 25, 26, 27, 28, 29] (fun x : Nat => [(3, .int .i64 (x : Nat))]) (fun x W => x ≤ nt.ports.length ∧ (nt.ports.take x).all prtB = true ∧ Blk W g1 25 #[.slice Ap nt.ports.length cp_, .slice Aw nt.ways.length cw_] ∧ Below w.heap.size w W) (fun x => nt.ports.length - x) 0 ⟨Nat.zero_le _, rfl, q1, hbw⟩ ⟨rfl, trivial⟩ ?_
      clear q1 hbw
      rintro x wx ⟨hx, hall, q1x, hbw⟩
      by_cases hlt : x < nt.ports.length
      ·
        obtain ⟨b1, o1, e_, _, a0, a1⟩ := prts_cells nt.ports x hlt _ _ _ _ _ hr.ports
        subst e_
        obtain ⟨y, ey⟩ : ∃ z, z = nt.ports.getD x prt0 := ⟨_, rfl⟩
        rw [← ey] at a0 a1
        cases hy : prtB y
        ·
          refine EC.seq ?_
          refine EC.seq ?_
          refine EC.region ?_
          refine EL.val (x_move rfl) rfl ?_
          refine EL.val (fa_25_0 rfl) rfl ?_
          refine EL.val (ld_22 rfl (q1x.at (j := 0) rfl)) rfl ?_
          refine EL.val (ln_22 rfl) rfl ?_
          refine EL.val (x_lss rfl rfl (decide_eq_true (show (((x : Nat) : Int) < ((nt.ports.length : Nat) : Int)) by omega))) rfl ?_
          refine EL.nil ?_
          refine EX.seq ?_
          refine EC.yes rfl ?_
          refine EC.skip ?_
          refine EX.seq ?_
          refine EC.seq ?_
          refine EC.block ?_
          refine EC.seq ?_
          refine EC.region ?_
          refine EL.val (fa_25_0 rfl) rfl ?_
          refine EL.val (ld_22 rfl (q1x.at (j := 0) rfl)) rfl ?_
          refine EL.val (x_move rfl) rfl ?_
          refine EL.val (ix_22 rfl rfl hlt) rfl ?_
          refine EL.val (ld_47 rfl (below_load hbw a0) (below_load hbw a1)) rfl ?_
          refine EL.call (cl_43 rfl) rfl (rport_any _ hy) ?_
          rintro e w4 ⟨rfl, hc4⟩
          refine ⟨_, rfl, ?_⟩
          replace q1x := q1x.below hc4 q1x.lt
          replace hbw := Below.on hbw hc4 hbw.size
          clear hc4
          refine EL.val (x_not rfl) rfl ?_
          refine EL.nil ?_
          refine EX.seq ?_
          refine EC.yes rfl ?_
          refine EC.seq ?_
          refine EC.region ?_
          refine EL.val (x_assign rfl) rfl ?_
          refine EL.nil ?_
          refine EX.seq ?_
          refine EC.ret ?_
          refine EX.blk_ret ?_
          refine EX.seq_ret ?_
          refine EX.seq_ret ?_
          refine EX.blk_ret ?_
          refine EX.seq_ret ?_
          exact EX.done (res1 rfl rfl) ⟨by rw [net_c hlt (by rw [← ey]; exact hy)], hbw⟩
        ·
          refine EC.seq ?_
          refine EC.seq ?_
          refine EC.region ?_
          refine EL.val (x_move rfl) rfl ?_
          refine EL.val (fa_25_0 rfl) rfl ?_
          refine EL.val (ld_22 rfl (q1x.at (j := 0) rfl)) rfl ?_
          refine EL.val (ln_22 rfl) rfl ?_
          refine EL.val (x_lss rfl rfl (decide_eq_true (show (((x : Nat) : Int) < ((nt.ports.length : Nat) : Int)) by omega))) rfl ?_
          refine EL.nil ?_
          refine EX.seq ?_
          refine EC.yes rfl ?_
          refine EC.skip ?_
          refine EX.seq ?_
          refine EC.seq ?_
          refine EC.block ?_
          refine EC.seq ?_
          refine EC.region ?_
          refine EL.val (fa_25_0 rfl) rfl ?_
          refine EL.val (ld_22 rfl (q1x.at (j := 0) rfl)) rfl ?_
          refine EL.val (x_move rfl) rfl ?_
          refine EL.val (ix_22 rfl rfl hlt) rfl ?_
          refine EL.val (ld_47 rfl (below_load hbw a0) (below_load hbw a1)) rfl ?_
          refine EL.call (cl_43 rfl) rfl (rport_any _ hy) ?_
          rintro e w5 ⟨rfl, hc5⟩
          refine ⟨_, rfl, ?_⟩
          replace q1x := q1x.below hc5 q1x.lt
          replace hbw := Below.on hbw hc5 hbw.size
          clear hc5
          refine EL.val (x_not rfl) rfl ?_
          refine EL.nil ?_
          refine EX.seq ?_
          refine EC.no rfl ?_
          refine EC.skip ?_
          refine EX.blk ?_
          refine EX.seq ?_
          refine EC.region ?_
          refine EL.val (x_move rfl) rfl ?_
          refine EL.val (x_add rfl rfl (c := ((x + 1 : Nat) : Int)) ((IntWalk.i64_in _ ⟨by first | omega | (simp only; omega), by first | omega | (simp only; omega)⟩).trans (by first | omega | (simp only; omega)))) rfl ?_
          refine EL.val (x_assign rfl) rfl ?_
          refine EL.nil ?_
          refine EX.roundD (x + 1) ⟨rfl, trivial⟩ (by repeat first | with_reducible exact Sub.refl _ | refine sub_past rfl ?_ | exact Sub.refl _ | refine sub_del rfl ?_ | refine sub_insL_nil ?_) ⟨hlt, allP_take hlt hall (by rw [← ey]; exact hy), q1x, hbw⟩ (by omega)
      ·
        have hxe : x = nt.ports.length := by omega
        subst hxe
        rw [List.take_length] at hall
        refine EC.seq ?_
        refine EC.seq ?_
        refine EC.region ?_
        refine EL.val (x_move rfl) rfl ?_
        refine EL.val (fa_25_0 rfl) rfl ?_
        refine EL.val (ld_22 rfl (q1x.at (j := 0) rfl)) rfl ?_
        refine EL.val (ln_22 rfl) rfl ?_
        refine EL.val (x_lss rfl rfl (decide_eq_false (show ¬(((nt.ports.length : Nat) : Int) < ((nt.ports.length : Nat) : Int)) by omega))) rfl ?_
        refine EL.nil ?_
        refine EX.seq ?_
        refine EC.no rfl ?_
        refine EC.exit ?_
        refine EX.seq_exit ?_
        refine EX.seq_exit ?_
        refine EX.blk_here ?_
        refine EX.seq ?_
        refine EC.seq ?_
        refine EC.seq ?_
        refine EC.region ?_
        refine EL.val (x_assign rfl) rfl ?_
        refine EL.nil ?_
        refine EX.seq ?_
        refine EC.block ?_
        refine EC.loopD [2, 4, 30, 31, 32, 33, 34, 35, 36, 37, 38, 39, 40, 41, 42, 43, 44, 45, 46] (fun x : Nat => [(4, .int .i64 (x : Nat))]) (fun x W => x ≤ nt.ways.length ∧ (nt.ways.take x).all (wayB nt.ports.length) = true ∧ Blk W g1 25 #[.slice Ap nt.ports.length cp_, .slice Aw nt.ways.length cw_] ∧ Below w.heap.size w W) (fun x => nt.ways.length - x) 0 ⟨Nat.zero_le _, rfl, q1x, hbw⟩ ⟨rfl, trivial⟩ ?_
        clear q1x hbw
        rintro x wx ⟨hx, halw, q1x, hbw⟩
        by_cases hlt : x < nt.ways.length
        ·
          obtain ⟨b1, o1, e_, _, wa⟩ := ways_cells nt.ways x hlt _ _ _ _ _ hr.ways
          subst e_
          obtain ⟨y, ey⟩ : ∃ z, z = nt.ways.getD x way0 := ⟨_, rfl⟩
          rw [← ey] at wa
          cases hy : wayB nt.ports.length y
          ·
            refine EC.seq ?_
            refine EC.seq ?_
            refine EC.region ?_
            refine EL.val (x_move rfl) rfl ?_
            refine EL.val (fa_25_1 rfl) rfl ?_
            refine EL.val (ld_23 rfl (q1x.at (j := 1) rfl)) rfl ?_
            refine EL.val (ln_23 rfl) rfl ?_
            refine EL.val (x_lss rfl rfl (decide_eq_true (show (((x : Nat) : Int) < ((nt.ways.length : Nat) : Int)) by omega))) rfl ?_
            refine EL.nil ?_
            refine EX.seq ?_
            refine EC.yes rfl ?_
            refine EC.skip ?_
            refine EX.seq ?_
            refine EC.seq ?_
            refine EC.block ?_
            refine EC.seq ?_
            refine EC.regionQ (by kernel_rfl) (by kernel_rfl) ?_
            refine EQ.val (fun _ hw => (fa_25_1 rfl)) rfl ?_
            refine EQ.val (fun _ hw => (ld_23 rfl (below_load hw (q1x.at (j := 1) rfl)))) rfl ?_
            refine EQ.val (fun _ hw => (x_move rfl)) rfl ?_
            refine EQ.val (fun _ hw => (ix_23 rfl rfl hlt)) rfl ?_
            refine EQ.val (fun _ hw => (ld_56 rfl (below_load hw (below_load hbw wa.c0)) (below_load hw (below_load hbw wa.c1)) (below_load hw (below_load hbw wa.c2)) (below_load hw (below_load hbw wa.c3)))) rfl ?_
            refine EQ.val (fun _ hw => (fa_25_0 rfl)) rfl ?_
            refine EQ.val (fun _ hw => (ld_22 rfl (below_load hw (q1x.at (j := 0) rfl)))) rfl ?_
            refine EQ.val (fun _ hw => (ln_22 rfl)) rfl ?_
            refine EQ.call (fun _ _ _ ha => cl_44 rfl rfl _ ha) rfl (fun W hw => (rway_any W hn1 hy).mono fun e w' h => ⟨h.1, hw.trans (h.2.mono hw.size)⟩) ?_
            refine EQ.val (fun _ hw => (x_not rfl)) rfl ?_
            refine EQ.fin (fun w6 hw_ => ?_)
            replace q1x := q1x.below hw_ q1x.lt
            replace hbw := Below.on hbw hw_ hbw.size
            clear hw_
            refine EX.seq ?_
            refine EC.yes rfl ?_
            refine EC.seq ?_
            refine EC.region ?_
            refine EL.val (x_assign rfl) rfl ?_
            refine EL.nil ?_
            refine EX.seq ?_
            refine EC.ret ?_
            refine EX.blk_ret ?_
            refine EX.seq_ret ?_
            refine EX.seq_ret ?_
            refine EX.blk_ret ?_
            refine EX.seq_ret ?_
            exact EX.done (res1 rfl rfl) ⟨by rw [net_d hlt (by rw [← ey]; exact hy)], hbw⟩
          ·
            refine EC.seq ?_
            refine EC.seq ?_
            refine EC.region ?_
            refine EL.val (x_move rfl) rfl ?_
            refine EL.val (fa_25_1 rfl) rfl ?_
            refine EL.val (ld_23 rfl (q1x.at (j := 1) rfl)) rfl ?_
            refine EL.val (ln_23 rfl) rfl ?_
            refine EL.val (x_lss rfl rfl (decide_eq_true (show (((x : Nat) : Int) < ((nt.ways.length : Nat) : Int)) by omega))) rfl ?_
            refine EL.nil ?_
            refine EX.seq ?_
            refine EC.yes rfl ?_
            refine EC.skip ?_
            refine EX.seq ?_
            refine EC.seq ?_
            refine EC.block ?_
            refine EC.seq ?_
            refine EC.regionQ (by kernel_rfl) (by kernel_rfl) ?_
            refine EQ.val (fun _ hw => (fa_25_1 rfl)) rfl ?_
            refine EQ.val (fun _ hw => (ld_23 rfl (below_load hw (q1x.at (j := 1) rfl)))) rfl ?_
            refine EQ.val (fun _ hw => (x_move rfl)) rfl ?_
            refine EQ.val (fun _ hw => (ix_23 rfl rfl hlt)) rfl ?_
            refine EQ.val (fun _ hw => (ld_56 rfl (below_load hw (below_load hbw wa.c0)) (below_load hw (below_load hbw wa.c1)) (below_load hw (below_load hbw wa.c2)) (below_load hw (below_load hbw wa.c3)))) rfl ?_
            refine EQ.val (fun _ hw => (fa_25_0 rfl)) rfl ?_
            refine EQ.val (fun _ hw => (ld_22 rfl (below_load hw (q1x.at (j := 0) rfl)))) rfl ?_
            refine EQ.val (fun _ hw => (ln_22 rfl)) rfl ?_
            refine EQ.call (fun _ _ _ ha => cl_44 rfl rfl _ ha) rfl (fun W hw => (rway_any W hn1 hy).mono fun e w' h => ⟨h.1, hw.trans (h.2.mono hw.size)⟩) ?_
            refine EQ.val (fun _ hw => (x_not rfl)) rfl ?_
            refine EQ.fin (fun w7 hw_ => ?_)
            replace q1x := q1x.below hw_ q1x.lt
            replace hbw := Below.on hbw hw_ hbw.size
            clear hw_
            refine EX.seq ?_
            refine EC.no rfl ?_
            refine EC.skip ?_
            refine EX.blk ?_
            refine EX.seq ?_
            refine EC.region ?_
            refine EL.val (x_move rfl) rfl ?_
            refine EL.val (x_add rfl rfl (c := ((x + 1 : Nat) : Int)) ((IntWalk.i64_in _ ⟨by first | omega | (simp only; omega), by first | omega | (simp only; omega)⟩).trans (by first | omega | (simp only; omega)))) rfl ?_
            refine EL.val (x_assign rfl) rfl ?_
            refine EL.nil ?_
            refine EX.roundD (x + 1) ⟨rfl, trivial⟩ (by repeat first | with_reducible exact Sub.refl _ | refine sub_past rfl ?_ | exact Sub.refl _ | refine sub_del rfl ?_ | refine sub_insL_nil ?_) ⟨hlt, allW_take hlt halw (by rw [← ey]; exact hy), q1x, hbw⟩ (by omega)
        ·
          have hxe : x = nt.ways.length := by omega
          subst hxe
          rw [List.take_length] at halw
          refine EC.seq ?_
          refine EC.seq ?_
          refine EC.region ?_
          refine EL.val (x_move rfl) rfl ?_
          refine EL.val (fa_25_1 rfl) rfl ?_
          refine EL.val (ld_23 rfl (q1x.at (j := 1) rfl)) rfl ?_
          refine EL.val (ln_23 rfl) rfl ?_
          refine EL.val (x_lss rfl rfl (decide_eq_false (show ¬(((nt.ways.length : Nat) : Int) < ((nt.ways.length : Nat) : Int)) by omega))) rfl ?_
          refine EL.nil ?_
          refine EX.seq ?_
          refine EC.no rfl ?_
          refine EC.exit ?_
          refine EX.seq_exit ?_
          refine EX.seq_exit ?_
          refine EX.blk_here ?_
          refine EX.seq ?_
          refine EC.seq ?_
          refine EC.region ?_
          refine EL.val (x_assign rfl) rfl ?_
          refine EL.nil ?_
          refine EX.seq ?_
          refine EC.ret ?_
          exact EX.done (res1 rfl rfl) ⟨by rw [net_e h1 h2 hall halw], hbw⟩
theorem rnet_to {nt : Net} {b : Bool} (h : netB nt = b) (vp vw : Value) (w : World) (B : Nat) (hr : RdNet w B vp vw nt) (hB : B ≤ w.heap.size) (hn1 : nt.ports.length ≤ 1073741824) (hn2 : nt.ways.length ≤ 1073741824) :
    Calls Try.prog 17 #[.agg #[vp, vw]] w fun e w' => e = .returned (.bool b) ∧ Below w.heap.size w w' := h ▸ rnet_any nt vp vw w B hr hB hn1 hn2
theorem aft_parts {nt : Net} {mv : List Int} (h : aftErr nt mv = 0) : mv.length = nt.ways.length ∧ okTo nt mv nt.ways.length = true ∧ (extL nt mv).any (fun x => decide (x < 0)) = false := by
  unfold aftErr at h
  split at h
  · cases h
  · rename_i h1
    split at h
    · cases h
    · rename_i h2
      split at h
      · cases h
      · rename_i h3; exact ⟨by omega, by simpa using h2, by simpa using h3⟩
theorem rcost_any (nt : Net) (mv : List Int) (vp vw vm : Value) (w : World) (B : Nat) (hr : RdNet w B vp vw nt) (hrm : Rd w B 1 vm mv.length (ints mv)) (hB : B ≤ w.heap.size) (hv : netB nt = true) (ha : aftErr nt mv = 0) :
    Calls Try.prog 21 #[.agg #[vp, vw], vm] w fun e w' => e = .returned (.int .i64 (costL nt mv)) ∧ Below w.heap.size w w' := by
  obtain ⟨Ap, cp_, rfl, _⟩ := hr.ports.shape
  obtain ⟨Aw, cw_, rfl, _⟩ := hr.ways.shape
  obtain ⟨Am, cm_, rfl, _⟩ := hrm.shape
  obtain ⟨⟨hp1, hp60⟩, hw300, hvp, hvw⟩ := netB_ok hv
  obtain ⟨hml, hok, _⟩ := aft_parts ha
  have hbw := Below.refl w.heap.size w
  refine EC.enter 27 Try.func21 rfl rfl rfl ?_
  refine EC.seq ?_
  refine EC.region ?_
  refine EL.newP (bx_25 rfl) rfl ?_
  intro g1 w1 q1 hb1 hg1 hl1
  have bhbw_1 := Nat.le_trans hbw.size hg1
  replace hbw := Below.on hbw hb1 hbw.size
  clear hb1 hg1 hl1
  refine EL.val (x_assign rfl) rfl ?_
  refine EL.nil ?_
  refine EX.seq ?_
  refine EC.seq ?_
  refine EC.region ?_
  refine EL.val (x_assign rfl) rfl ?_
  refine EL.nil ?_
  refine EX.seq ?_
  refine EC.seq ?_
  refine EC.seq ?_
  refine EC.region ?_
  refine EL.val (x_assign rfl) rfl ?_
  refine EL.nil ?_
  refine EX.seq ?_
  refine EC.block ?_
  refine EC.loopD [5, 6, 7, 8, 9, 10, 11, 12, 13, 14, 15, 16, 17, 18, 19, 20, 21, 22, 23, 24, 25] (fun x : Nat => [(5, .int .i64 (costTo nt mv x)), (6, .int .i64 (x : Nat))]) (fun x W => x ≤ nt.ways.length ∧ Blk W g1 25 #[.slice Ap nt.ports.length cp_, .slice Aw nt.ways.length cw_] ∧ Below w.heap.size w W) (fun x => nt.ways.length - x) 0 ⟨Nat.zero_le _, q1, hbw⟩ ⟨rfl, rfl, trivial⟩ ?_
  clear q1 hbw
  rintro x wx ⟨hx, q1x, hbw⟩
  by_cases hlt : x < nt.ways.length
  ·
    obtain ⟨bw, ow, e_, _, wc⟩ := ways_cells nt.ways x hlt _ _ _ _ _ hr.ways
    subst e_
    obtain ⟨bm, om, e_, _, mc⟩ := ints_cells mv x (by omega) _ _ _ _ _ hrm
    subst e_
    have hb1 := cost_bd hv x hx (okTo_less hx hok)
    have hb2 := cost_bd hv (x + 1) hlt (okTo_less hlt hok)
    have hcn : costTo nt mv (x + 1) = costTo nt mv x + mv.getD x 0 * (nt.ways.getD x way0).cost := rfl
    rw [hcn] at hb2
    have hma := okTo_at hok hlt
    obtain ⟨⟨wf0, wf1⟩, ⟨wt0, wt1⟩, wne, ⟨wc0, wc1⟩, wr0, wr1⟩ := hvw x hlt
    have hm0 : 0 ≤ mv.getD x 0 * (nt.ways.getD x way0).cost := Int.mul_nonneg hma.1 wc0
    have hm1 : mv.getD x 0 * (nt.ways.getD x way0).cost ≤ 1000 * 1000000 := Int.mul_le_mul (by omega) wc1 wc0 (by omega)
    refine EC.seq ?_
    refine EC.seq ?_
    refine EC.region ?_
    refine EL.val (x_move rfl) rfl ?_
    refine EL.val (x_move rfl) rfl ?_
    refine EL.val (ln_29 rfl) rfl ?_
    refine EL.val (x_lss rfl rfl (decide_eq_true (show (((x : Nat) : Int) < ((mv.length : Nat) : Int)) by omega))) rfl ?_
    refine EL.nil ?_
    refine EX.seq ?_
    refine EC.yes rfl ?_
    refine EC.skip ?_
    refine EX.seq ?_
    refine EC.seq ?_
    refine EC.block ?_
    refine EC.regionQ (by kernel_rfl) (by kernel_rfl) ?_
    refine EQ.val (fun _ hw => (x_move rfl)) rfl ?_
    refine EQ.val (fun _ hw => (x_move rfl)) rfl ?_
    refine EQ.val (fun _ hw => (x_move rfl)) rfl ?_
    refine EQ.val (fun _ hw => (ix_29 rfl rfl (show x < mv.length by omega))) rfl ?_
    refine EQ.val (fun _ hw => (ld_3 rfl (below_load hw (below_load hbw mc)))) rfl ?_
    refine EQ.val (fun _ hw => (fa_25_1 rfl)) rfl ?_
    refine EQ.val (fun _ hw => (ld_23 rfl (below_load hw (q1x.at (j := 1) rfl)))) rfl ?_
    refine EQ.val (fun _ hw => (x_move rfl)) rfl ?_
    refine EQ.val (fun _ hw => (ix_23 rfl rfl hlt)) rfl ?_
    refine EQ.val (fun _ hw => (fa_56_2 rfl)) rfl ?_
    refine EQ.val (fun _ hw => (ld_3 rfl (below_load hw (below_load hbw wc.c2)))) rfl ?_
    refine EQ.val (fun _ hw => (x_mul rfl rfl (IntWalk.i64_in _ ⟨by omega, by omega⟩))) rfl ?_
    refine EQ.val (fun _ hw => (x_add rfl rfl (IntWalk.i64_in _ ⟨by omega, by omega⟩))) rfl ?_
    refine EQ.val (fun _ hw => (x_assign rfl)) rfl ?_
    refine EQ.fin (fun w2 hw_ => ?_)
    replace q1x := q1x.below hw_ q1x.lt
    replace hbw := Below.on hbw hw_ hbw.size
    clear hw_
    refine EX.blk ?_
    refine EX.seq ?_
    refine EC.region ?_
    refine EL.val (x_move rfl) rfl ?_
    refine EL.val (x_add rfl rfl (c := ((x + 1 : Nat) : Int)) ((IntWalk.i64_in _ ⟨by first | omega | (simp only; omega), by first | omega | (simp only; omega)⟩).trans (by first | omega | (simp only; omega)))) rfl ?_
    refine EL.val (x_assign rfl) rfl ?_
    refine EL.nil ?_
    refine EX.roundD (x + 1) ⟨rfl, rfl, trivial⟩ (by repeat first | with_reducible exact Sub.refl _ | refine sub_past rfl ?_ | exact Sub.refl _ | refine sub_del rfl ?_ | refine sub_insL_nil ?_) ⟨hlt, q1x, hbw⟩ (by omega)
  ·
    have hxe : x = nt.ways.length := by omega
    subst hxe
    refine EC.seq ?_
    refine EC.seq ?_
    refine EC.region ?_
    refine EL.val (x_move rfl) rfl ?_
    refine EL.val (x_move rfl) rfl ?_
    refine EL.val (ln_29 rfl) rfl ?_
    refine EL.val (x_lss rfl rfl (decide_eq_false (show ¬(((nt.ways.length : Nat) : Int) < ((mv.length : Nat) : Int)) by omega))) rfl ?_
    refine EL.nil ?_
    refine EX.seq ?_
    refine EC.no rfl ?_
    refine EC.exit ?_
    refine EX.seq_exit ?_
    refine EX.seq_exit ?_
    refine EX.blk_here ?_
    refine EX.seq ?_
    refine EC.seq ?_
    refine EC.region ?_
    refine EL.val (x_move rfl) rfl ?_
    refine EL.val (x_assign rfl) rfl ?_
    refine EL.nil ?_
    refine EX.seq ?_
    refine EC.ret ?_
    exact EX.done (res1 rfl rfl) ⟨rfl, hbw⟩
end Go.Proofs.Ytabgmnmpdjnjoaa
set_option linter.unusedVariables false
set_option linter.unusedSimpArgs false
namespace Go.Proofs.Ytabgmnmpdjnjoaa
open Go Go.RowKit
section
variable {n : Nat} {σ : Sg} {w : World} {dst : Option Tmp} {ty : TypeId} {pos : String} {af : Array Edge} {g : Option (Nat × Bool)} {x y z : Operand} {at' : Array TypeId}
theorem cl_48 {x0 x1 : Operand} {v0 v1 : Value} (h0 : evS σ x0 = some v0) (h1 : evS σ x1 = some v1) (a : Act) (ha : Env n σ a) : (execOp a.eval ⟨dst, .call { callee := .value (.func 48), args := #[x0, x1], argTypes := at' }, ty, pos, af, g⟩).run Try.prog w = .ok (.enter 48 #[v0, v1]) w := by
  simp only [execOp, resolve, List.map_toArray, List.map_cons, List.map_nil, ha.eval h0, ha.eval h1]
  simp [go_sem, Act.eval]
end
end Go.Proofs.Ytabgmnmpdjnjoaa
set_option linter.unusedVariables false
set_option linter.unusedSimpArgs false
namespace Go.Proofs.Ytabgmnmpdjnjoaa
open Go Go.RowKit
set_option maxHeartbeats 1000000 in
theorem rextra_any (nt : Net) (mv : List Int) (vp vw vm : Value) (w : World) (B : Nat) (hr : RdNet w B vp vw nt) (hrm : Rd w B 1 vm mv.length (ints mv)) (hB : B ≤ w.heap.size) (hv : netB nt = true) (hml : mv.length = nt.ways.length) (hok : okTo nt mv nt.ways.length = true) :
    Calls Try.prog 48 #[.agg #[vp, vw], vm] w fun e w' => (∃ v, e = .returned v ∧ w'.ownsRow w.heap.size 3 1 v nt.ports.length (ints (extL nt mv))) ∧ Below w.heap.size w w' := by
  obtain ⟨Ap, cp_, rfl, _⟩ := hr.ports.shape
  obtain ⟨Aw, cw_, rfl, _⟩ := hr.ways.shape
  obtain ⟨Am, cm_, rfl, _⟩ := hrm.shape
  obtain ⟨⟨hp1, hp60⟩, hw300, hvp, hvw⟩ := netB_ok hv
  have hbw := Below.refl w.heap.size w
  refine EC.enter 70 Try.func48 rfl rfl rfl ?_
  refine EC.seq ?_
  refine EC.region ?_
  refine EL.newP (bx_25 rfl) rfl ?_
  intro g1 w1 q1 hb1 hg1 hl1
  have bhbw_1 := Nat.le_trans hbw.size hg1
  replace hbw := Below.on hbw hb1 hbw.size
  clear hb1 hg1 hl1
  refine EL.val (x_assign rfl) rfl ?_
  refine EL.nil ?_
  refine EX.seq ?_
  refine EC.seq ?_
  refine EC.region ?_
  refine EL.newS bs_29_0 rfl ?_
  intro g2 w2 q2 hb2 hg2 hl2
  have n1_2 : g1 ≠ g2 := Nat.ne_of_lt (Nat.lt_of_lt_of_le q1.lt hg2)
  have bhbw_2 := Nat.le_trans hbw.size hg2
  replace q1 := q1.below hb2 q1.lt
  replace hbw := Below.on hbw hb2 hbw.size
  clear hb2 hl2
  have ho : World.ownsRow w2 w.heap.size 3 1 (.slice (some ⟨g2, 0, none⟩) 0 0) 0 [] := own_empty 1 q2 (by have := hbw.size; first | exact bhbw_2 | omega)
  refine EL.val (x_assign rfl) rfl ?_
  refine EL.nil ?_
  refine EX.seq ?_
  refine EC.seq ?_
  refine EC.seq ?_
  refine EC.region ?_
  refine EL.val (x_assign rfl) rfl ?_
  refine EL.nil ?_
  refine EX.seq ?_
  refine EC.block ?_
  refine EC.loopD [5, 6, 9, 10, 11, 12, 13, 14, 15, 16, 17, 18, 19, 20, 21, 22, 23, 24, 25, 26, 27, 28, 29, 30, 31] (fun x : Nat × Value => [(5, x.2), (6, .int .i64 (x.1 : Nat))]) (fun x W => x.1 ≤ nt.ports.length ∧ Blk W g1 25 #[.slice Ap nt.ports.length cp_, .slice Aw nt.ways.length cw_] ∧ W.ownsRow w.heap.size 3 1 x.2 x.1 (ints (ext0 nt x.1)) ∧ Below w.heap.size w W) (fun x => nt.ports.length - x.1) (0, .slice (some ⟨g2, 0, none⟩) 0 0) ⟨Nat.zero_le _, q1, ho, hbw⟩ ⟨rfl, rfl, trivial⟩ ?_
  clear q1 ho hbw
  rintro ⟨x, vl⟩ wx ⟨hx, q2x, ho, hbw⟩
  dsimp only at hx ho
  obtain ⟨Al, cl, rfl, _⟩ := (Rd.of_own ho).shape
  by_cases hlt : x < nt.ports.length
  ·
    have hbz := Below.refl wx.heap.size wx
    obtain ⟨bp, op, e_, _, pc0, pc1⟩ := prts_cells nt.ports x hlt _ _ _ _ _ hr.ports
    subst e_
    obtain ⟨⟨ph0, ph1⟩, pw0, pw1⟩ := hvp x hlt
    have hsl := ext0_succ (nt := nt) x
    obtain ⟨y, ey⟩ : ∃ z, z = nt.ports.getD x prt0 := ⟨_, rfl⟩
    rw [← ey] at pc0 pc1 ph0 ph1 pw0 pw1 hsl
    refine EC.seq ?_
    refine EC.seq ?_
    refine EC.region ?_
    refine EL.val (x_move rfl) rfl ?_
    refine EL.val (fa_25_0 rfl) rfl ?_
    refine EL.val (ld_22 rfl (q2x.at (j := 0) rfl)) rfl ?_
    refine EL.val (ln_22 rfl) rfl ?_
    refine EL.val (x_lss rfl rfl (decide_eq_true (show (((x : Nat) : Int) < ((nt.ports.length : Nat) : Int)) by omega))) rfl ?_
    refine EL.nil ?_
    refine EX.seq ?_
    refine EC.yes rfl ?_
    refine EC.skip ?_
    refine EX.seq ?_
    refine EC.seq ?_
    refine EC.block ?_
    have hW := below_row ho (w1 := wx) ⟨rfl, rfl, rfl, Nat.le_refl _, fun _ _ _ => rfl⟩ hbw.size
    clear hW
    have lt_1 := q2x.lt
    refine EC.regionS [[], [], [1], [], [1, 2, 3], [1, 2, 3, 4], [1, 2, 3, 4, 5], [], [7], [], [7, 8, 9], [7, 8, 9, 10], [7, 8, 9, 10, 11], [1, 2, 3, 4, 5, 6, 7, 8, 9, 10, 11, 12], [1, 2, 3, 4, 5, 6, 7, 8, 9, 10, 11, 12, 13], [0, 1, 2, 3, 4, 5, 6, 7, 8, 9, 10, 11, 12, 13, 14], [0, 1, 2, 3, 4, 5, 6, 7, 8, 9, 10, 11, 12, 13, 14, 15]] 16 [] [15] (fun fl w_ => wx.grownBy w_ ((.slice Al x cl) : Value).ownBlock ∧ (fl 15 = false → w_.ownsRow w.heap.size 3 1 (.slice Al x cl) x (ints (ext0 nt x)))) (phiS (fun i_ r => match i_ with | 0 => r 0 = .slice Al x cl | 1 => r 1 = .pointer (some ⟨g1, 0, none⟩) | 2 => r 2 = .slice (some ⟨bp, op, none⟩) nt.ports.length cp_ | 3 => r 3 = .int .i64 (x : Nat) | 4 => r 4 = .pointer (some ⟨bp, op + x * 2, none⟩) | 5 => r 5 = .pointer (some ⟨bp, op + x * 2, none⟩) | 6 => r 6 = .int .i64 y.has | 7 => r 7 = .pointer (some ⟨g1, 0, none⟩) | 8 => r 8 = .slice (some ⟨bp, op, none⟩) nt.ports.length cp_ | 9 => r 9 = .int .i64 (x : Nat) | 10 => r 10 = .pointer (some ⟨bp, op + x * 2, none⟩) | 11 => r 11 = .pointer (some ⟨bp, op + x * 2 + 1, none⟩) | 12 => r 12 = .int .i64 y.wants | 13 => r 13 = .int .i64 (y.has - y.wants) | _ => True) [(14, fun fl r w_ => fl 15 = false → (∃ g_, r 14 = .slice (some ⟨g_, 0, none⟩) 1 1 ∧ Blk w_ g_ 3 #[.int .i64 (y.has - y.wants)] ∧ wx.heap.size ≤ g_)), (15, fun _ r w_ => w_.ownsRow w.heap.size 3 1 (r 15) (x + 1) ((ints (ext0 nt x)) ++ [.int .i64 (y.has - y.wants)]) ∧ ∀ b, (r 15).ownBlock = some b → ((.slice Al x cl) : Value).ownBlock = some b ∨ wx.heap.size ≤ b)]) (by kernel_rfl) rfl rfl (by intro i hi; simp at hi; subst hi; exact ⟨by simp, by omega⟩) (base_row ho) (phiS_cons (monoS_till mono_bs) (phiS_cons (monoS_row (e := 15) (C := fun u_ => ∀ b, u_.ownBlock = some b → ((.slice Al x cl) : Value).ownBlock = some b ∨ wx.heap.size ≤ b)) (phiS_nil))) (fun i_ hi_ hs_ => ?_) (fun i_ hi_ => ?_) ?_
    · match i_, hi_ with
      | 0, _ =>
        intro val fl w1 a hb ha hd hfl
        obtain ⟨hgb, hg0⟩ := hb
        have hb := below_row ho hgb hbw.size
        have ha := ha.sub (Sub.ins (d := 5) (Sub.nil _) rfl)
        exact ss_val ha rfl rfl (x_move rfl) rfl rfl
      | 1, _ =>
        intro val fl w1 a hb ha hd hfl
        obtain ⟨hgb, hg0⟩ := hb
        have hb := below_row ho hgb hbw.size
        have ha := ha.sub (Sub.ins (d := 2) (Sub.nil _) rfl)
        exact ss_val ha rfl rfl (fa_25_0 rfl) rfl rfl
      | 2, _ =>
        intro val fl w1 a hb ha hd hfl
        obtain ⟨hgb, hg0⟩ := hb
        have hb := below_row ho hgb hbw.size
        have e1 : val 1 = .pointer (some ⟨g1, 0, none⟩) := hd 1 (memB_mem.1 rfl)
        have ha := ha.sub (Sub.ins (d := 17) (Sub.nil _) (dep_get rfl e1))
        exact ss_val ha rfl rfl (ld_22 rfl ((blk_grown q2x ho rfl hgb).at (j := 0) rfl)) rfl rfl
      | 3, _ =>
        intro val fl w1 a hb ha hd hfl
        obtain ⟨hgb, hg0⟩ := hb
        have hb := below_row ho hgb hbw.size
        have ha := ha.sub (Sub.ins (d := 6) (Sub.nil _) rfl)
        exact ss_val ha rfl rfl (x_move rfl) rfl rfl
      | 4, _ =>
        intro val fl w1 a hb ha hd hfl
        obtain ⟨hgb, hg0⟩ := hb
        have hb := below_row ho hgb hbw.size
        have e2 : val 2 = .slice (some ⟨bp, op, none⟩) nt.ports.length cp_ := hd 2 (memB_mem.1 rfl)
        have e3 : val 3 = .int .i64 (x : Nat) := hd 3 (memB_mem.1 rfl)
        have ha := ha.sub (Sub.ins (d := 19) (Sub.ins (d := 18) (Sub.nil _) (dep_get rfl e2)) (dep_get rfl e3))
        exact ss_val ha rfl rfl (ix_22 rfl rfl hlt) rfl rfl
      | 5, _ =>
        intro val fl w1 a hb ha hd hfl
        obtain ⟨hgb, hg0⟩ := hb
        have hb := below_row ho hgb hbw.size
        have e4 : val 4 = .pointer (some ⟨bp, op + x * 2, none⟩) := hd 4 (memB_mem.1 rfl)
        have ha := ha.sub (Sub.ins (d := 20) (Sub.nil _) (dep_get rfl e4))
        exact ss_val ha rfl rfl (fa_47_0 rfl) rfl rfl
      | 6, _ =>
        intro val fl w1 a hb ha hd hfl
        obtain ⟨hgb, hg0⟩ := hb
        have hb := below_row ho hgb hbw.size
        have e5 : val 5 = .pointer (some ⟨bp, op + x * 2, none⟩) := hd 5 (memB_mem.1 rfl)
        have ha := ha.sub (Sub.ins (d := 21) (Sub.nil _) (dep_get rfl e5))
        exact ss_val ha rfl rfl (ld_3 rfl (below_load (hbw.trans hb) pc0)) rfl rfl
      | 7, _ =>
        intro val fl w1 a hb ha hd hfl
        obtain ⟨hgb, hg0⟩ := hb
        have hb := below_row ho hgb hbw.size
        have ha := ha.sub (Sub.ins (d := 2) (Sub.nil _) rfl)
        exact ss_val ha rfl rfl (fa_25_0 rfl) rfl rfl
      | 8, _ =>
        intro val fl w1 a hb ha hd hfl
        obtain ⟨hgb, hg0⟩ := hb
        have hb := below_row ho hgb hbw.size
        have e7 : val 7 = .pointer (some ⟨g1, 0, none⟩) := hd 7 (memB_mem.1 rfl)
        have ha := ha.sub (Sub.ins (d := 23) (Sub.nil _) (dep_get rfl e7))
        exact ss_val ha rfl rfl (ld_22 rfl ((blk_grown q2x ho rfl hgb).at (j := 0) rfl)) rfl rfl
      | 9, _ =>
        intro val fl w1 a hb ha hd hfl
        obtain ⟨hgb, hg0⟩ := hb
        have hb := below_row ho hgb hbw.size
        have ha := ha.sub (Sub.ins (d := 6) (Sub.nil _) rfl)
        exact ss_val ha rfl rfl (x_move rfl) rfl rfl
      | 10, _ =>
        intro val fl w1 a hb ha hd hfl
        obtain ⟨hgb, hg0⟩ := hb
        have hb := below_row ho hgb hbw.size
        have e8 : val 8 = .slice (some ⟨bp, op, none⟩) nt.ports.length cp_ := hd 8 (memB_mem.1 rfl)
        have e9 : val 9 = .int .i64 (x : Nat) := hd 9 (memB_mem.1 rfl)
        have ha := ha.sub (Sub.ins (d := 25) (Sub.ins (d := 24) (Sub.nil _) (dep_get rfl e8)) (dep_get rfl e9))
        exact ss_val ha rfl rfl (ix_22 rfl rfl hlt) rfl rfl
      | 11, _ =>
        intro val fl w1 a hb ha hd hfl
        obtain ⟨hgb, hg0⟩ := hb
        have hb := below_row ho hgb hbw.size
        have e10 : val 10 = .pointer (some ⟨bp, op + x * 2, none⟩) := hd 10 (memB_mem.1 rfl)
        have ha := ha.sub (Sub.ins (d := 26) (Sub.nil _) (dep_get rfl e10))
        exact ss_val ha rfl rfl (fa_47_1 rfl) rfl rfl
      | 12, _ =>
        intro val fl w1 a hb ha hd hfl
        obtain ⟨hgb, hg0⟩ := hb
        have hb := below_row ho hgb hbw.size
        have e11 : val 11 = .pointer (some ⟨bp, op + x * 2 + 1, none⟩) := hd 11 (memB_mem.1 rfl)
        have ha := ha.sub (Sub.ins (d := 27) (Sub.nil _) (dep_get rfl e11))
        exact ss_val ha rfl rfl (ld_3 rfl (below_load (hbw.trans hb) pc1)) rfl rfl
      | 13, _ =>
        intro val fl w1 a hb ha hd hfl
        obtain ⟨hgb, hg0⟩ := hb
        have hb := below_row ho hgb hbw.size
        have e6 : val 6 = .int .i64 y.has := hd 6 (memB_mem.1 rfl)
        have e12 : val 12 = .int .i64 y.wants := hd 12 (memB_mem.1 rfl)
        have ha := ha.sub (Sub.ins (d := 28) (Sub.ins (d := 22) (Sub.nil _) (dep_get rfl e6)) (dep_get rfl e12))
        exact ss_val ha rfl rfl (x_sub rfl rfl (c := y.has - y.wants) (IntWalk.i64_in _ ⟨by omega, by omega⟩)) rfl rfl
      | 14, _ =>
        intro val fl w1 a hb ha hd hfl
        obtain ⟨hgb, hg0⟩ := hb
        have hb := below_row ho hgb hbw.size
        have e13 : val 13 = .int .i64 (y.has - y.wants) := hd 13 (memB_mem.1 rfl)
        have ha := ha.sub (Sub.ins (d := 29) (Sub.nil _) (dep_get rfl e13))
        exact ss_newS ha rfl rfl (bs_29_1 rfl) rfl (fun g w' hq _ hge => fun _ => ⟨g, rfl, hq, Nat.le_trans hgb.size hge⟩)
      | 15, _ =>
        exact absurd (by simp) hs_
      | k + 16, h => exact absurd h (by omega)
    · simp only [List.mem_singleton] at hi_; subst hi_
      intro val fl w1 a hb hfi ha hd hfl
      obtain ⟨hgb, hg0⟩ := hb
      have hb := below_row ho hgb hbw.size
      have e0 : val 0 = .slice Al x cl := hd 0 (memB_mem.1 rfl)
      obtain ⟨g14_, e14, q14_, h14_⟩ := hd 14 (memB_mem.1 rfl) hfi
      change val 14 = _ at e14
      have ha := ha.sub (Sub.ins (d := 30) (Sub.ins (d := 16) (Sub.nil _) (dep_get rfl e0)) (dep_get rfl e14))
      refine ts_push i64_elem ha rfl rfl rfl (hg0 hfi) (rd_one (l := [.int .i64 (y.has - y.wants)]) q14_ rfl) (by intro u hu; rw [List.mem_singleton.1 hu]; rfl) (by omega) rfl (Nat.le_trans hbw.size hgb.size) ?_
      intro v' w' ho' hgr hat
      refine ⟨v', rfl, hgr.size, ⟨grown_three hgb hgr, fun h => by rw [fset_eq] at h; cases h⟩, ⟨ho', fun b hb' => ?_⟩, fun j _ hj hn hA => ?_⟩
      · rcases hat with h | h
        · exact .inl (h ▸ hb')
        · refine .inr ?_
          change v'.ownBlock = some b at hb'
          rw [h] at hb'
          injection hb' with hb'
          have := hgb.size
          omega
      · exact phiS_cons_st (C := fun j => j ≠ 15 ∧ 15 ∉ clsAt [[], [], [1], [], [1, 2, 3], [1, 2, 3, 4], [1, 2, 3, 4, 5], [], [7], [], [7, 8, 9], [7, 8, 9, 10], [7, 8, 9, 10, 11], [1, 2, 3, 4, 5, 6, 7, 8, 9, 10, 11, 12], [1, 2, 3, 4, 5, 6, 7, 8, 9, 10, 11, 12, 13], [0, 1, 2, 3, 4, 5, 6, 7, 8, 9, 10, 11, 12, 13, 14], [0, 1, 2, 3, 4, 5, 6, 7, 8, 9, 10, 11, 12, 13, 14, 15]] j) (fun _ _ h => by rw [fset_eq] at h; cases h) (phiS_cons_st (C := fun j => j ≠ 15 ∧ 15 ∉ clsAt [[], [], [1], [], [1, 2, 3], [1, 2, 3, 4], [1, 2, 3, 4, 5], [], [7], [], [7, 8, 9], [7, 8, 9, 10], [7, 8, 9, 10, 11], [1, 2, 3, 4, 5, 6, 7, 8, 9, 10, 11, 12], [1, 2, 3, 4, 5, 6, 7, 8, 9, 10, 11, 12, 13], [0, 1, 2, 3, 4, 5, 6, 7, 8, 9, 10, 11, 12, 13, 14], [0, 1, 2, 3, 4, 5, 6, 7, 8, 9, 10, 11, 12, 13, 14, 15]] j) (fun hc => absurd rfl hc.1) (fun _ _ h => h)) j ⟨hj, hn⟩
    · intro val fl w' hfl hb halc hd
      obtain ⟨hgb, _⟩ := hb
      have hb := below_row ho hgb hbw.size
      have e0 : val 0 = .slice Al x cl := hd 0 (by omega)
      have e1 : val 1 = .pointer (some ⟨g1, 0, none⟩) := hd 1 (by omega)
      have e2 : val 2 = .slice (some ⟨bp, op, none⟩) nt.ports.length cp_ := hd 2 (by omega)
      have e3 : val 3 = .int .i64 (x : Nat) := hd 3 (by omega)
      have e4 : val 4 = .pointer (some ⟨bp, op + x * 2, none⟩) := hd 4 (by omega)
      have e5 : val 5 = .pointer (some ⟨bp, op + x * 2, none⟩) := hd 5 (by omega)
      have e6 : val 6 = .int .i64 y.has := hd 6 (by omega)
      have e7 : val 7 = .pointer (some ⟨g1, 0, none⟩) := hd 7 (by omega)
      have e8 : val 8 = .slice (some ⟨bp, op, none⟩) nt.ports.length cp_ := hd 8 (by omega)
      have e9 : val 9 = .int .i64 (x : Nat) := hd 9 (by omega)
      have e10 : val 10 = .pointer (some ⟨bp, op + x * 2, none⟩) := hd 10 (by omega)
      have e11 : val 11 = .pointer (some ⟨bp, op + x * 2 + 1, none⟩) := hd 11 (by omega)
      have e12 : val 12 = .int .i64 y.wants := hd 12 (by omega)
      have e13 : val 13 = .int .i64 (y.has - y.wants) := hd 13 (by omega)
      obtain ⟨ho15, hn15⟩ := hd 15 (by omega)
      change w'.ownsRow _ _ _ (val 15) _ _ at ho15
      refine EL.ends (cs := [.slice Al x cl, .pointer (some ⟨g1, 0, none⟩), .slice (some ⟨bp, op, none⟩) nt.ports.length cp_, .int .i64 (x : Nat), .pointer (some ⟨bp, op + x * 2, none⟩), .pointer (some ⟨bp, op + x * 2, none⟩), .int .i64 y.has, .pointer (some ⟨g1, 0, none⟩), .slice (some ⟨bp, op, none⟩) nt.ports.length cp_, .int .i64 (x : Nat), .pointer (some ⟨bp, op + x * 2, none⟩), .pointer (some ⟨bp, op + x * 2 + 1, none⟩), .int .i64 y.wants, .int .i64 (y.has - y.wants), val 14, val 15]) ⟨e0, e1, e2, e3, e4, e5, e6, e7, e8, e9, e10, e11, e12, e13, rfl, rfl, trivial⟩ rfl ?_
      replace q2x := blk_grown q2x ho rfl hgb
      replace hbw := hbw.trans (hb.mono (Nat.le_refl _))
      obtain ⟨v15, ev15⟩ : ∃ z, z = val 15 := ⟨_, rfl⟩
      rw [← ev15] at ho15 ⊢
      obtain ⟨A2, c2, rfl, _⟩ := (Rd.of_own ho15).shape
      refine EL.val (x_assign rfl) rfl ?_
      refine EL.nil ?_
      refine EX.blk ?_
      refine EX.seq ?_
      refine EC.region ?_
      refine EL.val (x_move rfl) rfl ?_
      refine EL.val (x_add rfl rfl (c := ((x + 1 : Nat) : Int)) ((IntWalk.i64_in _ ⟨by first | omega | (simp only; omega), by first | omega | (simp only; omega)⟩).trans (by first | omega | (simp only; omega)))) rfl ?_
      refine EL.val (x_assign rfl) rfl ?_
      refine EL.nil ?_
      refine EX.roundD (x + 1, _) ⟨rfl, rfl, trivial⟩ (by repeat first | with_reducible exact Sub.refl _ | refine sub_past rfl ?_ | exact Sub.refl _ | refine sub_del rfl ?_ | refine sub_insL_nil ?_) ⟨hlt, q2x, by show World.ownsRow _ _ _ _ _ (x + 1) (ints (ext0 nt (x + 1))); rw [hsl, ints_app]; exact ho15, hbw⟩ (by simp only; omega)
  ·
    have hxe : x = nt.ports.length := by omega
    subst hxe
    refine EC.seq ?_
    refine EC.seq ?_
    refine EC.region ?_
    refine EL.val (x_move rfl) rfl ?_
    refine EL.val (fa_25_0 rfl) rfl ?_
    refine EL.val (ld_22 rfl (q2x.at (j := 0) rfl)) rfl ?_
    refine EL.val (ln_22 rfl) rfl ?_
    refine EL.val (x_lss rfl rfl (decide_eq_false (show ¬(((nt.ports.length : Nat) : Int) < ((nt.ports.length : Nat) : Int)) by omega))) rfl ?_
    refine EL.nil ?_
    refine EX.seq ?_
    refine EC.no rfl ?_
    refine EC.exit ?_
    refine EX.seq_exit ?_
    refine EX.seq_exit ?_
    refine EX.blk_here ?_
    refine EX.seq ?_
    refine EC.seq ?_
    refine EC.seq ?_
    refine EC.region ?_
    refine EL.val (x_assign rfl) rfl ?_
    refine EL.nil ?_
    refine EX.seq ?_
    refine EC.block ?_
    obtain ⟨gl, rfl⟩ := own_ptr ho (by omega)
    refine EC.loopD [7, 32, 33, 34, 35, 36, 37, 38, 39, 40, 41, 42, 43, 44, 45, 46, 47, 48, 49, 50, 51, 52, 53, 54, 55, 56, 57, 58, 59, 60, 61, 62, 63, 64, 65, 66, 67, 68] (fun x : Nat => [(7, .int .i64 (x : Nat))]) (fun x W => x ≤ nt.ways.length ∧ Blk W g1 25 #[.slice Ap nt.ports.length cp_, .slice Aw nt.ways.length cw_] ∧ W.ownsRow w.heap.size 3 1 (.slice (some ⟨gl, 0, none⟩) nt.ports.length cl) nt.ports.length (ints (extTo nt mv x)) ∧ Below w.heap.size w W) (fun x => nt.ways.length - x) 0 ⟨Nat.zero_le _, q2x, ho, hbw⟩ ⟨rfl, trivial⟩ ?_
    clear q2x ho hbw
    rintro x wx ⟨hx, q2x, ho, hbw⟩
    by_cases hlt : x < nt.ways.length
    ·
      obtain ⟨bw, ow, e_, _, wc⟩ := ways_cells nt.ways x hlt _ _ _ _ _ hr.ways
      subst e_
      obtain ⟨bm, om, e_, _, mc⟩ := ints_cells mv x (by omega) _ _ _ _ _ hrm
      subst e_
      obtain ⟨⟨wf0, wf1⟩, ⟨wt0, wt1⟩, wne, ⟨wc0, wc1⟩, wr0, wr1⟩ := hvw x hlt
      have hel := extTo_len (nt := nt) (mv := mv) x
      have heb := ext_bd hv x hx (okTo_less hx hok)
      have hmb := okTo_at hok hlt
      have hen : extTo nt mv (x + 1) = extStep (extTo nt mv x) (nt.ways.getD x way0) (mv.getD x 0) := rfl
      obtain ⟨y, ey⟩ : ∃ z, z = nt.ways.getD x way0 := ⟨_, rfl⟩
      obtain ⟨m, em⟩ : ∃ z, z = mv.getD x 0 := ⟨_, rfl⟩
      rw [← em] at mc hen hmb
      rw [← ey] at wc wf0 wf1 wt0 wt1 wne wc0 wc1 wr0 wr1 hen hmb
      obtain ⟨el, eel⟩ : ∃ z, z = extTo nt mv x := ⟨_, rfl⟩
      rw [← eel] at ho hel heb hen
      have ef : y.fr = ((y.fr.toNat : Nat) : Int) := by omega
      have et : y.to = ((y.to.toNat : Nat) : Int) := by omega
      have hef := heb y.fr.toNat
      have het := heb y.to.toNat
      have het2 : -(2000 + 1000 * ((x : Nat) : Int)) ≤ (el.set y.fr.toNat (el.getD y.fr.toNat 0 - m)).getD y.to.toNat 0 ∧ (el.set y.fr.toNat (el.getD y.fr.toNat 0 - m)).getD y.to.toNat 0 ≤ 2000 + 1000 * ((x : Nat) : Int) := by rw [getD_set0 (by omega)]; split <;> omega
      refine EC.seq ?_
      refine EC.seq ?_
      refine EC.region ?_
      refine EL.val (x_move rfl) rfl ?_
      refine EL.val (fa_25_1 rfl) rfl ?_
      refine EL.val (ld_23 rfl (q2x.at (j := 1) rfl)) rfl ?_
      refine EL.val (ln_23 rfl) rfl ?_
      refine EL.val (x_lss rfl rfl (decide_eq_true (show (((x : Nat) : Int) < ((nt.ways.length : Nat) : Int)) by omega))) rfl ?_
      refine EL.nil ?_
      refine EX.seq ?_
      refine EC.yes rfl ?_
      refine EC.skip ?_
      refine EX.seq ?_
      refine EC.seq ?_
      refine EC.block ?_
      refine EC.seq ?_
      have rc9 := own_int_cell ho (k := y.fr.toNat) (by omega)
      have lt_1 := q2x.lt
      refine EC.regionP [[], [], [1], [], [1, 2, 3], [1, 2, 3, 4], [1, 2, 3, 4, 5], [0, 1, 2, 3, 4, 5, 6], [0, 1, 2, 3, 4, 5, 6, 7], [], [], [9, 10], [9, 10, 11], [0, 1, 2, 3, 4, 5, 6, 7, 8, 9, 10, 11, 12], [0, 1, 2, 3, 4, 5, 6, 7, 8, 9, 10, 11, 12, 13], [0, 1, 2, 3, 4, 5, 6, 7, 8, 9, 10, 11, 12, 13, 14]] 14 [] (phi (fun i_ r => match i_ with | 0 => r 0 = .slice (some ⟨gl, 0, none⟩) nt.ports.length cl | 1 => r 1 = .pointer (some ⟨g1, 1, none⟩) | 2 => r 2 = .slice (some ⟨bw, ow, none⟩) nt.ways.length cw_ | 3 => r 3 = .int .i64 (x : Nat) | 4 => r 4 = .pointer (some ⟨bw, ow + x * 4, none⟩) | 5 => r 5 = .pointer (some ⟨bw, ow + x * 4, none⟩) | 6 => r 6 = .int .i64 y.fr | 7 => r 7 = .pointer (some ⟨gl, 0 + y.fr.toNat, none⟩) | 8 => r 8 = .int .i64 ((el).getD y.fr.toNat 0) | 9 => r 9 = .slice (some ⟨bm, om, none⟩) mv.length cm_ | 10 => r 10 = .int .i64 (x : Nat) | 11 => r 11 = .pointer (some ⟨bm, om + x, none⟩) | 12 => r 12 = .int .i64 m | 13 => r 13 = .int .i64 (el.getD y.fr.toNat 0 - m) | _ => True) []) (by kernel_rfl) rfl rfl (phi_nil) (fun i_ hi_ => ?_) ?_
      · match i_, hi_ with
        | 0, _ =>
          intro val w1 a hb ha hd
          have ha := ha.sub (Sub.ins (d := 5) (Sub.nil _) rfl)
          exact hs_val ha rfl rfl (x_move rfl) rfl rfl
        | 1, _ =>
          intro val w1 a hb ha hd
          have ha := ha.sub (Sub.ins (d := 2) (Sub.nil _) rfl)
          exact hs_val ha rfl rfl (fa_25_1 rfl) rfl rfl
        | 2, _ =>
          intro val w1 a hb ha hd
          have e1 : val 1 = .pointer (some ⟨g1, 1, none⟩) := hd 1 (memB_mem.1 rfl)
          have ha := ha.sub (Sub.ins (d := 40) (Sub.nil _) (dep_get rfl e1))
          exact hs_val ha rfl rfl (ld_23 rfl ((q2x.below hb q2x.lt).at (j := 1) rfl)) rfl rfl
        | 3, _ =>
          intro val w1 a hb ha hd
          have ha := ha.sub (Sub.ins (d := 7) (Sub.nil _) rfl)
          exact hs_val ha rfl rfl (x_move rfl) rfl rfl
        | 4, _ =>
          intro val w1 a hb ha hd
          have e2 : val 2 = .slice (some ⟨bw, ow, none⟩) nt.ways.length cw_ := hd 2 (memB_mem.1 rfl)
          have e3 : val 3 = .int .i64 (x : Nat) := hd 3 (memB_mem.1 rfl)
          have ha := ha.sub (Sub.ins (d := 42) (Sub.ins (d := 41) (Sub.nil _) (dep_get rfl e2)) (dep_get rfl e3))
          exact hs_val ha rfl rfl (ix_23 rfl rfl hlt) rfl rfl
        | 5, _ =>
          intro val w1 a hb ha hd
          have e4 : val 4 = .pointer (some ⟨bw, ow + x * 4, none⟩) := hd 4 (memB_mem.1 rfl)
          have ha := ha.sub (Sub.ins (d := 43) (Sub.nil _) (dep_get rfl e4))
          exact hs_val ha rfl rfl (fa_56_0 rfl) rfl rfl
        | 6, _ =>
          intro val w1 a hb ha hd
          have e5 : val 5 = .pointer (some ⟨bw, ow + x * 4, none⟩) := hd 5 (memB_mem.1 rfl)
          have ha := ha.sub (Sub.ins (d := 44) (Sub.nil _) (dep_get rfl e5))
          exact hs_val ha rfl rfl (ld_3 rfl (below_load hb (below_load hbw wc.c0))) rfl rfl
        | 7, _ =>
          intro val w1 a hb ha hd
          have e0 : val 0 = .slice (some ⟨gl, 0, none⟩) nt.ports.length cl := hd 0 (memB_mem.1 rfl)
          have e6 : val 6 = .int .i64 y.fr := hd 6 (memB_mem.1 rfl)
          have ha := ha.sub (Sub.ins (d := 45) (Sub.ins (d := 39) (Sub.nil _) (dep_get rfl e0)) (dep_get rfl e6))
          exact hs_val ha rfl rfl (ix_29 rfl (by rw [← ef]; rfl) (show y.fr.toNat < nt.ports.length by omega)) rfl rfl
        | 8, _ =>
          intro val w1 a hb ha hd
          have e7 : val 7 = .pointer (some ⟨gl, 0 + y.fr.toNat, none⟩) := hd 7 (memB_mem.1 rfl)
          have ha := ha.sub (Sub.ins (d := 46) (Sub.nil _) (dep_get rfl e7))
          exact hs_val ha rfl rfl (ld_3 rfl (below_load hb rc9)) rfl rfl
        | 9, _ =>
          intro val w1 a hb ha hd
          have ha := ha.sub (Sub.ins (d := 1) (Sub.nil _) rfl)
          exact hs_val ha rfl rfl (x_move rfl) rfl rfl
        | 10, _ =>
          intro val w1 a hb ha hd
          have ha := ha.sub (Sub.ins (d := 7) (Sub.nil _) rfl)
          exact hs_val ha rfl rfl (x_move rfl) rfl rfl
        | 11, _ =>
          intro val w1 a hb ha hd
          have e9 : val 9 = .slice (some ⟨bm, om, none⟩) mv.length cm_ := hd 9 (memB_mem.1 rfl)
          have e10 : val 10 = .int .i64 (x : Nat) := hd 10 (memB_mem.1 rfl)
          have ha := ha.sub (Sub.ins (d := 49) (Sub.ins (d := 48) (Sub.nil _) (dep_get rfl e9)) (dep_get rfl e10))
          exact hs_val ha rfl rfl (ix_29 rfl rfl (show x < mv.length by omega)) rfl rfl
        | 12, _ =>
          intro val w1 a hb ha hd
          have e11 : val 11 = .pointer (some ⟨bm, om + x, none⟩) := hd 11 (memB_mem.1 rfl)
          have ha := ha.sub (Sub.ins (d := 50) (Sub.nil _) (dep_get rfl e11))
          exact hs_val ha rfl rfl (ld_3 rfl (below_load hb (below_load hbw mc))) rfl rfl
        | 13, _ =>
          intro val w1 a hb ha hd
          have e8 : val 8 = .int .i64 ((el).getD y.fr.toNat 0) := hd 8 (memB_mem.1 rfl)
          have e12 : val 12 = .int .i64 m := hd 12 (memB_mem.1 rfl)
          have ha := ha.sub (Sub.ins (d := 51) (Sub.ins (d := 47) (Sub.nil _) (dep_get rfl e8)) (dep_get rfl e12))
          exact hs_val ha rfl rfl (x_sub rfl rfl (IntWalk.i64_in _ ⟨by omega, by omega⟩)) rfl rfl
        | k + 14, h => exact absurd h (by omega)
      · intro val wR9 hb halc hd
        have e0 : val 0 = .slice (some ⟨gl, 0, none⟩) nt.ports.length cl := hd 0 (by omega)
        have e1 : val 1 = .pointer (some ⟨g1, 1, none⟩) := hd 1 (by omega)
        have e2 : val 2 = .slice (some ⟨bw, ow, none⟩) nt.ways.length cw_ := hd 2 (by omega)
        have e3 : val 3 = .int .i64 (x : Nat) := hd 3 (by omega)
        have e4 : val 4 = .pointer (some ⟨bw, ow + x * 4, none⟩) := hd 4 (by omega)
        have e5 : val 5 = .pointer (some ⟨bw, ow + x * 4, none⟩) := hd 5 (by omega)
        have e6 : val 6 = .int .i64 y.fr := hd 6 (by omega)
        have e7 : val 7 = .pointer (some ⟨gl, 0 + y.fr.toNat, none⟩) := hd 7 (by omega)
        have e8 : val 8 = .int .i64 ((el).getD y.fr.toNat 0) := hd 8 (by omega)
        have e9 : val 9 = .slice (some ⟨bm, om, none⟩) mv.length cm_ := hd 9 (by omega)
        have e10 : val 10 = .int .i64 (x : Nat) := hd 10 (by omega)
        have e11 : val 11 = .pointer (some ⟨bm, om + x, none⟩) := hd 11 (by omega)
        have e12 : val 12 = .int .i64 m := hd 12 (by omega)
        have e13 : val 13 = .int .i64 (el.getD y.fr.toNat 0 - m) := hd 13 (by omega)
        refine EL.ends (cs := [.slice (some ⟨gl, 0, none⟩) nt.ports.length cl, .pointer (some ⟨g1, 1, none⟩), .slice (some ⟨bw, ow, none⟩) nt.ways.length cw_, .int .i64 (x : Nat), .pointer (some ⟨bw, ow + x * 4, none⟩), .pointer (some ⟨bw, ow + x * 4, none⟩), .int .i64 y.fr, .pointer (some ⟨gl, 0 + y.fr.toNat, none⟩), .int .i64 ((el).getD y.fr.toNat 0), .slice (some ⟨bm, om, none⟩) mv.length cm_, .int .i64 (x : Nat), .pointer (some ⟨bm, om + x, none⟩), .int .i64 m, .int .i64 (el.getD y.fr.toNat 0 - m)]) ⟨e0, e1, e2, e3, e4, e5, e6, e7, e8, e9, e10, e11, e12, e13, trivial⟩ rfl ?_
        replace q2x := q2x.below hb q2x.lt
        replace ho := own_below ho hb (Nat.le_refl _)
        replace hbw := Below.on hbw hb hbw.size
        clear hb
        refine EL.val (ix_29 rfl (by rw [← ef]; rfl) (show y.fr.toNat < nt.ports.length by omega)) rfl ?_
        refine EL.storeRow (l' := [.int .i64 (el.getD y.fr.toNat 0 - m)]) rfl rfl ho sz_3 rfl rfl (by rw [ints_len, Nat.zero_add]; omega) rfl ?_
        intro w3 ho2 hgr
        rw [Nat.zero_add, spl_ints (by omega)] at ho2
        replace q2x := blk_grown q2x ho rfl hgr
        replace hbw := hbw.trans (below_row ho hgr hbw.size)
        clear ho hgr
        have ho := ho2
        clear ho2
        refine EL.nil ?_
        refine EX.seq ?_
        have rc10 := own_int_cell ho (k := y.to.toNat) (by rw [List.length_set]; omega)
        have lt_1 := q2x.lt
        refine EC.regionP [[], [], [1], [], [1, 2, 3], [1, 2, 3, 4], [1, 2, 3, 4, 5], [0, 1, 2, 3, 4, 5, 6], [0, 1, 2, 3, 4, 5, 6, 7], [], [], [9, 10], [9, 10, 11], [0, 1, 2, 3, 4, 5, 6, 7, 8, 9, 10, 11, 12], [0, 1, 2, 3, 4, 5, 6, 7, 8, 9, 10, 11, 12, 13], [0, 1, 2, 3, 4, 5, 6, 7, 8, 9, 10, 11, 12, 13, 14]] 14 [] (phi (fun i_ r => match i_ with | 0 => r 0 = .slice (some ⟨gl, 0, none⟩) nt.ports.length cl | 1 => r 1 = .pointer (some ⟨g1, 1, none⟩) | 2 => r 2 = .slice (some ⟨bw, ow, none⟩) nt.ways.length cw_ | 3 => r 3 = .int .i64 (x : Nat) | 4 => r 4 = .pointer (some ⟨bw, ow + x * 4, none⟩) | 5 => r 5 = .pointer (some ⟨bw, ow + x * 4 + 1, none⟩) | 6 => r 6 = .int .i64 y.to | 7 => r 7 = .pointer (some ⟨gl, 0 + y.to.toNat, none⟩) | 8 => r 8 = .int .i64 (((el.set y.fr.toNat (el.getD y.fr.toNat 0 - m))).getD y.to.toNat 0) | 9 => r 9 = .slice (some ⟨bm, om, none⟩) mv.length cm_ | 10 => r 10 = .int .i64 (x : Nat) | 11 => r 11 = .pointer (some ⟨bm, om + x, none⟩) | 12 => r 12 = .int .i64 m | 13 => r 13 = .int .i64 ((el.set y.fr.toNat (el.getD y.fr.toNat 0 - m)).getD y.to.toNat 0 + m) | _ => True) []) (by kernel_rfl) rfl rfl (phi_nil) (fun i_ hi_ => ?_) ?_
        · match i_, hi_ with
          | 0, _ =>
            intro val w1 a hb ha hd
            have ha := ha.sub (Sub.ins (d := 5) (Sub.nil _) rfl)
            exact hs_val ha rfl rfl (x_move rfl) rfl rfl
          | 1, _ =>
            intro val w1 a hb ha hd
            have ha := ha.sub (Sub.ins (d := 2) (Sub.nil _) rfl)
            exact hs_val ha rfl rfl (fa_25_1 rfl) rfl rfl
          | 2, _ =>
            intro val w1 a hb ha hd
            have e1 : val 1 = .pointer (some ⟨g1, 1, none⟩) := hd 1 (memB_mem.1 rfl)
            have ha := ha.sub (Sub.ins (d := 55) (Sub.nil _) (dep_get rfl e1))
            exact hs_val ha rfl rfl (ld_23 rfl ((q2x.below hb q2x.lt).at (j := 1) rfl)) rfl rfl
          | 3, _ =>
            intro val w1 a hb ha hd
            have ha := ha.sub (Sub.ins (d := 7) (Sub.nil _) rfl)
            exact hs_val ha rfl rfl (x_move rfl) rfl rfl
          | 4, _ =>
            intro val w1 a hb ha hd
            have e2 : val 2 = .slice (some ⟨bw, ow, none⟩) nt.ways.length cw_ := hd 2 (memB_mem.1 rfl)
            have e3 : val 3 = .int .i64 (x : Nat) := hd 3 (memB_mem.1 rfl)
            have ha := ha.sub (Sub.ins (d := 57) (Sub.ins (d := 56) (Sub.nil _) (dep_get rfl e2)) (dep_get rfl e3))
            exact hs_val ha rfl rfl (ix_23 rfl rfl hlt) rfl rfl
          | 5, _ =>
            intro val w1 a hb ha hd
            have e4 : val 4 = .pointer (some ⟨bw, ow + x * 4, none⟩) := hd 4 (memB_mem.1 rfl)
            have ha := ha.sub (Sub.ins (d := 58) (Sub.nil _) (dep_get rfl e4))
            exact hs_val ha rfl rfl (fa_56_1 rfl) rfl rfl
          | 6, _ =>
            intro val w1 a hb ha hd
            have e5 : val 5 = .pointer (some ⟨bw, ow + x * 4 + 1, none⟩) := hd 5 (memB_mem.1 rfl)
            have ha := ha.sub (Sub.ins (d := 59) (Sub.nil _) (dep_get rfl e5))
            exact hs_val ha rfl rfl (ld_3 rfl (below_load hb (below_load hbw wc.c1))) rfl rfl
          | 7, _ =>
            intro val w1 a hb ha hd
            have e0 : val 0 = .slice (some ⟨gl, 0, none⟩) nt.ports.length cl := hd 0 (memB_mem.1 rfl)
            have e6 : val 6 = .int .i64 y.to := hd 6 (memB_mem.1 rfl)
            have ha := ha.sub (Sub.ins (d := 60) (Sub.ins (d := 54) (Sub.nil _) (dep_get rfl e0)) (dep_get rfl e6))
            exact hs_val ha rfl rfl (ix_29 rfl (by rw [← et]; rfl) (show y.to.toNat < nt.ports.length by omega)) rfl rfl
          | 8, _ =>
            intro val w1 a hb ha hd
            have e7 : val 7 = .pointer (some ⟨gl, 0 + y.to.toNat, none⟩) := hd 7 (memB_mem.1 rfl)
            have ha := ha.sub (Sub.ins (d := 61) (Sub.nil _) (dep_get rfl e7))
            exact hs_val ha rfl rfl (ld_3 rfl (below_load hb rc10)) rfl rfl
          | 9, _ =>
            intro val w1 a hb ha hd
            have ha := ha.sub (Sub.ins (d := 1) (Sub.nil _) rfl)
            exact hs_val ha rfl rfl (x_move rfl) rfl rfl
          | 10, _ =>
            intro val w1 a hb ha hd
            have ha := ha.sub (Sub.ins (d := 7) (Sub.nil _) rfl)
            exact hs_val ha rfl rfl (x_move rfl) rfl rfl
          | 11, _ =>
            intro val w1 a hb ha hd
            have e9 : val 9 = .slice (some ⟨bm, om, none⟩) mv.length cm_ := hd 9 (memB_mem.1 rfl)
            have e10 : val 10 = .int .i64 (x : Nat) := hd 10 (memB_mem.1 rfl)
            have ha := ha.sub (Sub.ins (d := 64) (Sub.ins (d := 63) (Sub.nil _) (dep_get rfl e9)) (dep_get rfl e10))
            exact hs_val ha rfl rfl (ix_29 rfl rfl (show x < mv.length by omega)) rfl rfl
          | 12, _ =>
            intro val w1 a hb ha hd
            have e11 : val 11 = .pointer (some ⟨bm, om + x, none⟩) := hd 11 (memB_mem.1 rfl)
            have ha := ha.sub (Sub.ins (d := 65) (Sub.nil _) (dep_get rfl e11))
            exact hs_val ha rfl rfl (ld_3 rfl (below_load hb (below_load hbw mc))) rfl rfl
          | 13, _ =>
            intro val w1 a hb ha hd
            have e8 : val 8 = .int .i64 (((el.set y.fr.toNat (el.getD y.fr.toNat 0 - m))).getD y.to.toNat 0) := hd 8 (memB_mem.1 rfl)
            have e12 : val 12 = .int .i64 m := hd 12 (memB_mem.1 rfl)
            have ha := ha.sub (Sub.ins (d := 66) (Sub.ins (d := 62) (Sub.nil _) (dep_get rfl e8)) (dep_get rfl e12))
            exact hs_val ha rfl rfl (x_add rfl rfl (IntWalk.i64_in _ ⟨by omega, by omega⟩)) rfl rfl
          | k + 14, h => exact absurd h (by omega)
        · intro val wR10 hb halc hd
          have e0 : val 0 = .slice (some ⟨gl, 0, none⟩) nt.ports.length cl := hd 0 (by omega)
          have e1 : val 1 = .pointer (some ⟨g1, 1, none⟩) := hd 1 (by omega)
          have e2 : val 2 = .slice (some ⟨bw, ow, none⟩) nt.ways.length cw_ := hd 2 (by omega)
          have e3 : val 3 = .int .i64 (x : Nat) := hd 3 (by omega)
          have e4 : val 4 = .pointer (some ⟨bw, ow + x * 4, none⟩) := hd 4 (by omega)
          have e5 : val 5 = .pointer (some ⟨bw, ow + x * 4 + 1, none⟩) := hd 5 (by omega)
          have e6 : val 6 = .int .i64 y.to := hd 6 (by omega)
          have e7 : val 7 = .pointer (some ⟨gl, 0 + y.to.toNat, none⟩) := hd 7 (by omega)
          have e8 : val 8 = .int .i64 (((el.set y.fr.toNat (el.getD y.fr.toNat 0 - m))).getD y.to.toNat 0) := hd 8 (by omega)
          have e9 : val 9 = .slice (some ⟨bm, om, none⟩) mv.length cm_ := hd 9 (by omega)
          have e10 : val 10 = .int .i64 (x : Nat) := hd 10 (by omega)
          have e11 : val 11 = .pointer (some ⟨bm, om + x, none⟩) := hd 11 (by omega)
          have e12 : val 12 = .int .i64 m := hd 12 (by omega)
          have e13 : val 13 = .int .i64 ((el.set y.fr.toNat (el.getD y.fr.toNat 0 - m)).getD y.to.toNat 0 + m) := hd 13 (by omega)
          refine EL.ends (cs := [.slice (some ⟨gl, 0, none⟩) nt.ports.length cl, .pointer (some ⟨g1, 1, none⟩), .slice (some ⟨bw, ow, none⟩) nt.ways.length cw_, .int .i64 (x : Nat), .pointer (some ⟨bw, ow + x * 4, none⟩), .pointer (some ⟨bw, ow + x * 4 + 1, none⟩), .int .i64 y.to, .pointer (some ⟨gl, 0 + y.to.toNat, none⟩), .int .i64 (((el.set y.fr.toNat (el.getD y.fr.toNat 0 - m))).getD y.to.toNat 0), .slice (some ⟨bm, om, none⟩) mv.length cm_, .int .i64 (x : Nat), .pointer (some ⟨bm, om + x, none⟩), .int .i64 m, .int .i64 ((el.set y.fr.toNat (el.getD y.fr.toNat 0 - m)).getD y.to.toNat 0 + m)]) ⟨e0, e1, e2, e3, e4, e5, e6, e7, e8, e9, e10, e11, e12, e13, trivial⟩ rfl ?_
          replace q2x := q2x.below hb q2x.lt
          replace ho := own_below ho hb (Nat.le_refl _)
          replace hbw := Below.on hbw hb hbw.size
          clear hb
          refine EL.val (ix_29 rfl (by rw [← et]; rfl) (show y.to.toNat < nt.ports.length by omega)) rfl ?_
          refine EL.storeRow (l' := [.int .i64 ((el.set y.fr.toNat (el.getD y.fr.toNat 0 - m)).getD y.to.toNat 0 + m)]) rfl rfl ho sz_3 rfl rfl (by rw [ints_len, Nat.zero_add]; rw [List.length_set]; omega) rfl ?_
          intro w4 ho2 hgr
          rw [Nat.zero_add, spl_ints (by rw [List.length_set]; omega)] at ho2
          replace q2x := blk_grown q2x ho rfl hgr
          replace hbw := hbw.trans (below_row ho hgr hbw.size)
          clear ho hgr
          have ho := ho2
          clear ho2
          refine EL.nil ?_
          refine EX.blk ?_
          refine EX.seq ?_
          refine EC.region ?_
          refine EL.val (x_move rfl) rfl ?_
          refine EL.val (x_add rfl rfl (c := ((x + 1 : Nat) : Int)) ((IntWalk.i64_in _ ⟨by first | omega | (simp only; omega), by first | omega | (simp only; omega)⟩).trans (by first | omega | (simp only; omega)))) rfl ?_
          refine EL.val (x_assign rfl) rfl ?_
          refine EL.nil ?_
          refine EX.roundD (x + 1) ⟨rfl, trivial⟩ (by repeat first | with_reducible exact Sub.refl _ | refine sub_past rfl ?_ | exact Sub.refl _ | refine sub_del rfl ?_ | refine sub_insL_nil ?_) ⟨hlt, q2x, (by rw [hen]; exact ho), hbw⟩ (by omega)
    ·
      have hxe : x = nt.ways.length := by omega
      subst hxe
      refine EC.seq ?_
      refine EC.seq ?_
      refine EC.region ?_
      refine EL.val (x_move rfl) rfl ?_
      refine EL.val (fa_25_1 rfl) rfl ?_
      refine EL.val (ld_23 rfl (q2x.at (j := 1) rfl)) rfl ?_
      refine EL.val (ln_23 rfl) rfl ?_
      refine EL.val (x_lss rfl rfl (decide_eq_false (show ¬(((nt.ways.length : Nat) : Int) < ((nt.ways.length : Nat) : Int)) by omega))) rfl ?_
      refine EL.nil ?_
      refine EX.seq ?_
      refine EC.no rfl ?_
      refine EC.exit ?_
      refine EX.seq_exit ?_
      refine EX.seq_exit ?_
      refine EX.blk_here ?_
      refine EX.seq ?_
      refine EC.seq ?_
      refine EC.region ?_
      refine EL.val (x_move rfl) rfl ?_
      refine EL.val (x_assign rfl) rfl ?_
      refine EL.nil ?_
      refine EX.seq ?_
      refine EC.ret ?_
      exact EX.done (res1 rfl rfl) ⟨⟨_, rfl, ho⟩, hbw⟩
end Go.Proofs.Ytabgmnmpdjnjoaa
set_option linter.unusedVariables false
set_option linter.unusedSimpArgs false
namespace Go.Proofs.Ytabgmnmpdjnjoaa
open Go Go.RowKit
section
variable {n : Nat} {σ : Sg} {w : World} {dst : Option Tmp} {ty : TypeId} {pos : String} {af : Array Edge} {g : Option (Nat × Bool)} {x y z : Operand} {at' : Array TypeId}
theorem cl_29 {x0 : Operand} {v0 : Value} (h0 : evS σ x0 = some v0) (a : Act) (ha : Env n σ a) : (execOp a.eval ⟨dst, .call { callee := .value (.func 29), args := #[x0], argTypes := at' }, ty, pos, af, g⟩).run Try.prog w = .ok (.enter 29 #[v0]) w := by
  simp only [execOp, resolve, List.map_toArray, List.map_cons, List.map_nil, ha.eval h0]
  simp [go_sem, Act.eval]
theorem cl_13  (a : Act) (_ : Env n σ a) : (execOp a.eval ⟨dst, .call { callee := .value (.func 13), args := #[], argTypes := at' }, ty, pos, af, g⟩).run Try.prog w = .ok (.enter 13 #[]) w := by
  simp only [execOp, resolve, List.map_toArray, List.map_nil]
  simp [go_sem, Act.eval]
theorem cl_14 {x0 : Operand} {v0 : Value} (h0 : evS σ x0 = some v0) (a : Act) (ha : Env n σ a) : (execOp a.eval ⟨dst, .call { callee := .value (.func 14), args := #[x0], argTypes := at' }, ty, pos, af, g⟩).run Try.prog w = .ok (.enter 14 #[v0]) w := by
  simp only [execOp, resolve, List.map_toArray, List.map_cons, List.map_nil, ha.eval h0]
  simp [go_sem, Act.eval]
theorem cl_16 {x0 x1 : Operand} {v0 v1 : Value} (h0 : evS σ x0 = some v0) (h1 : evS σ x1 = some v1) (a : Act) (ha : Env n σ a) : (execOp a.eval ⟨dst, .call { callee := .value (.func 16), args := #[x0, x1], argTypes := at' }, ty, pos, af, g⟩).run Try.prog w = .ok (.enter 16 #[v0, v1]) w := by
  simp only [execOp, resolve, List.map_toArray, List.map_cons, List.map_nil, ha.eval h0, ha.eval h1]
  simp [go_sem, Act.eval]
theorem cl_17 {x0 : Operand} {v0 : Value} (h0 : evS σ x0 = some v0) (a : Act) (ha : Env n σ a) : (execOp a.eval ⟨dst, .call { callee := .value (.func 17), args := #[x0], argTypes := at' }, ty, pos, af, g⟩).run Try.prog w = .ok (.enter 17 #[v0]) w := by
  simp only [execOp, resolve, List.map_toArray, List.map_cons, List.map_nil, ha.eval h0]
  simp [go_sem, Act.eval]
theorem cl_21 {x0 x1 : Operand} {v0 v1 : Value} (h0 : evS σ x0 = some v0) (h1 : evS σ x1 = some v1) (a : Act) (ha : Env n σ a) : (execOp a.eval ⟨dst, .call { callee := .value (.func 21), args := #[x0, x1], argTypes := at' }, ty, pos, af, g⟩).run Try.prog w = .ok (.enter 21 #[v0, v1]) w := by
  simp only [execOp, resolve, List.map_toArray, List.map_cons, List.map_nil, ha.eval h0, ha.eval h1]
  simp [go_sem, Act.eval]
end
end Go.Proofs.Ytabgmnmpdjnjoaa
set_option linter.unusedVariables false
set_option linter.unusedSimpArgs false
namespace Go.Proofs.Ytabgmnmpdjnjoaa
/-- sums of so many -/
def sumI (f : Nat → Int) : Nat → Int
  | 0 => 0
  | k + 1 => sumI f k + f k
theorem sumI_congr {f g : Nat → Int} : ∀ {n : Nat}, (∀ i, i < n → f i = g i) → sumI f n = sumI g n
  | 0, _ => rfl
  | n + 1, h => by rw [sumI, sumI, sumI_congr (fun i hi => h i (by omega)), h n (by omega)]
theorem sumI_nn {f : Nat → Int} : ∀ {n : Nat}, (∀ i, i < n → 0 ≤ f i) → 0 ≤ sumI f n
  | 0, _ => Int.le_refl _
  | n + 1, h => by
    have := sumI_nn (f := f) (n := n) (fun i hi => h i (by omega))
    have := h n (by omega)
    rw [sumI]
    omega
theorem sumI_le {f g : Nat → Int} : ∀ {n : Nat}, (∀ i, i < n → f i ≤ g i) → sumI f n ≤ sumI g n
  | 0, _ => Int.le_refl _
  | n + 1, h => by
    have := sumI_le (f := f) (g := g) (n := n) (fun i hi => h i (by omega))
    have := h n (by omega)
    rw [sumI, sumI]
    omega
theorem sumI_zero {f : Nat → Int} : ∀ {n : Nat}, (∀ i, i < n → f i = 0) → sumI f n = 0
  | 0, _ => rfl
  | n + 1, h => by rw [sumI, sumI_zero (fun i hi => h i (by omega)), h n (by omega)]; rfl
theorem sumI_add {f g : Nat → Int} : ∀ n : Nat, sumI (fun i => f i + g i) n = sumI f n + sumI g n
  | 0 => rfl
  | n + 1 => by rw [sumI, sumI, sumI, sumI_add n]; omega
theorem sumI_sub {f g : Nat → Int} : ∀ n : Nat, sumI (fun i => f i - g i) n = sumI f n - sumI g n
  | 0 => rfl
  | n + 1 => by rw [sumI, sumI, sumI, sumI_sub n]; omega
/-- a term at one place -/
theorem sumI_at {v : Nat} {x : Int} : ∀ {n : Nat}, sumI (fun i => if i = v then x else 0) n = if v < n then x else 0
  | 0 => by rw [sumI, if_neg (Nat.not_lt_zero _)]
  | n + 1 => by
    rw [sumI, sumI_at]
    by_cases h : n = v
    · subst h; rw [if_neg (Nat.lt_irrefl _), if_pos rfl, if_pos (by omega)]; omega
    · rw [if_neg h]
      by_cases h2 : v < n
      · rw [if_pos h2, if_pos (by omega)]; omega
      · rw [if_neg h2, if_neg (by omega)]; omega
section
variable {nt : Net} {mv pr : List Int}
theorem ext0_at {v : Nat} (h : v < nt.ports.length) : (extTo nt mv 0).getD v 0 = (nt.ports.getD v prt0).has - (nt.ports.getD v prt0).wants := by
  have := List.getElem?_range h
  simp [extTo, ext0, List.getD, this]
theorem bnd1_sum : ∀ k, bnd1 nt pr k = sumI (fun q => pr.getD q 0 * ((nt.ports.getD q prt0).wants - (nt.ports.getD q prt0).has)) k
  | 0 => rfl
  | k + 1 => by rw [bnd1, sumI, bnd1_sum k]
/-- what is lost on a way -/
def wayGap (nt : Net) (pr mv : List Int) (j : Nat) : Int := (nt.ways.getD j way0).room * max 0 (gainW pr (nt.ways.getD j way0)) - mv.getD j 0 * gainW pr (nt.ways.getD j way0)
/-- by how much moves cost more than the bound -/
theorem gap_to (hv : netB nt = true) : ∀ k, k ≤ nt.ways.length → costTo nt mv k - bnd2 nt pr k = sumI (fun q => pr.getD q 0 * (extTo nt mv k).getD q 0) nt.ports.length + sumI (wayGap nt pr mv) k
  | 0, _ => by
    have h1 : sumI (fun q => pr.getD q 0 * (extTo nt mv 0).getD q 0) nt.ports.length = sumI (fun q => -(pr.getD q 0 * ((nt.ports.getD q prt0).wants - (nt.ports.getD q prt0).has))) nt.ports.length := sumI_congr fun q hq => by
      rw [ext0_at hq, ← Int.mul_neg]
      congr 1
      omega
    have h2 : ∀ (f : Nat → Int) n, sumI (fun q => -f q) n = -sumI f n := fun f n => by
      induction n with
      | zero => rfl
      | succ n ih => rw [sumI, sumI, ih]; omega
    rw [h1, h2, bnd2, bnd1_sum, sumI, costTo]
    omega
  | k + 1, hk => by
    obtain ⟨_, _, _, hvw⟩ := netB_ok hv
    have hw := hvw k (by omega)
    have ih := gap_to hv k (by omega)
    have hl := extTo_len (nt := nt) (mv := mv) k
    obtain ⟨y, ey⟩ : ∃ z, z = nt.ways.getD k way0 := ⟨_, rfl⟩
    obtain ⟨m, em⟩ : ∃ z, z = mv.getD k 0 := ⟨_, rfl⟩
    rw [← ey] at hw
    have h1 : sumI (fun q => pr.getD q 0 * (extTo nt mv (k + 1)).getD q 0) nt.ports.length = sumI (fun q => pr.getD q 0 * (extTo nt mv k).getD q 0) nt.ports.length + (pr.getD y.to.toNat 0 * m - pr.getD y.fr.toNat 0 * m) := by
      have e : ∀ q, q < nt.ports.length → pr.getD q 0 * (extTo nt mv (k + 1)).getD q 0 = pr.getD q 0 * (extTo nt mv k).getD q 0 + ((if q = y.to.toNat then pr.getD y.to.toNat 0 * m else 0) - (if q = y.fr.toNat then pr.getD y.fr.toNat 0 * m else 0)) := fun q hq => by
        rw [extTo, ← ey, ← em, extStep_at (by omega) (by omega), Int.mul_sub, Int.mul_add]
        by_cases a : q = y.to.toNat <;> by_cases b : q = y.fr.toNat
        · rw [if_pos a, if_pos b, if_pos a, if_pos b, ← a, ← b]; omega
        · rw [if_pos a, if_neg b, if_pos a, if_neg b, ← a]; omega
        · rw [if_neg a, if_pos b, if_neg a, if_pos b, ← b]; omega
        · rw [if_neg a, if_neg b, if_neg a, if_neg b]; omega
      rw [sumI_congr e, sumI_add, sumI_sub, sumI_at, sumI_at, if_pos (by omega), if_pos (by omega)]
    have hg : wayGap nt pr mv k = y.room * max 0 (gainW pr y) - m * gainW pr y := by rw [wayGap, ← ey, ← em]
    have hgw : m * gainW pr y = pr.getD y.to.toNat 0 * m - pr.getD y.fr.toNat 0 * m - m * y.cost := by
      rw [gainW, Int.mul_sub, Int.mul_sub, Int.mul_comm m, Int.mul_comm m]
    rw [h1, sumI, costTo, bnd2, ← ey, ← em, hg]
    omega
theorem wayGap_nn {j : Nat} (h0 : 0 ≤ mv.getD j 0) (h1 : mv.getD j 0 ≤ (nt.ways.getD j way0).room) : 0 ≤ wayGap nt pr mv j := by
  unfold wayGap
  generalize gainW pr (nt.ways.getD j way0) = g
  generalize mv.getD j 0 = m at h0 h1 ⊢
  generalize (nt.ways.getD j way0).room = r at h1 ⊢
  rcases Int.le_total 0 g with hg | hg
  · rw [Int.max_eq_right hg]
    have := Int.mul_le_mul_of_nonneg_right h1 hg
    omega
  · rw [Int.max_eq_left hg, Int.mul_zero]
    have := Int.mul_nonpos_of_nonneg_of_nonpos h0 hg
    omega
theorem ext_nn (ha : aftErr nt mv = 0) {q : Nat} (hq : q < nt.ports.length) : 0 ≤ (extL nt mv).getD q 0 := by
  obtain ⟨_, _, h⟩ := aft_parts ha
  have hl : (extL nt mv).length = nt.ports.length := extTo_len _
  have := List.any_eq_false.1 h _ (List.getElem_mem (show q < (extL nt mv).length by omega))
  rw [show (extL nt mv).getD q 0 = (extL nt mv)[q] by simp [List.getD, show q < (extL nt mv).length by omega]]
  simp only [decide_eq_true_eq] at this
  omega
/-- NO MOVES COST LESS THAN THE BOUND OF ANY PRICES -/
theorem weak (hv : netB nt = true) (ha : aftErr nt mv = 0) (hp : ∀ q, 0 ≤ pr.getD q 0) : bndL nt pr ≤ costL nt mv := by
  obtain ⟨hml, hok, _⟩ := aft_parts ha
  have h := gap_to (pr := pr) (mv := mv) hv nt.ways.length (Nat.le_refl _)
  have h1 : 0 ≤ sumI (fun q => pr.getD q 0 * (extTo nt mv nt.ways.length).getD q 0) nt.ports.length := sumI_nn fun q hq => Int.mul_nonneg (hp q) (ext_nn ha hq)
  have h2 : 0 ≤ sumI (wayGap nt pr mv) nt.ways.length := sumI_nn fun j hj => wayGap_nn (okTo_at hok hj).1 (okTo_at hok hj).2
  unfold costL bndL
  omega
/-- what proves moves -/
theorem strong (hv : netB nt = true) (ha : aftErr nt mv = 0) (hp : ∀ q, 0 ≤ pr.getD q 0) (h : provesB nt pr mv = true) : bndL nt pr = costL nt mv := by
  obtain ⟨hml, hok, _⟩ := aft_parts ha
  have hg := gap_to (pr := pr) (mv := mv) hv nt.ways.length (Nat.le_refl _)
  unfold provesB at h
  rw [Bool.and_eq_true] at h
  have h1 : sumI (fun q => pr.getD q 0 * (extTo nt mv nt.ways.length).getD q 0) nt.ports.length = 0 := sumI_zero fun q hq => by
    have h3 := List.all_eq_true.1 h.2 q (List.mem_range.2 hq)
    have h4 := hp q
    have h5 := ext_nn ha hq
    unfold prtP at h3
    simp only [Bool.not_eq_true', Bool.and_eq_false_iff, decide_eq_false_iff_not] at h3
    show pr.getD q 0 * (extL nt mv).getD q 0 = 0
    rcases h3 with h3 | h3
    · rw [show pr.getD q 0 = 0 by omega, Int.zero_mul]
    · rw [show (extL nt mv).getD q 0 = 0 by omega, Int.mul_zero]
  have h2 : sumI (wayGap nt pr mv) nt.ways.length = 0 := sumI_zero fun j hj => by
    have h3 := List.all_eq_true.1 h.1 j (List.mem_range.2 hj)
    have h4 := okTo_at hok hj
    unfold wayP at h3
    simp only [Bool.and_eq_true, Bool.not_eq_true', Bool.and_eq_false_iff, decide_eq_false_iff_not] at h3
    unfold wayGap
    generalize gainW pr (nt.ways.getD j way0) = g at h3 ⊢
    generalize mv.getD j 0 = m at h3 h4 ⊢
    generalize (nt.ways.getD j way0).room = r at h3 h4 ⊢
    rcases Int.lt_trichotomy g 0 with hg | hg | hg
    · rw [Int.max_eq_left (by omega), Int.mul_zero, show m = 0 by omega, Int.zero_mul]; rfl
    · rw [hg]; simp
    · rw [Int.max_eq_right (by omega), show m = r by omega]; omega
  unfold costL bndL
  omega
end
end Go.Proofs.Ytabgmnmpdjnjoaa
set_option linter.unusedVariables false
set_option linter.unusedSimpArgs false
namespace Go.Proofs.Ytabgmnmpdjnjoaa
theorem sumI_each {f : Nat → Int} : ∀ {n : Nat}, (∀ i, i < n → 0 ≤ f i) → sumI f n ≤ 0 → ∀ i, i < n → f i = 0
  | 0, _, _, i, hi => absurd hi (Nat.not_lt_zero _)
  | n + 1, h, hs, i, hi => by
    rw [sumI] at hs
    have h1 := sumI_nn (f := f) (n := n) (fun i hi => h i (by omega))
    have h2 := h n (by omega)
    by_cases e : i = n
    · subst e; omega
    · exact sumI_each (f := f) (n := n) (fun i hi => h i (by omega)) (by omega) i (by omega)
section
variable {nt : Net} {L : List Arc} {mv : List Int}
/-- what a port has after moves -/
theorem ext_sum (hv : netB nt = true) {v : Nat} (hp : v < nt.ports.length) : ∀ k, k ≤ nt.ways.length → (extTo nt mv k).getD v 0 = ((nt.ports.getD v prt0).has - (nt.ports.getD v prt0).wants) + sumI (fun j => (if v = (nt.ways.getD j way0).to.toNat then mv.getD j 0 else 0) - (if v = (nt.ways.getD j way0).fr.toNat then mv.getD j 0 else 0)) k
  | 0, _ => by rw [ext0_at hp, sumI]; omega
  | k + 1, hk => by
    obtain ⟨_, _, _, hvw⟩ := netB_ok hv
    have hw := hvw k (by omega)
    have hl := extTo_len (nt := nt) (mv := mv) k
    rw [extTo, extStep_at (by omega) (by omega), ext_sum hv hp k (by omega), sumI]
    omega
/-! ### The flow -/
theorem bal_ways (hst : St nt L) (v : Nat) : ∀ k, k ≤ nt.ways.length → balTo L v k = sumI (fun j => (if v = (nt.ways.getD j way0).to.toNat then (movesL L nt.ways.length).getD j 0 else 0) - (if v = (nt.ways.getD j way0).fr.toNat then (movesL L nt.ways.length).getD j 0 else 0)) k
  | 0, _ => rfl
  | k + 1, hk => by
    have hs := hst.good.shape (2 * k)
    have ho := (open_way (nt := nt) (j := k) (by omega)).1
    have e1 : (arcAt L (2 * k)).to = (nt.ways.getD k way0).to.toNat := by rw [hs.2.1, ho]
    have e2 : (arcAt L (2 * k)).fr = (nt.ways.getD k way0).fr.toNat := by rw [hs.1, ho]
    rw [balTo, sumI, bal_ways hst v k (by omega), moves_at L (by omega), e1, e2]
    simp only [eq_comm]
theorem bal_ports (hst : St nt L) {v : Nat} (hp : v < nt.ports.length) : ∀ q, q ≤ nt.ports.length → balTo L v (nt.ways.length + 2 * q) = balTo L v nt.ways.length + (if v < q then (arcAt L (2 * nt.ways.length + 4 * v + 1)).room - (arcAt L (2 * nt.ways.length + 4 * v + 3)).room else 0)
  | 0, _ => by simp
  | q + 1, hq => by
    have ih := bal_ports hst hp q (by omega)
    obtain ⟨o0, o1, o2, o3⟩ := open_port (nt := nt) (q := q) (by omega)
    have s0 := hst.good.shape (2 * nt.ways.length + 4 * q)
    have s2 := hst.good.shape (2 * nt.ways.length + 4 * q + 2)
    have a1 : 2 * (nt.ways.length + 2 * q) = 2 * nt.ways.length + 4 * q := by omega
    have a2 : 2 * (nt.ways.length + 2 * q + 1) = 2 * nt.ways.length + 4 * q + 2 := by omega
    have f0 : (arcAt L (2 * nt.ways.length + 4 * q)).fr = nt.ports.length := by rw [s0.1, o0]
    have t0 : (arcAt L (2 * nt.ways.length + 4 * q)).to = q := by rw [s0.2.1, o0]
    have f2 : (arcAt L (2 * nt.ways.length + 4 * q + 2)).fr = q := by rw [s2.1, o2]
    have t2 : (arcAt L (2 * nt.ways.length + 4 * q + 2)).to = nt.ports.length + 1 := by rw [s2.2.1, o2]
    rw [show nt.ways.length + 2 * (q + 1) = nt.ways.length + 2 * q + 1 + 1 by omega, balTo, balTo, ih, a2, a1, f0, t0, f2, t2, show 2 * nt.ways.length + 4 * q + 2 + 1 = 2 * nt.ways.length + 4 * q + 3 from rfl]
    rw [if_neg (show ¬nt.ports.length = v by omega), if_neg (show ¬nt.ports.length + 1 = v by omega)]
    by_cases e : q = v
    · subst e
      rw [if_pos rfl, if_pos rfl, if_neg (Nat.lt_irrefl _), if_pos (Nat.lt_succ_self _)]
      omega
    · rw [if_neg e, if_neg e]
      by_cases h : v < q
      · rw [if_pos h, if_pos (by omega)]; omega
      · rw [if_neg h, if_neg (by omega)]; omega
/-- hulls that are left in a port; hulls that it lacks -/
def restA (nt : Net) (L : List Arc) (q : Nat) : Int := (arcAt L (2 * nt.ways.length + 4 * q)).room
def defA (nt : Net) (L : List Arc) (q : Nat) : Int := (arcAt L (2 * nt.ways.length + 4 * q + 2)).room
theorem St.len (hst : St nt L) : L.length = nt.ways.length * 2 + nt.ports.length * 4 := by rw [hst.good.len, openL_len]
theorem rest_nn (hst : St nt L) {q : Nat} (hq : q < nt.ports.length) : 0 ≤ restA nt L q ∧ 0 ≤ defA nt L q := ⟨hst.good.nn _ (by rw [hst.len]; omega), hst.good.nn _ (by rw [hst.len]; omega)⟩
theorem mate_even' {i : Nat} (h : i % 2 = 0) : mate i = i + 1 := by unfold mate; rw [if_pos h]
theorem ext_bal (hv : netB nt = true) (hst : St nt L) {v : Nat} (hp : v < nt.ports.length) : (extL nt (movesL L nt.ways.length)).getD v 0 = restA nt L v - defA nt L v := by
  have h1 := ext_sum (mv := movesL L nt.ways.length) hv hp nt.ways.length (Nat.le_refl _)
  have h2 := bal_ways hst v nt.ways.length (Nat.le_refl _)
  have h3 := bal_ports hst hp nt.ports.length (Nat.le_refl _)
  have h4 := hst.cons v hp
  have hl := hst.len
  obtain ⟨o0, o1, o2, o3⟩ := open_port (nt := nt) (q := v) hp
  have p0 := hst.good.pair (2 * nt.ways.length + 4 * v) (by omega)
  have p2 := hst.good.pair (2 * nt.ways.length + 4 * v + 2) (by omega)
  rw [mate_even' (by omega), o0, o1] at p0
  rw [mate_even' (by omega), o2, show 2 * nt.ways.length + 4 * v + 2 + 1 = 2 * nt.ways.length + 4 * v + 3 by omega, o3] at p2
  rw [bal, show L.length / 2 = nt.ways.length + 2 * nt.ports.length by omega, h3, if_pos hp] at h4
  unfold restA defA
  rw [extL, h1, ← h2]
  simp only at p0 p2
  omega
theorem way_pair (hst : St nt L) {j : Nat} (hj : j < nt.ways.length) : (arcAt L (2 * j)).room + (arcAt L (2 * j + 1)).room = (nt.ways.getD j way0).room ∧ 0 ≤ (arcAt L (2 * j)).room ∧ 0 ≤ (arcAt L (2 * j + 1)).room := by
  have hl := hst.len
  obtain ⟨o0, o1⟩ := open_way (nt := nt) hj
  have p0 := hst.good.pair (2 * j) (by omega)
  rw [mate_even, o0, o1] at p0
  simp only at p0
  exact ⟨by omega, hst.good.nn _ (by omega), hst.good.nn _ (by omega)⟩
theorem full_iff (hst : St nt L) : fullB nt L = true ↔ ∀ q, q < nt.ports.length → defA nt L q ≤ 0 := by
  have hl := hst.len
  have hat : ∀ i, 2 * nt.ways.length + i < L.length → (L.drop (2 * nt.ways.length))[i]? = some (arcAt L (2 * nt.ways.length + i)) := fun i hi => by
    rw [List.getElem?_drop, List.getElem?_eq_getElem hi]
    simp [arcAt, List.getD, hi]
  unfold fullB
  rw [List.all_eq_true]
  constructor
  · intro h q hq
    have h1 := h _ (List.mem_of_getElem? (hat (4 * q + 2) (by omega)))
    have o2 := (open_port (nt := nt) (q := q) hq).2.2.1
    have s2 := hst.good.shape (2 * nt.ways.length + 4 * q + 2)
    have e : 2 * nt.ways.length + (4 * q + 2) = 2 * nt.ways.length + 4 * q + 2 := by omega
    rw [e] at h1
    unfold fullA at h1
    rw [decide_eq_true (by rw [s2.2.1, o2])] at h1
    simp only [Bool.true_and, Bool.not_eq_true', decide_eq_false_iff_not] at h1
    unfold defA
    omega
  · intro h a ha
    obtain ⟨i, hi, rfl⟩ := List.getElem_of_mem ha
    rw [List.length_drop] at hi
    have e := hat i (by omega)
    rw [List.getElem?_eq_getElem (by rw [List.length_drop]; exact hi)] at e
    injection e with e
    rw [e]
    have hq : i / 4 < nt.ports.length := by omega
    have s := hst.good.shape (2 * nt.ways.length + i)
    obtain ⟨o0, o1, o2, o3⟩ := open_port (nt := nt) (q := i / 4) hq
    have hr : i = 4 * (i / 4) ∨ i = 4 * (i / 4) + 1 ∨ i = 4 * (i / 4) + 2 ∨ i = 4 * (i / 4) + 3 := by omega
    generalize i / 4 = q at *
    rcases hr with rfl | rfl | rfl | rfl
    · exact fullA_to (by rw [s.2.1, o0]; simp only; omega)
    · rw [← Nat.add_assoc] at s ⊢
      exact fullA_to (by rw [s.2.1, o1]; simp only; omega)
    · rw [← Nat.add_assoc] at s ⊢
      refine fullA_room ?_
      have := h q hq
      unfold defA at this
      omega
    · rw [← Nat.add_assoc] at s ⊢
      exact fullA_to (by rw [s.2.1, o3]; simp only; omega)
/-- MOVES THAT MEET ALL WANTS ARE POSSIBLE -/
theorem full_aft (hv : netB nt = true) (hst : St nt L) (hf : fullB nt L = true) : aftErr nt (movesL L nt.ways.length) = 0 := by
  have hl := hst.len
  refine aft_ok (by rw [moves_len]; exact fun h => h rfl) ?_ ?_
  · unfold okTo
    rw [List.all_eq_true]
    intro j hj
    have hj := List.mem_range.1 hj
    have hw := way_pair hst hj
    unfold okMv
    rw [moves_at L hj, inB_iff]
    omega
  · intro h
    obtain ⟨x, hx, h1⟩ := List.any_eq_true.1 h
    obtain ⟨i, hi, rfl⟩ := List.getElem_of_mem hx
    have hle : (extL nt (movesL L nt.ways.length)).length = nt.ports.length := extTo_len _
    have h2 := ext_bal hv hst (v := i) (by omega)
    rw [show (extL nt (movesL L nt.ways.length)).getD i 0 = (extL nt (movesL L nt.ways.length))[i] by simp [List.getD, hi]] at h2
    have h3 := (full_iff hst).1 hf i (by omega)
    have h4 := rest_nn hst (q := i) (by omega)
    have h5 := of_decide_eq_true h1
    omega
/-! ### The prices -/
/-- what the second costs are like -/
theorem bare_costs (hv : netB nt = true) (hst : St nt L) {l l2 b2 : List Int} (hE : EndsAt L (bf0 (nt.ports.length + 2) (initB nt l)) l2 b2) : (∀ i, i < L.length → 0 < (arcAt L i).room → l2.getD (arcAt L i).fr 0 < farI → l2.getD (arcAt L i).to 0 ≤ l2.getD (arcAt L i).fr 0 + (arcAt L i).cost) ∧
    ∀ v, v < nt.ports.length → farI ≤ l.getD v 0 → -61000000 ≤ l2.getD v 0 ∧ l2.getD v 0 ≤ 0 := by
  obtain ⟨⟨hp1, hp60⟩, _⟩ := netB_ok hv
  obtain ⟨d, hF, hd⟩ := hst.pot0 hv
  have hA := hst.arcs hv
  have h0 : InvB L (nt.ports.length + 2) (fun _ => True) d (initB nt l) (bf0 (nt.ports.length + 2) (initB nt l)) := inv0 (fun v _ h => absurd trivial h) (fun v hv' _ => by
    have h1 := (hd v hv').2
    have h2 := initB_nn (nt := nt) (l := l) v
    omega)
  have hI := hE.inv hA hF initB_far h0
  refine ⟨fun i hi hr hf => hE.fixed.le hi hr hf, fun v hv' hb => ?_⟩
  have h1 : l2.getD v 0 ≤ initB nt l v := hI.le v (by omega)
  have h2 : d v ≤ l2.getD v 0 := hI.low v (by omega) trivial
  unfold initB at h1
  rw [if_pos ⟨hv', hb⟩] at h1
  have := hd v (by omega)
  omega
theorem prices_at {l l2 : List Int} {v : Nat} (h : v < nt.ports.length) : (pricesL nt l l2).getD v 0 = priceOf l l2 v := by simp [pricesL, List.getD, h]
/-- THE PRICES PROVE THE MOVES -/
theorem prices_prove (hv : netB nt = true) (hst : St nt L) (hf : fullB nt L = true) {pr : List Int} (hpr : PricesOf nt L pr) : prErr nt pr = 0 ∧ provesB nt pr (movesL L nt.ways.length) = true := by
  obtain ⟨l, b, l2, hE, hB, rfl⟩ := hpr
  obtain ⟨⟨hp1, hp60⟩, hw3, hvp, hvw⟩ := netB_ok hv
  have hFar := hst.far hv hE
  have hl := hst.len
  have hbare : ∀ v, v < nt.ports.length → farI ≤ l.getD v 0 → (∀ i, i < L.length → 0 < (arcAt L i).room → l2.getD (arcAt L i).fr 0 < farI → l2.getD (arcAt L i).to 0 ≤ l2.getD (arcAt L i).fr 0 + (arcAt L i).cost) ∧ ∀ v, v < nt.ports.length → farI ≤ l.getD v 0 → -61000000 ≤ l2.getD v 0 ∧ l2.getD v 0 ≤ 0 := fun v h1 h2 => by
    obtain ⟨b2, h3⟩ := hB ⟨v, h1, h2⟩
    exact bare_costs hv hst h3
  have hbd : ∀ v, v < nt.ports.length → 0 ≤ priceOf l l2 v ∧ priceOf l l2 v ≤ 240000000 := fun v h1 => by
    unfold priceOf
    by_cases h2 : farI ≤ l.getD v 0
    · rw [if_pos h2]
      have := (hbare v h1 h2).2 v h1 h2
      unfold farI
      omega
    · rw [if_neg h2]
      have h3 := hFar.nn v (by omega)
      have h4 := hFar.small v (by omega) (by omega)
      omega
  have step : ∀ i, i < L.length → 0 < (arcAt L i).room → (arcAt L i).fr < nt.ports.length → (arcAt L i).to < nt.ports.length → priceOf l l2 (arcAt L i).to ≤ priceOf l l2 (arcAt L i).fr + (arcAt L i).cost := fun i hi hr h1 h2 => by
    have hc := (hst.arcs hv).cost i hi
    unfold priceOf
    by_cases h3 : farI ≤ l.getD (arcAt L i).fr 0
    · rw [if_pos h3]
      obtain ⟨g1, g2⟩ := hbare _ h1 h3
      have g3 := g2 _ h1 h3
      by_cases h4 : farI ≤ l.getD (arcAt L i).to 0
      · rw [if_pos h4]
        have := g1 i hi hr (by unfold farI; omega)
        omega
      · rw [if_neg h4]
        have := hFar.small (arcAt L i).to (by omega) (by omega)
        unfold farI
        omega
    · rw [if_neg h3]
      obtain ⟨g1, g2⟩ := hFar.feas.step i hi hr (by omega)
      have g1' : l.getD (arcAt L i).to 0 < farI := g1
      rw [if_neg (by omega)]
      exact g2
  refine ⟨?_, ?_⟩
  · refine pr_ok (by rw [pricesL_len]; exact fun h => h rfl) ?_
    rw [List.all_eq_true]
    intro x hx
    obtain ⟨i, hi, rfl⟩ := List.getElem_of_mem hx
    rw [pricesL_len] at hi
    rw [show (pricesL nt l l2)[i] = priceOf l l2 i by simp [pricesL], inB_iff]
    have := hbd i hi
    omega
  · unfold provesB
    rw [Bool.and_eq_true, List.all_eq_true, List.all_eq_true]
    refine ⟨fun j hj => ?_, fun q hq => ?_⟩
    · have hj := List.mem_range.1 hj
      have hw := hvw j hj
      have hp := way_pair hst hj
      obtain ⟨o0, o1⟩ := open_way (nt := nt) hj
      have s0 := hst.good.shape (2 * j)
      have s1 := hst.good.shape (2 * j + 1)
      rw [o0] at s0
      rw [o1] at s1
      simp only at s0 s1
      have t0 := step (2 * j) (by omega)
      have t1 := step (2 * j + 1) (by omega)
      rw [s0.1, s0.2.1, s0.2.2] at t0
      rw [s1.1, s1.2.1, s1.2.2] at t1
      unfold wayP
      rw [moves_at L hj, gainW, prices_at (by omega), prices_at (by omega)]
      have t0 := fun h => t0 h (by omega) (by omega)
      have t1 := fun h => t1 h (by omega) (by omega)
      generalize priceOf l l2 (nt.ways.getD j way0).to.toNat = pt at *
      generalize priceOf l l2 (nt.ways.getD j way0).fr.toNat = pf at *
      simp only [Bool.and_eq_true, Bool.not_eq_true', Bool.and_eq_false_iff, decide_eq_false_iff_not]
      refine ⟨?_, ?_⟩
      · by_cases h : 0 < (arcAt L (2 * j + 1)).room
        · have := t1 h; exact .inl (by omega)
        · exact .inr h
      · by_cases h : 0 < (arcAt L (2 * j)).room
        · have := t0 h; exact .inl (by omega)
        · exact .inr (by omega)
    · have hq := List.mem_range.1 hq
      unfold prtP
      rw [prices_at hq, ext_bal hv hst hq]
      have hr := rest_nn hst hq
      have hd := (full_iff hst).1 hf q hq
      simp only [Bool.not_eq_true', Bool.and_eq_false_iff, decide_eq_false_iff_not]
      by_cases h : 0 < restA nt L q
      · refine .inl ?_
        have o0 := (open_port (nt := nt) (q := q) hq).1
        have s0 := hst.good.shape (2 * nt.ways.length + 4 * q)
        rw [o0] at s0
        simp only at s0
        obtain ⟨g1, g2⟩ := hFar.feas.step (2 * nt.ways.length + 4 * q) (by omega) h (by rw [s0.1, hFar.src]; decide)
        have g1' : l.getD q 0 < farI := by rw [s0.2.1] at g1; exact g1
        have g2' : l.getD q 0 ≤ 0 := by rw [s0.1, s0.2.1, s0.2.2, hFar.src] at g2; omega
        unfold priceOf
        rw [if_neg (by omega)]
        omega
      · exact .inr (by omega)
end
/-! ### What Move answers -/
theorem pr_nn {nt : Net} {pr : List Int} (h : prErr nt pr = 0) (q : Nat) : 0 ≤ pr.getD q 0 := (pr_at (pr_zero h).2 q).1
/-- what moves that are told are like -/
theorem move_ok {nt : Net} {ml pr : List Int} {c : Int} (hv : netB nt = true) (h : MoveR nt ml c pr 0) : aftErr nt ml = 0 ∧ prErr nt pr = 0 ∧ provesB nt pr ml = true ∧ c = costL nt ml ∧ c = bndL nt pr := by
  rcases h with ⟨_, h2, _⟩ | ⟨_, L, hF, hst, ⟨_, h2, _⟩ | ⟨h1, _, h3, h4, h5⟩⟩
  · cases h2
  · cases h2
  · have ha := full_aft hv hst h1
    obtain ⟨g1, g2⟩ := prices_prove hv hst h1 h5
    subst h3
    have := strong hv ha (pr_nn g1) g2
    exact ⟨ha, g1, g2, h4, by rw [this, h4]; rfl⟩
/-- the cost is the least one, and the bound is the greatest one -/
theorem move_least {nt : Net} {ml pr mv : List Int} {c : Int} (hv : netB nt = true) (h : MoveR nt ml c pr 0) (ha : aftErr nt mv = 0) : c ≤ costL nt mv := by
  obtain ⟨_, h2, _, _, h5⟩ := move_ok hv h
  rw [h5]
  exact weak hv ha (pr_nn h2)
theorem move_bound {nt : Net} {ml pr : List Int} {c : Int} {p : List Int} (hv : netB nt = true) (h : MoveR nt ml c pr 0) (hp : ∀ q, 0 ≤ p.getD q 0) : bndL nt p ≤ c := by
  obtain ⟨h1, _, _, h4, _⟩ := move_ok hv h
  rw [h4]
  exact weak hv h1 hp
/-! ### Where hulls lack -/
def lackS (nt : Net) (f : Nat → Bool) : Int := sumI (fun q => if f q = true then (nt.ports.getD q prt0).wants - (nt.ports.getD q prt0).has else 0) nt.ports.length - sumI (fun j => if lkB nt f j = true then (nt.ways.getD j way0).room else 0) nt.ways.length
def lossW (nt : Net) (mv : List Int) (f : Nat → Bool) (j : Nat) : Int := (if lkB nt f j = true then (nt.ways.getD j way0).room else 0) - (if f (nt.ways.getD j way0).to.toNat = true then mv.getD j 0 else 0) + (if f (nt.ways.getD j way0).fr.toNat = true then mv.getD j 0 else 0)
section
variable {nt : Net} {L : List Arc} {mv : List Int} {f : Nat → Bool}
theorem sumI_neg {f : Nat → Int} : ∀ n : Nat, sumI (fun i => -f i) n = -sumI f n
  | 0 => rfl
  | n + 1 => by rw [sumI, sumI, sumI_neg n]; omega
theorem ext_set (hv : netB nt = true) : ∀ k, k ≤ nt.ways.length → sumI (fun q => if f q = true then (extTo nt mv k).getD q 0 else 0) nt.ports.length = sumI (fun q => if f q = true then (nt.ports.getD q prt0).has - (nt.ports.getD q prt0).wants else 0) nt.ports.length + sumI (fun j => (if f (nt.ways.getD j way0).to.toNat = true then mv.getD j 0 else 0) - (if f (nt.ways.getD j way0).fr.toNat = true then mv.getD j 0 else 0)) k
  | 0, _ => by
    rw [show sumI (fun j => (if f (nt.ways.getD j way0).to.toNat = true then mv.getD j 0 else 0) - (if f (nt.ways.getD j way0).fr.toNat = true then mv.getD j 0 else 0)) 0 = 0 from rfl, Int.add_zero]
    exact sumI_congr fun q hq => by rw [ext0_at hq]
  | k + 1, hk => by
    obtain ⟨_, _, _, hvw⟩ := netB_ok hv
    have hw := hvw k (by omega)
    have ih := ext_set hv k (by omega)
    have hl := extTo_len (nt := nt) (mv := mv) k
    obtain ⟨y, ey⟩ : ∃ z, z = nt.ways.getD k way0 := ⟨_, rfl⟩
    obtain ⟨m, em⟩ : ∃ z, z = mv.getD k 0 := ⟨_, rfl⟩
    rw [← ey] at hw
    have e : ∀ q, q < nt.ports.length → (if f q = true then (extTo nt mv (k + 1)).getD q 0 else 0) = (if f q = true then (extTo nt mv k).getD q 0 else 0) + ((if q = y.to.toNat then (if f y.to.toNat = true then m else 0) else 0) - (if q = y.fr.toNat then (if f y.fr.toNat = true then m else 0) else 0)) := fun q hq => by
      rw [extTo, ← ey, ← em, extStep_at (by omega) (by omega)]
      by_cases a : q = y.to.toNat <;> by_cases b : q = y.fr.toNat
      · rw [if_pos a, if_pos b, if_pos a, if_pos b, ← a, ← b]; split <;> omega
      · rw [if_pos a, if_neg b, if_pos a, if_neg b, ← a]; split <;> omega
      · rw [if_neg a, if_pos b, if_neg a, if_pos b, ← b]; split <;> omega
      · rw [if_neg a, if_neg b, if_neg a, if_neg b]; split <;> omega
    rw [sumI_congr e, sumI_add, sumI_sub, sumI_at, sumI_at, if_pos (show y.to.toNat < nt.ports.length by omega), if_pos (show y.fr.toNat < nt.ports.length by omega), ih, sumI, ← ey, ← em]
    omega
theorem lack_id (hv : netB nt = true) : lackS nt f = sumI (fun q => if f q = true then -(extL nt mv).getD q 0 else 0) nt.ports.length - sumI (lossW nt mv f) nt.ways.length := by
  have h := ext_set (mv := mv) (f := f) hv nt.ways.length (Nat.le_refl _)
  have e1 : sumI (fun q => if f q = true then -(extL nt mv).getD q 0 else 0) nt.ports.length = -sumI (fun q => if f q = true then (extTo nt mv nt.ways.length).getD q 0 else 0) nt.ports.length := by
    rw [← sumI_neg]
    exact sumI_congr fun q _ => by unfold extL; split <;> omega
  have e2 : sumI (fun q => if f q = true then (nt.ports.getD q prt0).wants - (nt.ports.getD q prt0).has else 0) nt.ports.length = -sumI (fun q => if f q = true then (nt.ports.getD q prt0).has - (nt.ports.getD q prt0).wants else 0) nt.ports.length := by
    rw [← sumI_neg]
    exact sumI_congr fun q _ => by split <;> omega
  have e3 : sumI (lossW nt mv f) nt.ways.length = sumI (fun j => if lkB nt f j = true then (nt.ways.getD j way0).room else 0) nt.ways.length - sumI (fun j => (if f (nt.ways.getD j way0).to.toNat = true then mv.getD j 0 else 0) - (if f (nt.ways.getD j way0).fr.toNat = true then mv.getD j 0 else 0)) nt.ways.length := by
    rw [← sumI_sub]
    exact sumI_congr fun j _ => by unfold lossW; omega
  unfold lackS
  rw [e1, e2, e3, h]
  omega
theorem loss_cases {j : Nat} (h0 : 0 ≤ mv.getD j 0) (h1 : mv.getD j 0 ≤ (nt.ways.getD j way0).room) : 0 ≤ lossW nt mv f j ∧ (lossW nt mv f j = 0 → (f (nt.ways.getD j way0).to.toNat = true → f (nt.ways.getD j way0).fr.toNat = false → mv.getD j 0 = (nt.ways.getD j way0).room) ∧ (f (nt.ways.getD j way0).fr.toNat = true → f (nt.ways.getD j way0).to.toNat = false → mv.getD j 0 = 0)) := by
  unfold lossW lkB
  generalize mv.getD j 0 = m at h0 h1 ⊢
  generalize (nt.ways.getD j way0).room = r at h1 ⊢
  cases f (nt.ways.getD j way0).to.toNat <;> cases f (nt.ways.getD j way0).fr.toNat <;> simp <;> omega
/-- where moves are possible nothing lacks -/
theorem lack_none (hv : netB nt = true) (ha : aftErr nt mv = 0) : lackS nt f ≤ 0 := by
  obtain ⟨hml, hok, _⟩ := aft_parts ha
  rw [lack_id (mv := mv) hv]
  have h1 : 0 ≤ sumI (lossW nt mv f) nt.ways.length := sumI_nn fun j hj => (loss_cases (okTo_at hok hj).1 (okTo_at hok hj).2).1
  have h2 : sumI (fun q => if f q = true then -(extL nt mv).getD q 0 else 0) nt.ports.length ≤ sumI (fun _ => 0) nt.ports.length := sumI_le fun q hq => by
    have := ext_nn ha hq
    split <;> omega
  have h3 : sumI (fun _ => (0 : Int)) nt.ports.length = 0 := sumI_zero fun _ _ => rfl
  omega
def gapQ (nt : Net) (L : List Arc) (f : Nat → Bool) (q : Nat) : Int := if f q = true then restA nt L q else defA nt L q
theorem lack_flow (hv : netB nt = true) (hst : St nt L) : lackS nt f = sumI (defA nt L) nt.ports.length - sumI (gapQ nt L f) nt.ports.length - sumI (lossW nt (movesL L nt.ways.length) f) nt.ways.length := by
  rw [lack_id (mv := movesL L nt.ways.length) hv, ← sumI_sub]
  congr 1
  exact sumI_congr fun q hq => by
    rw [ext_bal hv hst hq]
    unfold gapQ
    split <;> omega
/-- where no hulls can come any more -/
theorem FillTo.cut {L0 : List Arc} (hF : FillTo nt L0 L) : ∃ l b, EndsAt L (bf0 (nt.ports.length + 2) (initS nt)) l b ∧ b.getD (nt.ports.length + 1) 0 < 0 := by
  induction hF with
  | stop h1 h2 => exact ⟨_, _, h1, h2⟩
  | step _ _ _ _ ih => exact ih
theorem no_way {L0 : List Arc} (hv : netB nt = true) (hst : St nt L) (hF : FillTo nt L0 L) : ¬Lk L (nt.ports.length + 1) nt.ports.length := by
  obtain ⟨l, b, hE, hb⟩ := hF.cut
  have hFar := hst.far hv hE
  have : ∀ v, Lk L (nt.ports.length + 1) v → l.getD v 0 < farI → l.getD (nt.ports.length + 1) 0 < farI := by
    intro v h
    induction h with
    | base => exact fun h => h
    | step hi hr _ ih => exact fun h => ih (hFar.feas.step _ hi hr h).1
  intro h
  have h1 := this _ h (by rw [hFar.src]; decide)
  rcases hFar.none (nt.ports.length + 1) (by omega) (by omega) with ⟨_, h2⟩ | ⟨h2, _⟩ <;> omega
/-- the nodes from which the sink could get hulls have the greatest lack -/
theorem lack_lk {L0 : List Arc} (hv : netB nt = true) (hst : St nt L) (hF : FillTo nt L0 L) (hf : ∀ v, f v = true ↔ Lk L (nt.ports.length + 1) v) : lackS nt f = sumI (defA nt L) nt.ports.length := by
  have hno := no_way hv hst hF
  obtain ⟨⟨hp1, hp60⟩, hw3, hvp, hvw⟩ := netB_ok hv
  have hlen := hst.len
  have lk : ∀ i, i < L.length → 0 < (arcAt L i).room → f (arcAt L i).to = true → f (arcAt L i).fr = true := fun i hi hr h => (hf _).2 (.step hi hr ((hf _).1 h))
  have hs : f nt.ports.length = false := by
    cases e : f nt.ports.length with
    | false => rfl
    | true => exact absurd ((hf _).1 e) hno
  have hsink : f (nt.ports.length + 1) = true := (hf _).2 .base
  rw [lack_flow hv hst]
  have z1 : sumI (gapQ nt L f) nt.ports.length = 0 := sumI_zero fun q hq => by
    have hr := rest_nn hst hq
    obtain ⟨o0, _, o2, _⟩ := open_port (nt := nt) hq
    have s0 := hst.good.shape (2 * nt.ways.length + 4 * q)
    have s2 := hst.good.shape (2 * nt.ways.length + 4 * q + 2)
    rw [o0] at s0
    rw [o2] at s2
    simp only at s0 s2
    have l0 := lk (2 * nt.ways.length + 4 * q) (by omega)
    have l2 := lk (2 * nt.ways.length + 4 * q + 2) (by omega)
    rw [s0.1, s0.2.1] at l0
    rw [s2.1, s2.2.1] at l2
    unfold gapQ
    unfold restA defA at hr ⊢
    cases e : f q with
    | true =>
      rw [if_pos rfl]
      by_cases h : 0 < (arcAt L (2 * nt.ways.length + 4 * q)).room
      · rw [l0 h e] at hs; cases hs
      · omega
    | false =>
      rw [if_neg (by decide)]
      by_cases h : 0 < (arcAt L (2 * nt.ways.length + 4 * q + 2)).room
      · rw [l2 h hsink] at e; cases e
      · omega
  have z2 : sumI (lossW nt (movesL L nt.ways.length) f) nt.ways.length = 0 := sumI_zero fun j hj => by
    obtain ⟨h1, h2, h3⟩ := way_pair hst hj
    obtain ⟨o0, o1⟩ := open_way (nt := nt) hj
    have s0 := hst.good.shape (2 * j)
    have s1 := hst.good.shape (2 * j + 1)
    rw [o0] at s0
    rw [o1] at s1
    simp only at s0 s1
    have l0 := lk (2 * j) (by omega)
    have l1 := lk (2 * j + 1) (by omega)
    rw [s0.1, s0.2.1] at l0
    rw [s1.1, s1.2.1] at l1
    unfold lossW lkB
    rw [moves_at L hj]
    cases e1 : f (nt.ways.getD j way0).to.toNat <;> cases e2 : f (nt.ways.getD j way0).fr.toNat <;> simp only [Bool.not_true, Bool.not_false, Bool.and_true, Bool.and_false, Bool.true_and, Bool.false_and, Bool.false_eq_true, if_true, if_false, if_pos]
    · omega
    · by_cases h : 0 < (arcAt L (2 * j + 1)).room
      · rw [l1 h e2] at e1; cases e1
      · omega
    · by_cases h : 0 < (arcAt L (2 * j)).room
      · rw [l0 h e1] at e2; cases e2
      · omega
    · omega
  omega
/-- hulls lack just if no moves are possible -/
theorem full_feas {L0 : List Arc} (hv : netB nt = true) (hst : St nt L) (hF : FillTo nt L0 L) : (fullB nt L = true ↔ ∃ mv, aftErr nt mv = 0) ∧ (fullB nt L = true ↔ sumI (defA nt L) nt.ports.length = 0) := by
  have hz : sumI (defA nt L) nt.ports.length ≤ 0 → fullB nt L = true := fun h => (full_iff hst).2 fun q hq => by
    have := sumI_each (f := defA nt L) (n := nt.ports.length) (fun q hq => (rest_nn hst hq).2) h q hq
    omega
  have hn : 0 ≤ sumI (defA nt L) nt.ports.length := sumI_nn fun q hq => (rest_nn hst hq).2
  refine ⟨⟨fun h => ⟨_, full_aft hv hst h⟩, fun ⟨mv, ha⟩ => hz ?_⟩, fun h => ?_, fun h => hz (by omega)⟩
  · classical
    have h1 := lack_lk (f := fun v => decide (Lk L (nt.ports.length + 1) v)) hv hst hF fun v => by simp
    have h2 := lack_none (f := fun v => decide (Lk L (nt.ports.length + 1) v)) hv ha
    omega
  · refine sumI_zero fun q hq => ?_
    have h1 := (full_iff hst).1 h q hq
    have h2 := (rest_nn hst hq).2
    omega
end
/-- Move: whether there are moves -/
theorem move_err {nt : Net} {ml pr : List Int} {c e : Int} (hv : netB nt = true) (h : MoveR nt ml c pr e) : (e = 0 ∧ ∃ mv, aftErr nt mv = 0) ∨ (e = 7 ∧ c = 0 ∧ ml = [] ∧ pr = [] ∧ ∀ mv, aftErr nt mv ≠ 0) := by
  rcases h with ⟨h1, _⟩ | ⟨_, L, hF, hst, ⟨h1, h2, h3, h4, h5⟩ | ⟨h1, h2, h3, h4, h5⟩⟩
  · rw [hv] at h1; cases h1
  · refine .inr ⟨h2, h3, h4, h5, fun mv ha => ?_⟩
    rw [((full_feas hv hst hF).1).2 ⟨mv, ha⟩] at h1
    cases h1
  · exact .inl ⟨h2, _, full_aft hv hst h1⟩
end Go.Proofs.Ytabgmnmpdjnjoaa
set_option linter.unusedVariables false
set_option linter.unusedSimpArgs false
namespace Go.Proofs.Ytabgmnmpdjnjoaa
open Go Go.RowKit
theorem list_getD_ext {l m : List Int} (hl : l.length = m.length) (h : ∀ i, i < l.length → l.getD i 0 = m.getD i 0) : l = m := by
  apply List.ext_getElem hl
  intro i h1 h2
  have := h i h1
  rwa [getD_in h1, getD_in h2] at this
/-- moves with what each port has more than it wants -/
structure MoreAt (nt : Net) (mo ov : List Int) : Prop where
  len : mo.length = nt.ways.length
  eov : ov = extL nt mo
  ok : okTo nt mo nt.ways.length = true
  nn : ∀ q, q < nt.ports.length → 0 ≤ ov.getD q 0
section
variable {nt : Net} {mo ov : List Int}
theorem MoreAt.aft (h : MoreAt nt mo ov) : aftErr nt mo = 0 := by
  refine aft_ok (by rw [h.len]; exact fun h => h rfl) h.ok fun ha => ?_
  obtain ⟨x, hx, h1⟩ := List.any_eq_true.1 ha
  obtain ⟨i, hi, rfl⟩ := List.getElem_of_mem hx
  have hle : (extL nt mo).length = nt.ports.length := extTo_len _
  have h2 := h.nn i (by omega)
  rw [h.eov, getD_in hi] at h2
  have h3 := of_decide_eq_true h1
  omega
theorem MoreAt.lov (h : MoreAt nt mo ov) : ov.length = nt.ports.length := by rw [h.eov]; exact extTo_len _
theorem MoreAt.room (h : MoreAt nt mo ov) {i : Nat} (hi : i < nt.ways.length) : 0 ≤ mo.getD i 0 ∧ mo.getD i 0 ≤ (nt.ways.getD i way0).room := okTo_at h.ok hi
theorem MoreAt.bd (hv : netB nt = true) (h : MoreAt nt mo ov) (q : Nat) : -400000 ≤ ov.getD q 0 ∧ ov.getD q 0 ≤ 400000 := by
  obtain ⟨_, hw, _⟩ := netB_ok hv
  have := ext_bd (nt := nt) (mv := mo) hv nt.ways.length (Nat.le_refl _) h.ok q
  rw [h.eov]
  unfold extL
  omega
theorem MoreAt.step (hv : netB nt = true) (h : MoreAt nt mo ov) {i : Nat} (hi : i < nt.ways.length) {d : Int} (h0 : 0 ≤ mo.getD i 0 + d) (h1 : mo.getD i 0 + d ≤ (nt.ways.getD i way0).room) (h2 : 0 ≤ ov.getD (nt.ways.getD i way0).fr.toNat 0 - d) (h3 : 0 ≤ ov.getD (nt.ways.getD i way0).to.toNat 0 + d) :
    MoreAt nt (mo.set i (mo.getD i 0 + d)) ((ov.set (nt.ways.getD i way0).fr.toNat (ov.getD (nt.ways.getD i way0).fr.toNat 0 - d)).set (nt.ways.getD i way0).to.toNat (ov.getD (nt.ways.getD i way0).to.toNat 0 + d)) := by
  obtain ⟨_, _, _, hvw⟩ := netB_ok hv
  obtain ⟨⟨wf0, wf1⟩, ⟨wt0, wt1⟩, wne, _⟩ := hvw i hi
  have hl := h.len
  have hlo := h.lov
  have hat : ∀ v, v < nt.ports.length → ((ov.set (nt.ways.getD i way0).fr.toNat (ov.getD (nt.ways.getD i way0).fr.toNat 0 - d)).set (nt.ways.getD i way0).to.toNat (ov.getD (nt.ways.getD i way0).to.toNat 0 + d)).getD v 0 = ov.getD v 0 + (if v = (nt.ways.getD i way0).to.toNat then d else 0) - (if v = (nt.ways.getD i way0).fr.toNat then d else 0) := fun v hp => by
    rw [getD_set0 (by rw [List.length_set]; omega)]
    by_cases a : v = (nt.ways.getD i way0).to.toNat
    · rw [if_pos a, if_pos a, if_neg (by omega), a]; omega
    · rw [if_neg a, if_neg a, getD_set0 (by omega)]
      by_cases b : v = (nt.ways.getD i way0).fr.toNat
      · rw [if_pos b, if_pos b, b]; omega
      · rw [if_neg b, if_neg b]; omega
  refine ⟨by rw [List.length_set]; exact hl, ?_, ?_, fun q hq => ?_⟩
  · refine list_getD_ext (by rw [List.length_set, List.length_set, hlo]; exact (extTo_len _).symm) fun v hv' => ?_
    rw [List.length_set, List.length_set, hlo] at hv'
    have e1 := ext_sum (mv := mo) hv hv' nt.ways.length (Nat.le_refl _)
    have e2 := ext_sum (mv := mo.set i (mo.getD i 0 + d)) hv hv' nt.ways.length (Nat.le_refl _)
    have e3 : sumI (fun j => (if v = (nt.ways.getD j way0).to.toNat then (mo.set i (mo.getD i 0 + d)).getD j 0 else 0) - (if v = (nt.ways.getD j way0).fr.toNat then (mo.set i (mo.getD i 0 + d)).getD j 0 else 0)) nt.ways.length = sumI (fun j => ((if v = (nt.ways.getD j way0).to.toNat then mo.getD j 0 else 0) - (if v = (nt.ways.getD j way0).fr.toNat then mo.getD j 0 else 0)) + (if j = i then (if v = (nt.ways.getD i way0).to.toNat then d else 0) - (if v = (nt.ways.getD i way0).fr.toNat then d else 0) else 0)) nt.ways.length := sumI_congr fun j hj => by
      rw [getD_set0 (by omega)]
      by_cases e : j = i
      · subst e
        rw [if_pos rfl, if_pos rfl]
        split <;> split <;> omega
      · rw [if_neg e, if_neg e]; omega
    rw [sumI_add, sumI_at, if_pos hi] at e3
    rw [hat v hv', h.eov]
    unfold extL
    rw [e1, e2, e3]
    omega
  · unfold okTo
    rw [List.all_eq_true]
    intro j hj
    have hj := List.mem_range.1 hj
    have := h.room hj
    unfold okMv
    rw [inB_iff, getD_set0 (by omega)]
    by_cases e : j = i
    · subst e; rw [if_pos rfl]; omega
    · rw [if_neg e]; omega
  · rw [hat q hq]
    have := h.nn q hq
    by_cases a : q = (nt.ways.getD i way0).to.toNat
    · rw [if_pos a, if_neg (by omega)]; rw [← a] at h3; omega
    · rw [if_neg a]
      by_cases b : q = (nt.ways.getD i way0).fr.toNat
      · rw [if_pos b]; rw [← b] at h2; omega
      · rw [if_neg b]; omega
theorem MoreAt.back (hv : netB nt = true) (h : MoreAt nt mo ov) {i : Nat} (hi : i < nt.ways.length) {k : Int} (h0 : 0 ≤ mo.getD i 0 - k) (h1 : mo.getD i 0 - k ≤ (nt.ways.getD i way0).room) (h2 : 0 ≤ ov.getD (nt.ways.getD i way0).fr.toNat 0 + k) (h3 : 0 ≤ ov.getD (nt.ways.getD i way0).to.toNat 0 - k) :
    MoreAt nt (mo.set i (mo.getD i 0 - k)) ((ov.set (nt.ways.getD i way0).fr.toNat (ov.getD (nt.ways.getD i way0).fr.toNat 0 + k)).set (nt.ways.getD i way0).to.toNat (ov.getD (nt.ways.getD i way0).to.toNat 0 - k)) := by
  have key := h.step hv hi (d := -k) (by omega) (by omega) (by omega) (by omega)
  rw [show mo.getD i 0 + -k = mo.getD i 0 - k by omega, show ov.getD (nt.ways.getD i way0).fr.toNat 0 - -k = ov.getD (nt.ways.getD i way0).fr.toNat 0 + k by omega, show ov.getD (nt.ways.getD i way0).to.toNat 0 + -k = ov.getD (nt.ways.getD i way0).to.toNat 0 - k by omega] at key
  exact key
end
section
variable {nt : Net} {i : Nat}
theorem getD_setP {l : List Prt} {v j : Nat} {x : Prt} (hv : v < l.length) : (l.set v x).getD j prt0 = if j = v then x else l.getD j prt0 := by
  simp only [List.getD_eq_getElem?_getD, List.getElem?_set]
  by_cases h : v = j
  · subst h; simp [hv]
  · rw [if_neg h, if_neg (Ne.symm h)]
theorem more_len : (moreN nt i).ports.length = nt.ports.length := by simp [moreN]
theorem bnd2_ways {pr : List Int} {nt nt' : Net} (hw : nt'.ways = nt.ways) : ∀ k, bnd2 nt' pr k - bnd2 nt' pr 0 = bnd2 nt pr k - bnd2 nt pr 0
  | 0 => by omega
  | k + 1 => by
    have := bnd2_ways (pr := pr) hw k
    rw [show bnd2 nt' pr (k + 1) = bnd2 nt' pr k - (nt'.ways.getD k way0).room * max 0 (gainW pr (nt'.ways.getD k way0)) from rfl, show bnd2 nt pr (k + 1) = bnd2 nt pr k - (nt.ways.getD k way0).room * max 0 (gainW pr (nt.ways.getD k way0)) from rfl, hw]
    omega
theorem bnd_more {pr : List Int} (hi : i < nt.ports.length) : bndL (moreN nt i) pr = bndL nt pr - pr.getD i 0 := by
  have h1 := bnd2_ways (pr := pr) (nt := nt) (nt' := moreN nt i) rfl nt.ways.length
  have e : bnd2 (moreN nt i) pr 0 = bnd2 nt pr 0 - pr.getD i 0 := by
    rw [bnd2, bnd2, bnd1_sum, bnd1_sum, more_len]
    have h2 : sumI (fun q => pr.getD q 0 * (((moreN nt i).ports.getD q prt0).wants - ((moreN nt i).ports.getD q prt0).has)) nt.ports.length = sumI (fun q => pr.getD q 0 * ((nt.ports.getD q prt0).wants - (nt.ports.getD q prt0).has) - (if q = i then pr.getD i 0 else 0)) nt.ports.length := sumI_congr fun q hq => by
      have h3 : (moreN nt i).ports.getD q prt0 = if q = i then moreP (nt.ports.getD i prt0) else nt.ports.getD q prt0 := getD_setP hi
      rw [h3]
      by_cases e : q = i
      · subst e
        rw [if_pos rfl, if_pos rfl]
        show pr.getD q 0 * ((nt.ports.getD q prt0).wants - ((nt.ports.getD q prt0).has + 1)) = _
        rw [show (nt.ports.getD q prt0).wants - ((nt.ports.getD q prt0).has + 1) = ((nt.ports.getD q prt0).wants - (nt.ports.getD q prt0).has) - 1 by omega, Int.mul_sub, Int.mul_one]
      · rw [if_neg e, if_neg e]; omega
    rw [h2, sumI_sub, sumI_at, if_pos hi]
  unfold bndL
  have e3 : (moreN nt i).ways.length = nt.ways.length := rfl
  rw [e3]
  omega
theorem aft_more {mv : List Int} (hv : netB nt = true) (hv2 : netB (moreN nt i) = true) (hi : i < nt.ports.length) (ha : aftErr nt mv = 0) : aftErr (moreN nt i) mv = 0 := by
  obtain ⟨h1, h2, _⟩ := aft_parts ha
  have hl := more_len (nt := nt) (i := i)
  refine aft_ok (by rw [h1]; exact fun h => h rfl) h2 fun h => ?_
  obtain ⟨x, hx, h3⟩ := List.any_eq_true.1 h
  obtain ⟨q, hq, rfl⟩ := List.getElem_of_mem hx
  have hle : (extL (moreN nt i) mv).length = nt.ports.length := (extTo_len _).trans hl
  have e1 := ext_sum (mv := mv) hv (v := q) (by omega) nt.ways.length (Nat.le_refl _)
  have e2 := ext_sum (mv := mv) hv2 (v := q) (by omega) nt.ways.length (Nat.le_refl _)
  have e3 := ext_nn ha (q := q) (by omega)
  have h4 := of_decide_eq_true h3
  rw [← getD_in hq] at h4
  have e4 : (moreN nt i).ports.getD q prt0 = if q = i then moreP (nt.ports.getD i prt0) else nt.ports.getD q prt0 := getD_setP hi
  have e5 : extL (moreN nt i) mv = extTo (moreN nt i) mv nt.ways.length := rfl
  have e6 : extL nt mv = extTo nt mv nt.ways.length := rfl
  have e7 : (moreN nt i).ways = nt.ways := rfl
  rw [e5, e2, e7, e4] at h4
  rw [e6, e1] at e3
  by_cases e : q = i
  · subst e
    rw [if_pos rfl] at h4
    have : (moreP (nt.ports.getD q prt0)).has = (nt.ports.getD q prt0).has + 1 := rfl
    have : (moreP (nt.ports.getD q prt0)).wants = (nt.ports.getD q prt0).wants := rfl
    omega
  · rw [if_neg e] at h4; omega
/-- a hull more: what is saved -/
theorem one_more {ml pr ml2 pr2 : List Int} {c c2 e2 : Int} (hv : netB nt = true) (hv2 : netB (moreN nt i) = true) (hi : i < nt.ports.length) (h : MoveR nt ml c pr 0) (h2 : MoveR (moreN nt i) ml2 c2 pr2 e2) : e2 = 0 ∧ c2 ≤ c ∧ c - c2 ≤ pr.getD i 0 ∧ (e2 = 0 → pr2.getD i 0 ≤ c - c2) := by
  obtain ⟨a1, a2, a3, a4, a5⟩ := move_ok hv h
  have ha := aft_more hv hv2 hi a1
  have he : e2 = 0 := by
    rcases move_err hv2 h2 with ⟨h3, _⟩ | ⟨_, _, _, _, h3⟩
    · exact h3
    · exact absurd ha (h3 ml)
  subst he
  have g1 := move_bound hv2 h2 (pr_nn a2)
  obtain ⟨b1, b2, b3, b4, b5⟩ := move_ok hv2 h2
  have g2 := move_bound hv h (pr_nn b2)
  rw [bnd_more hi, ← a5] at g1
  rw [bnd_more hi] at b5
  have := pr_nn b2 i
  exact ⟨rfl, by omega, by omega, fun _ => by omega⟩
end
end Go.Proofs.Ytabgmnmpdjnjoaa
set_option linter.unusedVariables false
namespace Go.Proofs.Ytabgmnmpdjnjoaa
open Go Go.RowKit
theorem made_one (z : Value) (n : Nat) : (madeCells #[z] n).toList = List.replicate n z := by
  apply List.ext_getElem?
  intro i
  by_cases h : i < n
  · simp [madeCells, h, Nat.mod_one]
  · simp [madeCells, h]
section
variable {P : Program} {w : World}
theorem run_make1 {t e : TypeId} {z : Value} {bytes base n : Nat} (ht : P.underlying t = some (.slice e)) (hinfo : (P.info? e).map (fun i => (i.zero, i.size, i.bytes)) = some (some z, 1, bytes)) (hz1 : z.cells = #[z]) (hn : n ≤ 1048576) (hby : bytes ≤ 1048576) (hbase : base ≤ w.heap.size) :
    ∃ w', (Instr.makeSlice t (.int .i64 (n : Int)) (.int .i64 (n : Int))).run P w = .ok (.slice (some ⟨w.heap.size, 0, none⟩) n n) w' ∧ w'.ownsRow base e 1 (.slice (some ⟨w.heap.size, 0, none⟩) n n) n (List.replicate n z) ∧ Below w.heap.size w w' := by
  obtain ⟨i, hi, hz, hs, hb⟩ := info_parts hinfo
  have hm : i.bytes * n ≤ 281474976710656 := by
    have h1 := Nat.mul_le_mul (show i.bytes ≤ 1048576 by omega) hn
    omega
  obtain ⟨w', h1, h2, h3⟩ := run_make_full (P := P) (w := w) base t e i z 1 ht hi hz hs .i64 .i64 n hm (by unfold maxLen; omega) hbase
  rw [hz1, Nat.mul_one, made_one] at h2
  exact ⟨w', h1, h2, (Below.refl _ _).grown h3 (Nat.le_refl _) fun g h => by cases h⟩
end
section
variable {P : Program} {n : Nat} {σ : Sg} {w : World} {Q : Exit → Act → World → Prop} {L : List Oper} {rest : List Oper}
theorem EL.make1 {d ty t e bytes base m : Nat} {z : Value} {x : Operand} {pos : String} {af : Array Edge} (ht : P.underlying t = some (.slice e)) (hinfo : (P.info? e).map (fun i => (i.zero, i.size, i.bytes)) = some (some z, 1, bytes)) (hz1 : z.cells = #[z]) (hx : evS σ x = some (.int .i64 (m : Nat))) (hm : m ≤ 1048576) (hby : Nat.ble bytes 1048576 = true) (hbase : base ≤ w.heap.size) (hd : Nat.blt d n = true)
    (next : ∀ g w', w'.ownsRow base e 1 (.slice (some ⟨g, 0, none⟩) m m) m (List.replicate m z) → Below w.heap.size w w' → w.heap.size ≤ g → EL P n L Q rest (ins σ d (.slice (some ⟨g, 0, none⟩) m m)) w') : EL P n L Q (⟨some d, .makeSlice t x x, ty, pos, af, none⟩ :: rest) σ w := by
  intro a ha
  obtain ⟨w', h1, h2, h3⟩ := run_make1 (P := P) (w := w) (base := base) ht hinfo hz1 hm (by simpa [Nat.ble_eq] using hby) hbase
  refine wpL_run (wanted_none rfl _) (w' := w') (v := .slice (some ⟨w.heap.size, 0, none⟩) m m) ?_ (next _ _ h2 h3 (Nat.le_refl _) _ (ha.put hd _))
  simp only [execOp, ha.eval hx, Sem.run_bind, h1, Result.andThen_ok]
  rfl
end
section
variable {P : Program} {n : Nat} {σ : Sg} {L : List Oper} {cls : List (List Nat)} {alc : List Nat} {val : Nat → Value} {a : Act} {w1 : World} {i : Nat} {Q : Exit → Act → World → Prop}
end
theorem own_touch {w w' : World} {base e size n : Nat} {v : Value} {xs : List Value} {gs : List Nat} (h : w.ownsRow base e size v n xs) (ht : Touch w w' gs) (hn : ∀ g, v.ownBlock = some g → g ∉ gs) : w'.ownsRow base e size v n xs := by
  obtain ⟨hl, ⟨h1, h2⟩ | ⟨g, cap, cur, h1, hb, hg, hr⟩⟩ := h
  · exact ⟨hl, .inl ⟨h1, h2⟩⟩
  · refine ⟨hl, .inr ⟨g, cap, cur, h1, hb, ?_, hr⟩⟩
    have hlt : g < w.heap.size := Blk.lt hg
    exact (ht.block g hlt (hn g (by rw [h1]; rfl))).trans hg
/-- a row of another type is apart from a block -/
theorem own_apartB {w : World} {base e size n g T : Nat} {v : Value} {xs : List Value} {cs : Array Value} (h : w.ownsRow base e size v n xs) (hq : Blk w g T cs) (hT : Nat.beq T e = false) : ∀ k, v.ownBlock = some k → k ≠ g := fun k hk e1 => by
  obtain ⟨_, ⟨rfl, _⟩ | ⟨k2, cap, cur, rfl, _, hg, _⟩⟩ := h
  · cases hk
  · have e2 : k2 = k := by simpa [Value.ownBlock] using hk
    subst e2
    subst e1
    unfold Blk at hq
    rw [hq] at hg
    injection hg with hg
    injection hg with _ h3
    exact Nat.ne_of_beq_eq_false hT h3
end Go.Proofs.Ytabgmnmpdjnjoaa
set_option linter.unusedVariables false
set_option linter.unusedSimpArgs false
namespace Go.Proofs.Ytabgmnmpdjnjoaa
open Go Go.RowKit
theorem ints_rep (n : Nat) : ints (List.replicate n 0) = List.replicate n (.int .i64 0) := by simp [ints]
end Go.Proofs.Ytabgmnmpdjnjoaa
set_option linter.unusedVariables false
namespace Go.Proofs.Ytabgmnmpdjnjoaa
open Go Go.RowKit
/-- the block that a pointer or a slice points to -/
def blk0 : Value → Option Nat
  | .pointer (some a) => some a.block
  | .slice (some a) _ _ => some a.block
  | _ => none
section
variable {P : Program} {n : Nat} {σ : Sg} {w : World} {Q : Exit → Act → World → Prop} {L : List Oper}
/-- what stands in the way of operation i of the head -/
def HStepA (P : Program) (n : Nat) (L : List Oper) (Q : Exit → Act → World → Prop) (cls : List (List Nat)) (m : Nat) (alc : List Nat) (σ : Sg) (w : World) (Φ : Nat → (Nat → Value) → World → Prop) (i : Nat) : Prop :=
  ∀ (val : Nat → Value) (w1 : World) (a : Act), Below w.heap.size w w1 → Env n (sgAt L cls m σ val i) a → (∀ j, j ∈ clsAt cls i → Φ j (res val j (clsAt cls j)) w1) →
    wpOp P L.toArray Q i (fun a' w' => ∃ v, a' = a.put (dstOf L i) v ∧ Below w1.heap.size w1 w' ∧ Φ i (res (upd val i v) i (clsAt cls i)) w' ∧ (i ∈ alc → blk0 v = some w1.heap.size ∧ w1.heap.size < w'.heap.size)) a w1
/-- the blocks that were made here are apart -/
def AlcA (alc : List Nat) (m : Nat) (val : Nat → Value) (w w' : World) : Prop :=
  (∀ i ∈ alc, i < m → ∃ g, blk0 (val i) = some g ∧ w.heap.size ≤ g ∧ g < w'.heap.size) ∧ ∀ i ∈ alc, ∀ j ∈ alc, i < m → j < m → i ≠ j → blk0 (val i) ≠ blk0 (val j)
/-- when some of the head have come up -/
structure HInvA (n : Nat) (L : List Oper) (cls : List (List Nat)) (m : Nat) (alc : List Nat) (σ : Sg) (w : World) (Φ : Nat → (Nat → Value) → World → Prop) (D : Array Bool) (val : Nat → Value) (a : Act) (w' : World) : Prop where
  below : Below w.heap.size w w'
  size : a.tmps.size = n
  defers : a.defers = []
  new : ∀ i d, i < m → D.getD i false = true → dstOf L i = some d → a.tmps[d]? = some (val i)
  old : ∀ t v, σ t = some v → (∀ k, k < m → D.getD k false = true → dstOf L k ≠ some t) → a.tmps[t]? = some v
  says : ∀ i, i < m → D.getD i false = true → Φ i (res val i (clsAt cls i)) w'
  down : ∀ i, D.getD i false = true → ∀ j ∈ clsAt cls i, D.getD j false = true
  alc1 : ∀ i ∈ alc, i < m → D.getD i false = true → ∃ g, blk0 (val i) = some g ∧ w.heap.size ≤ g ∧ g < w'.heap.size
  alc2 : ∀ i ∈ alc, ∀ j ∈ alc, i < m → j < m → D.getD i false = true → D.getD j false = true → i ≠ j → blk0 (val i) ≠ blk0 (val j)
  high : ∀ i, m ≤ i → D.getD i false = false
theorem EC.regionPA {id : Nat} (cls : List (List Nat)) (m : Nat) (alc : List Nat) (Φ : Nat → (Nat → Value) → World → Prop) (hf : P.follows .mixedOrders = true) (hq : headQ n cls m 0 L = true) (hml : Nat.ble m L.length = true)
    (hmono : ∀ i r w1 w2, Below w1.heap.size w1 w2 → Φ i r w1 → Φ i r w2)
    (hstep : ∀ i, i < m → HStepA P n L Q cls m alc σ w Φ i)
    (hend : ∀ val w', Below w.heap.size w w' → AlcA alc m val w w' → (∀ i, i < m → Φ i (res val i (clsAt cls i)) w') → EL P n L Q (L.drop m) (sgEnd L σ val m) w') : EC P n (.region id L.toArray true) Q σ w := by
  have hm : m ≤ L.length := by simpa [Nat.ble_eq] using hml
  have H := headQ_ok hq
  have hback : backB L.toArray = true := by
    refine List.all_eq_true.2 fun i hi => ?_
    have hi' : i < L.length := by simpa using hi
    have ho : L.toArray[i]? = some L[i] := by simp [hi']
    rw [ho]
    refine Array.all_eq_true_iff_forall_mem.2 fun e he => ?_
    cases hb : Region.binds .any e with
    | false => rfl
    | true => simpa using H.back i L[i] (by simp [hi']) e he hb
  intro a ha
  -- the tail's part
  have tailDone : ∀ (D : Array Bool) (i : Nat) (o : Oper), (∀ i, D.getD i false = true → ∀ j ∈ clsAt cls i, D.getD j false = true) → L[i]? = some o → (∀ e ∈ o.after, Region.binds .any e = true → D.getD e.on false = true) → ∀ j ∈ clsAt cls i, D.getD j false = true := by
    intro D i o hdown ho hdep j hj
    obtain ⟨e, he, hb, h⟩ := H.dep i o ho j hj
    rcases h with rfl | h
    · exact hdep e he hb
    · exact hdown _ (hdep e he hb) j h
  have hEnd : ∀ (D : Array Bool) (val : Nat → Value) (a : Act) (w' : World), HInvA n L cls m alc σ w Φ D val a w' → (∀ i, i < m → D.getD i false = true) → wpList P L.toArray Q (L.drop m) a w' := by
    intro D val a w' I hall
    refine hend val w' I.below ⟨fun i hi hlt => I.alc1 i hi hlt (hall i hlt), fun i hi j hj h1 h2 hne => I.alc2 i hi j hj h1 h2 (hall i h1) (hall j h2) hne⟩ (fun i hi => I.says i hi (hall i hi)) a ⟨I.size, I.defers, ?_⟩
    have : ∀ k, k ≤ m → ∀ t v, sgEnd L σ val k t = some v → (∀ j, k ≤ j → j < m → dstOf L j ≠ some t) → a.tmps[t]? = some v := by
      intro k
      induction k with
      | zero => intro _ t v ht hn; exact I.old t v ht fun j hj _ => hn j (Nat.zero_le _) hj
      | succ k ih =>
        intro hk t v ht hn
        unfold sgEnd at ht
        cases hd : dstOf L k with
        | none =>
          simp only [hd] at ht
          exact ih (by omega) t v ht fun j h1 h2 => by
            rcases Nat.lt_or_ge k j with h | h
            · exact hn j h h2
            · obtain rfl : j = k := by omega
              rw [hd]; simp
        | some d =>
          simp only [hd] at ht
          unfold ins at ht
          cases e : Nat.beq t d with
          | true =>
            rw [e] at ht
            have e' := Nat.eq_of_beq_eq_true e
            subst e'
            rw [I.new k t (by omega) (hall k (by omega)) hd]
            exact ht
          | false =>
            rw [e] at ht
            exact ih (by omega) t v ht fun j h1 h2 => by
              rcases Nat.lt_or_ge k j with h | h
              · exact hn j h h2
              · obtain rfl : j = k := by omega
                rw [hd]
                intro e2
                injection e2 with e2
                exact Nat.ne_of_beq_eq_false e e2.symm
    exact fun t v ht => this m (Nat.le_refl _) t v ht fun j h1 h2 => by omega
  refine wp_region_inv hf hback (fun D a w' => (∃ val, HInvA n L cls m alc σ w Φ D val a w') ∨ ∃ k, m < k ∧ k ≤ L.length ∧ (∀ i, D.getD i false = decide (i < k)) ∧ wpList P L.toArray Q (L.drop k) a w') ?_ ?_ ?_
  · left
    have hno : ∀ i, (Array.replicate L.toArray.size false).getD i false = false := fun i => by
      by_cases h : i < L.toArray.size
      · simp [Array.getD]
      · simp [Array.getD]
    refine ⟨fun _ => undef, ⟨⟨rfl, rfl, rfl, Nat.le_refl _, fun _ _ => rfl⟩, ha.size, ha.defers, ?_, fun t v ht _ => ha.get t v ht, ?_, ?_, ?_, ?_, fun i _ => hno i⟩⟩
    · intro i d _ h; rw [hno] at h; cases h
    · intro i _ h; rw [hno] at h; cases h
    · intro i h; rw [hno] at h; cases h
    · intro i _ _ h; rw [hno] at h; cases h
    · intro i _ j _ _ _ h; rw [hno] at h; cases h
  · intro D a w1 i o hs hI hni ho hdep
    have hs' : D.size = L.length := by simpa using hs
    have ho' : L[i]? = some o := by simpa using ho
    have hil : i < L.length := (List.getElem?_eq_some_iff.1 ho').1
    have hnd : D.getD i false = false := getD_false_of (by omega) hni
    have takeTail : ∀ (k : Nat), k = i → m ≤ k → (∀ j, D.getD j false = decide (j < k)) → wpList P L.toArray Q (L.drop k) a w1 →
        wpOp P L.toArray Q i (fun a w' => (∃ val, HInvA n L cls m alc σ w Φ (D.setIfInBounds i true) val a w') ∨ ∃ k, m < k ∧ k ≤ L.length ∧ (∀ j, (D.setIfInBounds i true).getD j false = decide (j < k)) ∧ wpList P L.toArray Q (L.drop k) a w') a w1 := by
      intro k hk hmk hD hw
      subst hk
      rw [List.drop_eq_getElem_cons hil] at hw
      have e : L[k] = o := by rw [List.getElem?_eq_getElem hil] at ho'; injection ho'
      rw [e] at hw
      unfold wpList at hw
      have hnext : ∀ a w', wpList P L.toArray Q (L.drop (k + 1)) a w' → (∃ val, HInvA n L cls m alc σ w Φ (D.setIfInBounds k true) val a w') ∨ ∃ k', m < k' ∧ k' ≤ L.length ∧ (∀ j, (D.setIfInBounds k true).getD j false = decide (j < k')) ∧ wpList P L.toArray Q (L.drop k') a w' := fun a w' h => .inr ⟨k + 1, by omega, by omega, fun j => by
        rw [set_get (by omega)]
        by_cases e : j = k
        · subst e; simp
        · rw [if_neg e, hD]
          by_cases h : j < k
          · simp [h]; omega
          · simp [h]; omega, h⟩
      unfold wpOp
      simp only [ho]
      split
      · rename_i hw'
        rw [if_pos hw'] at hw
        rcases hw with h | h
        · exact .inl (Oper.wp_mono hnext h)
        · exact .inr h
      · rename_i hw'
        rw [if_neg hw'] at hw
        exact hnext _ _ hw
    rcases hI with ⟨val, I⟩ | ⟨k, hmk, hkl, hD, hw⟩
    · have hcd := tailDone D i o I.down ho' hdep
      rcases Nat.lt_or_ge i m with him | him
      · have henv : Env n (sgAt L cls m σ val i) a := by
          refine ⟨I.size, I.defers, fun t v ht => ?_⟩
          unfold sgAt at ht
          cases hfw : findW L t (clsAt cls i) with
          | some j =>
            simp only [hfw] at ht
            obtain ⟨h1, h2⟩ := findW_spec hfw
            injection ht with ht
            have hj := hcd j h1
            have hjm : j < m := by
              rcases Nat.lt_or_ge j m with h | h
              · exact h
              · rw [I.high j h] at hj; cases hj
            rw [I.new j t hjm hj h2, ht]
          | none =>
            simp only [hfw] at ht
            cases hob : oldB L cls i t m with
            | false => rw [hob] at ht; cases ht
            | true =>
              rw [hob] at ht
              refine I.old t v ht fun k hk hdk hd => ?_
              rcases oldB_spec hob k hk hd with rfl | h
              · rw [hnd] at hdk; cases hdk
              · have := I.down k hdk i h
                rw [hnd] at this; cases this
        have hjm : ∀ j, D.getD j false = true → j < m := fun j hj => by
          rcases Nat.lt_or_ge j m with h | h
          · exact h
          · rw [I.high j h] at hj; cases hj
        refine wpOp_mono ?_ (hstep i him val w1 a I.below henv fun j hj => I.says j (hjm j (hcd j hj)) (hcd j hj))
        rintro a' w' ⟨v, rfl, hb, hphi, halc⟩
        left
        have hgrow : Below w.heap.size w w' := I.below.trans (hb.mono I.below.size)
        have hdi : dstOf L i = o.dst := dstOf_at ho'
        refine ⟨upd val i v, ⟨hgrow, ?_, ?_, ?_, ?_, ?_, ?_, ?_, ?_, ?_⟩⟩
        · rw [put_size]; exact I.size
        · cases dstOf L i <;> exact I.defers
        · intro k d hk hdk hd
          rw [set_get (by omega)] at hdk
          by_cases e : k = i
          · subst e
            have hdn : d < n := H.small k o d ho' hk (by rw [← hdi]; exact hd)
            rw [hd]
            simp only [Act.put, upd, if_true]
            rw [Array.getElem?_setIfInBounds_self_of_lt (by rw [I.size]; exact hdn)]
          · rw [if_neg e] at hdk
            have hok : ∃ p, L[k]? = some p := ⟨L[k]'(by omega), by simp [show k < L.length by omega]⟩
            obtain ⟨p, hp⟩ := hok
            have hne : dstOf L i ≠ some d := by
              intro h'
              rcases Nat.lt_or_gt_of_ne e with hlt | hgt
              · exact H.dist k i p o d hp ho' hlt him (by rw [← dstOf_at hp]; exact hd) (by rw [← hdi]; exact h')
              · exact H.dist i k o p d ho' hp hgt hk (by rw [← hdi]; exact h') (by rw [← dstOf_at hp]; exact hd)
            have := I.new k d hk hdk hd
            simp only [upd, if_neg e]
            cases hdi' : dstOf L i with
            | none => exact this
            | some d' =>
              have : d' ≠ d := fun h => hne (by rw [hdi', h])
              simp only [Act.put, Array.getElem?_setIfInBounds_ne this]
              assumption
        · intro t u ht hno
          have h1 : a.tmps[t]? = some u := I.old t u ht fun k hk hdk => hno k hk (by rw [set_get (by omega)]; split <;> simp [hdk])
          have h2 : dstOf L i ≠ some t := hno i him (by rw [set_get (by omega), if_pos rfl])
          cases hdi' : dstOf L i with
          | none => exact h1
          | some d' =>
            have : d' ≠ t := fun h => h2 (by rw [hdi', h])
            simp only [Act.put, Array.getElem?_setIfInBounds_ne this]
            exact h1
        · intro k hk hdk
          rw [set_get (by omega)] at hdk
          by_cases e : k = i
          · subst e; exact hphi
          · rw [if_neg e] at hdk
            have hni' : i ∉ clsAt cls k := fun h => by
              have := I.down k hdk i h
              rw [hnd] at this; cases this
            rw [res_upd e hni']
            exact hmono k _ w1 w' hb (I.says k hk hdk)
        · intro k hdk j hj
          rw [set_get (by omega)] at hdk ⊢
          by_cases e : k = i
          · subst e
            rw [hcd j hj]; simp
          · rw [if_neg e] at hdk
            rw [I.down k hdk j hj]; simp
        · intro k hk hkm hdk
          rw [set_get (by omega)] at hdk
          by_cases e : k = i
          · subst e
            obtain ⟨h1, h2⟩ := halc hk
            exact ⟨w1.heap.size, by simp [upd, h1], I.below.size, h2⟩
          · rw [if_neg e] at hdk
            obtain ⟨g, h1, h2, h3⟩ := I.alc1 k hk hkm hdk
            exact ⟨g, by simp [upd, e, h1], h2, Nat.lt_of_lt_of_le h3 hb.size⟩
        · intro k hk j hj hkm hjm' hdk hdj hne
          rw [set_get (by omega)] at hdk hdj
          by_cases e : k = i
          · subst e
            have e2 : j ≠ k := Ne.symm hne
            rw [if_neg e2] at hdj
            obtain ⟨h1, _⟩ := halc hk
            obtain ⟨g, h3, _, h5⟩ := I.alc1 j hj hjm' hdj
            simp only [upd, if_true, if_neg e2, h1, h3]
            intro h
            injection h with h
            omega
          · rw [if_neg e] at hdk
            by_cases e2 : j = i
            · subst e2
              obtain ⟨h1, _⟩ := halc hj
              obtain ⟨g, h3, _, h5⟩ := I.alc1 k hk hkm hdk
              simp only [upd, if_true, if_neg e, h1, h3]
              intro h
              injection h with h
              omega
            · rw [if_neg e2] at hdj
              simp only [upd, if_neg e, if_neg e2]
              exact I.alc2 k hk j hj hkm hjm' hdk hdj hne
        · intro k hk
          rw [set_get (by omega), if_neg (by omega)]
          exact I.high k hk
      · have hall : ∀ j, j < i → D.getD j false = true := fun j hj => hcd j (H.tail i o ho' him j hj)
        have him' : i = m := by
          rcases Nat.lt_or_ge m i with h | h
          · have := hall m h
            rw [I.high m (Nat.le_refl _)] at this; cases this
          · omega
        subst him'
        exact takeTail i rfl (Nat.le_refl _) (fun j => by
          by_cases h : j < i
          · rw [hall j h]; simp [h]
          · rw [I.high j (by omega)]; simp [h]) (hEnd D val a w1 I hall)
    · have hcd : ∀ j, j < i → D.getD j false = true := fun j hj => by
        have hmi : m ≤ i := by
          have := hD i
          rw [hnd] at this
          have : ¬ i < k := by simpa using this.symm
          omega
        have hdn : ∀ i, D.getD i false = true → ∀ j ∈ clsAt cls i, D.getD j false = true := by
          intro x hx y hy
          rw [hD] at hx ⊢
          have hx' : x < k := by simpa using hx
          obtain ⟨p, hp⟩ : ∃ p, L[x]? = some p := ⟨L[x]'(by omega), by simp [show x < L.length by omega]⟩
          have : ∀ (x : Nat) (p : Oper), L[x]? = some p → ∀ y ∈ clsAt cls x, y < x := by
            intro x
            induction x using Nat.strongRecOn with
            | ind x ih =>
              intro p hp y hy
              obtain ⟨e, he, hb, h⟩ := H.dep x p hp y hy
              have h1 := H.back x p hp e he hb
              rcases h with rfl | h
              · exact h1
              · obtain ⟨q, hq⟩ : ∃ q, L[e.on]? = some q := by
                  have : x < L.length := (List.getElem?_eq_some_iff.1 hp).1
                  exact ⟨L[e.on]'(by omega), by simp [show e.on < L.length by omega]⟩
                have := ih e.on h1 q hq y h
                omega
          have := this x p hp y hy
          simp
          omega
        exact tailDone D i o hdn ho' hdep j (H.tail i o ho' hmi j hj)
      have hik : k = i := by
        have h1 := hD i
        rw [hnd] at h1
        have h2 : ¬ i < k := by simpa using h1.symm
        rcases Nat.lt_or_ge k i with h | h
        · have := hcd k h
          rw [hD] at this
          simp at this
        · omega
      exact takeTail k hik (by omega) hD hw
  · intro D a w1 hs hI hall
    have hs' : D.size = L.length := by simpa using hs
    rcases hI with ⟨val, I⟩ | ⟨k, hmk, hkl, hD, hw⟩
    · have hmL : m = L.length := by
        rcases Nat.lt_or_ge m L.length with h | h
        · have := hall m (by simpa using h)
          rw [I.high m (Nat.le_refl _)] at this; cases this
        · omega
      have := hEnd D val a w1 I fun i hi => hall i (by simp; omega)
      rw [hmL, List.drop_length] at this
      exact this
    · have hk : k = L.length := by
        rcases Nat.lt_or_ge k L.length with h | h
        · have := hall k (by simpa using h)
          rw [hD] at this
          simp at this
        · omega
      rw [hk, List.drop_length] at hw
      exact hw
end
section
variable {P : Program} {n : Nat} {σ : Sg} {w : World} {L : List Oper} {cls : List (List Nat)} {alc : List Nat} {val : Nat → Value} {a : Act} {w1 : World} {i m : Nat} {Q : Exit → Act → World → Prop} {Φ : Nat → (Nat → Value) → World → Prop}
abbrev HKA (L : List Oper) (cls : List (List Nat)) (alc : List Nat) (Φ : Nat → (Nat → Value) → World → Prop) (i : Nat) (val : Nat → Value) (a : Act) (w1 : World) : Act → World → Prop :=
  fun a' w' => ∃ v, a' = a.put (dstOf L i) v ∧ Below w1.heap.size w1 w' ∧ Φ i (res (upd val i v) i (clsAt cls i)) w' ∧ (i ∈ alc → blk0 v = some w1.heap.size ∧ w1.heap.size < w'.heap.size)
theorem hka (h : wpOp P L.toArray Q i (HK L cls alc Φ i val a w1) a w1) : wpOp P L.toArray Q i (HKA L cls alc Φ i val a w1) a w1 :=
  wpOp_mono (fun a' w' ⟨v, h1, h2, h3, h4⟩ => ⟨v, h1, h2, h3, fun hi => by
    obtain ⟨h5, h6⟩ := h4 hi
    exact ⟨by rw [h5]; rfl, h6⟩⟩) h
theorem hka_run {o : Oper} {v : Value} {w' : World} (ho : nthO L i = some o) (hg : o.guard = none) (hr : (execOp a.eval o).run P w1 = .ok (.value v) w') (hb : Below w1.heap.size w1 w') (hΦ : Φ i (res (upd val i v) i (clsAt cls i)) w') (hv : blk0 v = some w1.heap.size) (hlt : w1.heap.size < w'.heap.size) :
    wpOp P L.toArray Q i (HKA L cls alc Φ i val a w1) a w1 := by
  obtain ⟨h1, h2⟩ := opL ho
  unfold wpOp
  simp only [h1]
  rw [if_pos (wanted_none hg _)]
  left
  unfold Oper.wp
  rw [hr]
  exact ⟨v, by rw [h2], hb, hΦ, fun _ => ⟨hv, hlt⟩⟩
theorem hsa_make1 {d ty t e bytes base m : Nat} {z : Value} {x : Operand} {pos : String} {af : Array Edge} (ht : P.underlying t = some (.slice e)) (hinfo : (P.info? e).map (fun i => (i.zero, i.size, i.bytes)) = some (some z, 1, bytes)) (hz1 : z.cells = #[z]) (ha : Env n σ a) (ho : nthO L i = some ⟨some d, .makeSlice t x x, ty, pos, af, none⟩) (hx : evS σ x = some (.int .i64 (m : Nat)))
    (hm : m ≤ 1048576) (hby : Nat.ble bytes 1048576 = true) (hbase : base ≤ w1.heap.size)
    (hΦ : ∀ g w', w'.ownsRow base e 1 (.slice (some ⟨g, 0, none⟩) m m) m (List.replicate m z) → Φ i (res (upd val i (.slice (some ⟨g, 0, none⟩) m m)) i (clsAt cls i)) w') : wpOp P L.toArray Q i (HKA L cls alc Φ i val a w1) a w1 := by
  obtain ⟨w', h1, h2, h3⟩ := run_make1 (P := P) (w := w1) (base := w1.heap.size) ht hinfo hz1 hm (by simpa [Nat.ble_eq] using hby) (Nat.le_refl _)
  refine hka_run ho rfl (v := .slice (some ⟨w1.heap.size, 0, none⟩) m m) ?_ h3 (hΦ _ w' (own_less h2 hbase)) rfl (h2.lt _ rfl).2
  simp only [execOp, ha.eval hx, Sem.run_bind, h1, Result.andThen_ok]
  rfl
theorem alcA_ne {w' : World} {j g k : Nat} {v u : Value} (h : AlcA alc m val w w') (hi : memB alc i = true) (hj : memB alc j = true) (him : Nat.blt i m = true) (hjm : Nat.blt j m = true) (hij : Nat.beq i j = false) (e : val i = v) (hb : blk0 v = some g) (e' : val j = u) (hb' : blk0 u = some k) : g ≠ k := fun hk => by
  have := h.2 i (memB_mem.1 hi) j (memB_mem.1 hj) (by simpa [Nat.blt_eq] using him) (by simpa [Nat.blt_eq] using hjm) (Nat.ne_of_beq_eq_false hij)
  rw [e, e', hb, hb', hk] at this
  exact this rfl
theorem mono_mk {k base e m : Nat} {xs : List Value} : Mono fun r w => ∃ g, r k = .slice (some ⟨g, 0, none⟩) m m ∧ w.ownsRow base e 1 (.slice (some ⟨g, 0, none⟩) m m) m xs := fun _ _ _ hb ⟨g, h1, h2⟩ => ⟨g, h1, own_below h2 hb (Nat.le_refl _)⟩
theorem mono_mv {k j m : Nat} : Mono fun r w => ∃ g, r k = .slice (some ⟨g, 0, none⟩) m m ∧ r j = .slice (some ⟨g, 0, none⟩) m m := fun _ _ _ _ h => h
end
end Go.Proofs.Ytabgmnmpdjnjoaa
set_option linter.unusedVariables false
set_option linter.unusedSimpArgs false
namespace Go.Proofs.Ytabgmnmpdjnjoaa
open Go Go.RowKit
def bools (l : List Bool) : List Value := l.map fun b => .bool b
theorem bools_len (l : List Bool) : (bools l).length = l.length := by simp [bools]
theorem spl_bools {l : List Bool} {v : Nat} {x : Bool} (h : v < l.length) : spl (bools l) v [.bool x] = bools (l.set v x) := by
  rw [spl_eq _ _ _ (by rw [bools_len]; exact h), List.set_eq_take_append_cons_drop, if_pos h]
  simp [bools]
theorem own_bool_cell {w : World} {base T g n c k : Nat} {l : List Bool} (h : w.ownsRow base T 1 (.slice (some ⟨g, 0, none⟩) n c) n (bools l)) (hk : k < l.length) : w.cell? ⟨g, 0 + k, none⟩ = some (.bool (l.getD k false)) := by
  have hr := Rd.of_own h
  have hl : n * 1 = l.length := by rw [← hr.len, bools_len]
  obtain ⟨b, off, e, _, hc⟩ := hr.at_ (by omega)
  injection e with e
  injection e with e1 e2
  subst e1
  subst e2
  have e3 : l.getD k false = l[k] := by simp [hk]
  rw [e3]
  exact hc k _ (by simp [bools, hk])
def bL (f : Nat → Bool) (n : Nat) : List Bool := (List.range n).map f
theorem bL_len (f : Nat → Bool) (n : Nat) : (bL f n).length = n := by simp [bL]
theorem bL_at {f : Nat → Bool} {n v : Nat} (h : v < n) : (bL f n).getD v false = f v := by simp [bL, List.getD, h]
theorem listB_ext {l m : List Bool} (hl : l.length = m.length) (h : ∀ i, i < l.length → l.getD i false = m.getD i false) : l = m := by
  apply List.ext_getElem hl
  intro i h1 h2
  have := h i h1
  rwa [getD_in h1, getD_in h2] at this
theorem getD_setB {l : List Bool} {v i : Nat} {x : Bool} (hi : i < l.length) : (l.set i x).getD v false = if v = i then x else l.getD v false := by
  simp only [List.getD_eq_getElem?_getD, List.getElem?_set]
  by_cases h : i = v
  · subst h; simp [hi]
  · rw [if_neg h, if_neg (Ne.symm h)]
/-- the ports that have been marked -/
structure InAt (ls : List Int) (n x : Nat) (b : List Bool) : Prop where
  len : b.length = n
  at_ : ∀ v, v < n → (b.getD v false = true ↔ ∃ j, j < x ∧ ls.getD j 0 = ((v : Nat) : Int))
theorem InAt.start (ls : List Int) (n : Nat) : InAt ls n 0 (List.replicate n false) := ⟨by simp, fun v hv => by
  constructor
  · intro h; simp [List.getD, hv] at h
  · rintro ⟨j, hj, _⟩; omega⟩
theorem InAt.step {ls : List Int} {n x v : Nat} {b : List Bool} (h : InAt ls n x b) (hv : v < n) (he : ls.getD x 0 = ((v : Nat) : Int)) : InAt ls n (x + 1) (b.set v true) := ⟨by rw [List.length_set]; exact h.len, fun u hu => by
  rw [getD_setB (by rw [h.len]; exact hv)]
  by_cases e : u = v
  · subst e
    rw [if_pos rfl]
    exact ⟨fun _ => ⟨x, by omega, he⟩, fun _ => rfl⟩
  · rw [if_neg e, h.at_ u hu]
    constructor
    · rintro ⟨j, hj, h2⟩; exact ⟨j, by omega, h2⟩
    · rintro ⟨j, hj, h2⟩
      by_cases e2 : j = x
      · subst e2; rw [he] at h2; omega
      · exact ⟨j, by omega, h2⟩⟩
theorem InAt.fin {f : Nat → Bool} {n : Nat} {b : List Bool} (h : InAt (lackL f n) n (lackL f n).length b) : b = bL f n := by
  refine listB_ext (by rw [h.len, bL_len]) fun v hv => ?_
  rw [h.len] at hv
  rw [bL_at hv]
  have key := h.at_ v hv
  cases e : f v with
  | true =>
    rw [key]
    obtain ⟨j, hj, e2⟩ := List.getElem_of_mem (lackL_mem.2 ⟨v, hv, e, rfl⟩)
    exact ⟨j, hj, by rw [getD_in hj]; exact e2⟩
  | false =>
    cases e3 : b.getD v false with
    | false => rfl
    | true =>
      obtain ⟨j, hj, h2⟩ := key.1 e3
      obtain ⟨u, _, h4, h5⟩ := lackL_at (f := f) (n := n) hj
      rw [h5] at h2
      have : u = v := by omega
      subst this
      rw [h4] at e
      cases e
/-! ### What a set lacks, in the order of the law -/
section
variable (nt : Net) (f : Nat → Bool)
end
section
variable {nt : Net} {f : Nat → Bool}
end
end Go.Proofs.Ytabgmnmpdjnjoaa
set_option linter.unusedVariables false
set_option linter.unusedSimpArgs false
namespace Go.Proofs.Ytabgmnmpdjnjoaa
open Go Go.RowKit
def setB (s : Nat) : Nat → Bool := fun v => s.testBit v
/-- the greatest lack of the first sets, and the ports that are in all of them with it -/
structure LkAt (nt : Net) (s : Nat) (most : Int) (common : Nat) : Prop where
  le : ∀ t, t < s → lackS nt (setB t) ≤ most
  ex : ∃ t, t < s ∧ lackS nt (setB t) = most
  com : ∀ v, common.testBit v = true ↔ ∀ t, t < s → lackS nt (setB t) = most → t.testBit v = true
theorem lackS_none (nt : Net) : lackS nt (setB 0) = 0 := by
  have h : ∀ v, setB 0 v = false := fun v => Nat.zero_testBit v
  unfold lackS lkB
  simp only [h, Bool.false_and, Bool.false_eq_true, if_false]
  rw [sumI_zero (fun _ _ => rfl), sumI_zero (fun _ _ => rfl)]
  rfl
theorem LkAt.start (nt : Net) : LkAt nt 1 0 0 := by
  refine ⟨fun t ht => ?_, ⟨0, by omega, lackS_none nt⟩, fun v => ⟨fun h => ?_, fun h => h 0 (by omega) (lackS_none nt)⟩⟩
  · have e : t = 0 := by omega
    subst e
    exact Int.le_of_eq (lackS_none nt)
  · rw [Nat.zero_testBit] at h; cases h
section
variable {nt : Net} {s common : Nat} {most : Int}
theorem LkAt.more (h : LkAt nt s most common) (hm : most < lackS nt (setB s)) : LkAt nt (s + 1) (lackS nt (setB s)) s := by
  refine ⟨fun t ht => ?_, ⟨s, by omega, rfl⟩, fun v => ⟨fun hb t ht e => ?_, fun hb => hb s (by omega) rfl⟩⟩
  · by_cases e : t = s
    · subst e; exact Int.le_refl _
    · have := h.le t (by omega); omega
  · by_cases e2 : t = s
    · subst e2; exact hb
    · have := h.le t (by omega); omega
theorem LkAt.same (h : LkAt nt s most common) (hm : lackS nt (setB s) = most) : LkAt nt (s + 1) most (common &&& s) := by
  refine ⟨fun t ht => ?_, ⟨s, by omega, hm⟩, fun v => ?_⟩
  · by_cases e : t = s
    · subst e; exact Int.le_of_eq hm
    · exact h.le t (by omega)
  · rw [Nat.testBit_and, Bool.and_eq_true, h.com]
    constructor
    · rintro ⟨h1, h2⟩ t ht e
      by_cases e2 : t = s
      · subst e2; exact h2
      · exact h1 t (by omega) e
    · intro h1
      exact ⟨fun t ht e => h1 t (by omega) e, h1 s (by omega) hm⟩
end
end Go.Proofs.Ytabgmnmpdjnjoaa
set_option linter.unusedVariables false
set_option linter.unusedSimpArgs false
namespace Go.Proofs.Ytabgmnmpdjnjoaa
open Go Go.RowKit
section
variable {n : Nat} {σ : Sg} {w : World} {dst : Option Tmp} {ty : TypeId} {pos : String} {af : Array Edge} {g : Option (Nat × Bool)} {x y z : Operand} {at' : Array TypeId}
theorem ix_51 {b o m c k : Nat} (hx : evS σ x = some (.slice (some ⟨b, o, none⟩) m c)) (hy : evS σ y = some (.int .i64 (k : Int))) (hk : k < m) : Gives Try.prog n σ w ⟨dst, .indexAddr 51 x y, ty, pos, af, g⟩ (.pointer (some ⟨b, o + k, none⟩)) := fun a ha => by
  have k0 : (0 : Int) ≤ (k : Int) := Int.natCast_nonneg _
  have k1 : (k : Int) < (m : Int) := by omega
  simp only [execOp, ha.eval hx, ha.eval hy]
  simp [go_sem, k0, k1]
theorem ln_51 {A : Option Addr} {m c : Nat} (hx : evS σ x = some (.slice A m c)) : Gives Try.prog n σ w ⟨dst, .call { callee := .builtin .len, args := #[x], argTypes := #[51] }, ty, pos, af, g⟩ (.int .i64 (m : Int)) := fun a ha => by
  simp only [execOp, resolve, List.map_toArray, List.map_cons, List.map_nil, ha.eval hx]
  simp [go_sem]
theorem sz_4 : (Try.prog.info? 4).map (·.size) = some 1 := by kernel_rfl
theorem ld_4 {b o : Nat} {v0 : Value} (hx : evS σ x = some (.pointer (some ⟨b, o, none⟩))) (c0 : w.cell? ⟨b, o, none⟩ = some v0) : Gives Try.prog n σ w ⟨dst, .load 4 x, ty, pos, af, g⟩ (v0) := fun a ha => by
  simp only [execOp, ha.eval hx]
  simp [go_sem, c0]
end
end Go.Proofs.Ytabgmnmpdjnjoaa
set_option linter.unusedVariables false
set_option linter.unusedSimpArgs false
namespace Go.Proofs.Ytabgmnmpdjnjoaa
open Go Go.RowKit
section
variable {P : Program} {n : Nat} {σ : Sg} {w : World} {dst : Option Tmp} {ty t t' : TypeId} {pos : String} {af : Array Edge} {g : Option (Nat × Bool)} {x y : Operand}
end
theorem rnet_wide {nt : Net} {b : Bool} (h : netB nt = b) (vp vw : Value) (w : World) (B : Nat) (hr : RdNet w B vp vw nt) (hB : B ≤ w.heap.size) (hn1 : nt.ports.length ≤ 9223372036854775807) (hn2 : nt.ways.length ≤ 9223372036854775807) :
    Calls Try.prog 17 #[.agg #[vp, vw]] w fun e w' => e = .returned (.bool b) ∧ Below w.heap.size w w' := by
  subst h
  by_cases hsm : nt.ports.length ≤ 60 ∧ nt.ways.length ≤ 300
  · exact rnet_any nt vp vw w B hr hB (by omega) (by omega)
  obtain ⟨Ap, cp_, rfl, _⟩ := hr.ports.shape
  obtain ⟨Aw, cw_, rfl, _⟩ := hr.ways.shape
  have hbw := Below.refl w.heap.size w
  refine EC.enter 47 Try.func17 rfl rfl rfl ?_
  refine EC.seq ?_
  refine EC.region ?_
  refine EL.newP (bx_25 rfl) rfl ?_
  intro g1 w1 q1 hb1 hg1 hl1
  have bhbw_1 := Nat.le_trans hbw.size hg1
  replace hbw := Below.on hbw hb1 hbw.size
  clear hb1 hg1 hl1
  refine EL.val (x_assign rfl) rfl ?_
  refine EL.nil ?_
  refine EX.seq ?_
  refine EC.seq ?_
  refine EC.seq ?_
  refine EC.region ?_
  refine EL.val (fa_25_0 rfl) rfl ?_
  refine EL.val (ld_22 rfl (q1.at (j := 0) rfl)) rfl ?_
  refine EL.val (ln_22 rfl) rfl ?_
  cases h1 : inB 1 60 ((nt.ports.length : Nat) : Int)
  ·
    refine EL.call (cl_42 rfl rfl rfl) rfl (rin_any _ h1) ?_
    rintro e w2 ⟨rfl, hc2⟩
    refine ⟨_, rfl, ?_⟩
    replace q1 := q1.below hc2 q1.lt
    replace hbw := Below.on hbw hc2 hbw.size
    clear hc2
    refine EL.val (x_not rfl) rfl ?_
    refine EL.val (x_move rfl) rfl ?_
    refine EL.skip rfl rfl rfl rfl ?_
    refine EL.skip rfl rfl rfl rfl ?_
    refine EL.skip rfl rfl rfl rfl ?_
    refine EL.skip rfl rfl rfl rfl ?_
    refine EL.val (x_pick_t rfl rfl) rfl ?_
    refine EL.nil ?_
    refine EX.seq ?_
    refine EC.yes rfl ?_
    refine EC.seq ?_
    refine EC.region ?_
    refine EL.val (x_assign rfl) rfl ?_
    refine EL.nil ?_
    refine EX.seq ?_
    refine EC.ret ?_
    refine EX.seq_ret ?_
    exact EX.done (res1 rfl rfl) ⟨by rw [net_a h1], hbw⟩
  ·
    refine EL.call (cl_42 rfl rfl rfl) rfl (rin_any _ h1) ?_
    rintro e w3 ⟨rfl, hc3⟩
    refine ⟨_, rfl, ?_⟩
    replace q1 := q1.below hc3 q1.lt
    replace hbw := Below.on hbw hc3 hbw.size
    clear hc3
    refine EL.val (x_not rfl) rfl ?_
    refine EL.val (x_move rfl) rfl ?_
    refine EL.valg rfl rfl (fa_25_1 rfl) rfl ?_
    refine EL.valg rfl rfl (ld_23 rfl (q1.at (j := 1) rfl)) rfl ?_
    refine EL.valg rfl rfl (ln_23 rfl) rfl ?_
    by_cases h2 : 300 < nt.ways.length
    ·
      refine EL.valg rfl rfl (x_gtr (r := true) rfl rfl (decide_eq_true (by first | omega | (simp only; omega)))) rfl ?_
      refine EL.val (x_pick_f rfl rfl) rfl ?_
      refine EL.nil ?_
      refine EX.seq ?_
      refine EC.yes rfl ?_
      refine EC.seq ?_
      refine EC.region ?_
      refine EL.val (x_assign rfl) rfl ?_
      refine EL.nil ?_
      refine EX.seq ?_
      refine EC.ret ?_
      refine EX.seq_ret ?_
      exact EX.done (res1 rfl rfl) ⟨by rw [net_b h2], hbw⟩
    ·
      have h1_ := inB_iff.1 h1
      exact absurd ⟨show nt.ports.length ≤ 60 by omega, show nt.ways.length ≤ 300 by omega⟩ hsm
def heavyB (nt : Net) : Bool := if netB nt = true then decide (8 < nt.ports.length) || (decide (16 < nt.ways.length) || decide (40 < sumI (fun q => (nt.ports.getD q prt0).wants) nt.ports.length)) else largeB nt
theorem wants_bd {nt : Net} (hv : netB nt = true) : ∀ k, k ≤ nt.ports.length → 0 ≤ sumI (fun q => (nt.ports.getD q prt0).wants) k ∧ sumI (fun q => (nt.ports.getD q prt0).wants) k ≤ 1000 * (k : Int)
  | 0, _ => by show (0 : Int) ≤ 0 ∧ (0 : Int) ≤ _; omega
  | k + 1, hk => by
    obtain ⟨_, _, hvp, _⟩ := netB_ok hv
    have h1 := wants_bd hv k (by omega)
    have h2 := hvp k (by omega)
    rw [sumI]
    omega
theorem heavy_small {nt : Net} (h : heavyB nt = false) : nt.ports.length ≤ 70 ∧ nt.ways.length ≤ 320 := by
  unfold heavyB at h
  split at h
  · simp only [Bool.or_eq_false_iff, decide_eq_false_iff_not] at h
    omega
  · exact largeB_no h
set_option maxHeartbeats 1000000 in
theorem heavy_to {b : Bool} (nt : Net) (vp vw : Value) (w : World) (B : Nat) (hr : RdNet w B vp vw nt) (hB : B ≤ w.heap.size) (hm1 : nt.ports.length ≤ 9223372036854775807) (hm2 : nt.ways.length ≤ 9223372036854775807) (hb : heavyB nt = b) :
    Calls Try.prog 12 #[.agg #[vp, vw]] w fun e w' => e = .returned (.bool b) ∧ Below w.heap.size w w' := by
  subst hb
  obtain ⟨Ap, cp_, rfl, _⟩ := hr.ports.shape
  obtain ⟨Aw, cw_, rfl, _⟩ := hr.ways.shape
  have hbw := Below.refl w.heap.size w
  refine EC.enter 39 Try.func12 rfl rfl rfl ?_
  refine EC.seq ?_
  refine EC.region ?_
  refine EL.newP (bx_25 rfl) rfl ?_
  intro g1 w1 q1 hb1 hg1 hl1
  have bhbw_1 := Nat.le_trans hbw.size hg1
  replace hbw := Below.on hbw hb1 hbw.size
  clear hb1 hg1 hl1
  refine EL.val (x_assign rfl) rfl ?_
  refine EL.nil ?_
  refine EX.seq ?_
  refine EC.seq ?_
  refine EC.seq ?_
  refine EC.region ?_
  refine EL.val (ld_25 rfl (q1.at (j := 0) rfl) (q1.at (j := 1) rfl)) rfl ?_
  cases hv : netB nt
  ·
    refine EL.call (cl_17 rfl) rfl (rnet_wide (b := false) hv _ _ _ B (hr.below (hbw.mono hB)) (Nat.le_trans hB hbw.size) (by omega) (by omega)) ?_
    rintro e w2 ⟨rfl, hc2⟩
    refine ⟨_, rfl, ?_⟩
    replace q1 := q1.below hc2 q1.lt
    replace hbw := Below.on hbw hc2 hbw.size
    clear hc2
    refine EL.val (x_not rfl) rfl ?_
    refine EL.nil ?_
    refine EX.seq ?_
    refine EC.yes rfl ?_
    refine EC.seq ?_
    refine EC.region ?_
    refine EL.val (ld_25 rfl (q1.at (j := 0) rfl) (q1.at (j := 1) rfl)) rfl ?_
    refine EL.call (cl_29 rfl) rfl (large_to rfl _ _ _ B (hr.below (hbw.mono hB))) ?_
    rintro e w3 ⟨rfl, hc3⟩
    refine ⟨_, rfl, ?_⟩
    replace q1 := q1.below hc3 q1.lt
    replace hbw := Below.on hbw hc3 hbw.size
    clear hc3
    refine EL.val (x_assign rfl) rfl ?_
    refine EL.nil ?_
    refine EX.seq ?_
    refine EC.ret ?_
    refine EX.seq_ret ?_
    exact EX.done (res1 rfl rfl) ⟨by rw [heavyB, if_neg (by rw [hv]; decide)], hbw⟩
  ·
    obtain ⟨⟨hp1, hp60⟩, hw300, hvp, hvw⟩ := netB_ok hv
    refine EL.call (cl_17 rfl) rfl (rnet_wide (b := true) hv _ _ _ B (hr.below (hbw.mono hB)) (Nat.le_trans hB hbw.size) (by omega) (by omega)) ?_
    rintro e w4 ⟨rfl, hc4⟩
    refine ⟨_, rfl, ?_⟩
    replace q1 := q1.below hc4 q1.lt
    replace hbw := Below.on hbw hc4 hbw.size
    clear hc4
    refine EL.val (x_not rfl) rfl ?_
    refine EL.nil ?_
    refine EX.seq ?_
    refine EC.no rfl ?_
    refine EC.skip ?_
    refine EX.seq ?_
    refine EC.seq ?_
    refine EC.region ?_
    refine EL.val (x_assign rfl) rfl ?_
    refine EL.nil ?_
    refine EX.seq ?_
    refine EC.seq ?_
    refine EC.seq ?_
    refine EC.region ?_
    refine EL.val (x_assign rfl) rfl ?_
    refine EL.nil ?_
    refine EX.seq ?_
    refine EC.block ?_
    refine EC.loopD [3, 4, 10, 11, 12, 13, 14, 15, 16, 17, 18, 19, 20, 21, 22, 23, 24] (fun x : Nat => [(3, .int .i64 (sumI (fun q => (nt.ports.getD q prt0).wants) x)), (4, .int .i64 (x : Nat))]) (fun x W => x ≤ nt.ports.length ∧ Blk W g1 25 #[.slice Ap nt.ports.length cp_, .slice Aw nt.ways.length cw_] ∧ Below w.heap.size w W) (fun x => nt.ports.length - x) 0 ⟨Nat.zero_le _, q1, hbw⟩ ⟨rfl, rfl, trivial⟩ ?_
    clear q1 hbw
    rintro x wx ⟨hx, q2x, hbw⟩
    by_cases hlt : x < nt.ports.length
    ·
      obtain ⟨bp, op, e_, _, pc0, pc1⟩ := prts_cells nt.ports x hlt _ _ _ _ _ hr.ports
      subst e_
      obtain ⟨⟨ph0, ph1⟩, pw0, pw1⟩ := hvp x hlt
      have hb1 := wants_bd hv x hx
      have hsn : (sumI (fun q => (nt.ports.getD q prt0).wants) (x + 1)) = (sumI (fun q => (nt.ports.getD q prt0).wants) x) + (nt.ports.getD x prt0).wants := rfl
      obtain ⟨y, ey⟩ : ∃ z, z = nt.ports.getD x prt0 := ⟨_, rfl⟩
      rw [← ey] at pc0 pc1 ph0 ph1 pw0 pw1 hsn
      obtain ⟨sm, esm⟩ : ∃ z, z = (sumI (fun q => (nt.ports.getD q prt0).wants) x) := ⟨_, rfl⟩
      rw [← esm] at hb1 hsn ⊢
      refine EC.seq ?_
      refine EC.seq ?_
      refine EC.region ?_
      refine EL.val (x_move rfl) rfl ?_
      refine EL.val (fa_25_0 rfl) rfl ?_
      refine EL.val (ld_22 rfl (q2x.at (j := 0) rfl)) rfl ?_
      refine EL.val (ln_22 rfl) rfl ?_
      refine EL.val (x_lss rfl rfl (decide_eq_true (show (((x : Nat) : Int) < ((nt.ports.length : Nat) : Int)) by omega))) rfl ?_
      refine EL.nil ?_
      refine EX.seq ?_
      refine EC.yes rfl ?_
      refine EC.skip ?_
      refine EX.seq ?_
      refine EC.seq ?_
      refine EC.block ?_
      refine EC.region ?_
      refine EL.val (x_move rfl) rfl ?_
      refine EL.val (fa_25_0 rfl) rfl ?_
      refine EL.val (ld_22 rfl (q2x.at (j := 0) rfl)) rfl ?_
      refine EL.val (x_move rfl) rfl ?_
      refine EL.val (ix_22 rfl rfl hlt) rfl ?_
      refine EL.val (fa_47_1 rfl) rfl ?_
      refine EL.val (ld_3 rfl (below_load hbw pc1)) rfl ?_
      refine EL.val (x_add rfl rfl (c := sm + y.wants) (IntWalk.i64_in _ ⟨by omega, by omega⟩)) rfl ?_
      refine EL.val (x_assign rfl) rfl ?_
      refine EL.nil ?_
      refine EX.blk ?_
      refine EX.seq ?_
      refine EC.region ?_
      refine EL.val (x_move rfl) rfl ?_
      refine EL.val (x_add rfl rfl (c := ((x + 1 : Nat) : Int)) ((IntWalk.i64_in _ ⟨by first | omega | (simp only; omega), by first | omega | (simp only; omega)⟩).trans (by first | omega | (simp only; omega)))) rfl ?_
      refine EL.val (x_assign rfl) rfl ?_
      refine EL.nil ?_
      refine EX.roundD (x + 1) ⟨agree_of hsn.symm rfl, rfl, trivial⟩ (by repeat first | with_reducible exact Sub.refl _ | refine sub_past rfl ?_ | exact Sub.refl _ | refine sub_del rfl ?_ | refine sub_insL_nil ?_) ⟨hlt, q2x, hbw⟩ (by omega)
    ·
      have hxe : x = nt.ports.length := by omega
      subst hxe
      refine EC.seq ?_
      refine EC.seq ?_
      refine EC.region ?_
      refine EL.val (x_move rfl) rfl ?_
      refine EL.val (fa_25_0 rfl) rfl ?_
      refine EL.val (ld_22 rfl (q2x.at (j := 0) rfl)) rfl ?_
      refine EL.val (ln_22 rfl) rfl ?_
      refine EL.val (x_lss rfl rfl (decide_eq_false (show ¬(((nt.ports.length : Nat) : Int) < ((nt.ports.length : Nat) : Int)) by omega))) rfl ?_
      refine EL.nil ?_
      refine EX.seq ?_
      refine EC.no rfl ?_
      refine EC.exit ?_
      refine EX.seq_exit ?_
      refine EX.seq_exit ?_
      refine EX.blk_here ?_
      refine EX.seq ?_
      refine EC.seq ?_
      refine EC.region ?_
      refine EL.val (fa_25_0 rfl) rfl ?_
      refine EL.val (ld_22 rfl (q2x.at (j := 0) rfl)) rfl ?_
      refine EL.val (ln_22 rfl) rfl ?_
      by_cases hv1 : 8 < nt.ports.length
      ·
        refine EL.val (x_gtr (r := true) rfl rfl (decide_eq_true (by first | omega | (simp only; omega)))) rfl ?_
        refine EL.val (x_move rfl) rfl ?_
        refine EL.skip rfl rfl rfl rfl ?_
        refine EL.skip rfl rfl rfl rfl ?_
        refine EL.skip rfl rfl rfl rfl ?_
        refine EL.skip rfl rfl rfl rfl ?_
        refine EL.val (x_pick_t rfl rfl) rfl ?_
        refine EL.val (x_move rfl) rfl ?_
        refine EL.skip rfl rfl rfl rfl ?_
        refine EL.skip rfl rfl rfl rfl ?_
        refine EL.val (x_pick_t rfl rfl) rfl ?_
        refine EL.val (x_assign rfl) rfl ?_
        refine EL.nil ?_
        refine EX.seq ?_
        refine EC.ret ?_
        exact EX.done (res1 rfl rfl) ⟨by rw [heavyB, if_pos hv]; simp only [decide_eq_true hv1, Bool.true_or] <;> rfl, hbw⟩
      ·
        refine EL.val (x_gtr (r := false) rfl rfl (decide_eq_false (by first | omega | (simp only; omega)))) rfl ?_
        refine EL.val (x_move rfl) rfl ?_
        refine EL.valg rfl rfl (fa_25_1 rfl) rfl ?_
        refine EL.valg rfl rfl (ld_23 rfl (q2x.at (j := 1) rfl)) rfl ?_
        refine EL.valg rfl rfl (ln_23 rfl) rfl ?_
        by_cases hv2 : 16 < nt.ways.length
        ·
          refine EL.valg rfl rfl (x_gtr (r := true) rfl rfl (decide_eq_true (by first | omega | (simp only; omega)))) rfl ?_
          refine EL.val (x_pick_f rfl rfl) rfl ?_
          refine EL.val (x_move rfl) rfl ?_
          refine EL.skip rfl rfl rfl rfl ?_
          refine EL.skip rfl rfl rfl rfl ?_
          refine EL.val (x_pick_t rfl rfl) rfl ?_
          refine EL.val (x_assign rfl) rfl ?_
          refine EL.nil ?_
          refine EX.seq ?_
          refine EC.ret ?_
          exact EX.done (res1 rfl rfl) ⟨by rw [heavyB, if_pos hv]; simp only [decide_eq_false hv1, decide_eq_true hv2, Bool.true_or, Bool.or_true] <;> rfl, hbw⟩
        ·
          refine EL.valg rfl rfl (x_gtr (r := false) rfl rfl (decide_eq_false (by first | omega | (simp only; omega)))) rfl ?_
          refine EL.val (x_pick_f rfl rfl) rfl ?_
          refine EL.val (x_move rfl) rfl ?_
          refine EL.valg rfl rfl (x_move rfl) rfl ?_
          by_cases hv3 : 40 < (sumI (fun q => (nt.ports.getD q prt0).wants) nt.ports.length)
          ·
            refine EL.valg rfl rfl (x_gtr (r := true) rfl rfl (decide_eq_true (by first | omega | (simp only; omega)))) rfl ?_
            refine EL.val (x_pick_f rfl rfl) rfl ?_
            refine EL.val (x_assign rfl) rfl ?_
            refine EL.nil ?_
            refine EX.seq ?_
            refine EC.ret ?_
            exact EX.done (res1 rfl rfl) ⟨by rw [heavyB, if_pos hv]; simp only [decide_eq_false hv1, decide_eq_false hv2, decide_eq_true hv3, Bool.or_true] <;> rfl, hbw⟩
          ·
            refine EL.valg rfl rfl (x_gtr (r := false) rfl rfl (decide_eq_false (by first | omega | (simp only; omega)))) rfl ?_
            refine EL.val (x_pick_f rfl rfl) rfl ?_
            refine EL.val (x_assign rfl) rfl ?_
            refine EL.nil ?_
            refine EX.seq ?_
            refine EC.ret ?_
            exact EX.done (res1 rfl rfl) ⟨by rw [heavyB, if_pos hv]; simp only [decide_eq_false hv1, decide_eq_false hv2, decide_eq_false hv3, Bool.or_false] <;> rfl, hbw⟩
end Go.Proofs.Ytabgmnmpdjnjoaa
