/- X12, EmRun, ExX13, X13, ExX14, X14, ELift, ExX15, X15, ExX17, EmDual, EmOpt, EmLeast, E20, EmFew, EmLk, ExX22, X22, ExX23, X23: what EmptiesLacksProof needs of them (merged by trimpack.py). -/
import Derived.Test.YtabgmnmpdjnjoaaLacksT3
set_option linter.unusedVariables false
set_option linter.unusedSimpArgs false
namespace Go.Proofs.Ytabgmnmpdjnjoaa
open Go Go.RowKit
theorem run_eqlS {P : Program} {w : World} {t e : TypeId} {b o m c : Nat} (ht : P.underlying t = some (.slice e)) : (binOp .eql t (.slice (some ⟨b, o, none⟩) m c) (.slice none 0 0)).run P w = .ok (.bool false) w := by
  have h : ∀ d : Nat, (Op.equalIn (d + 1) t (.slice (some ⟨b, o, none⟩) m c) (.slice none 0 0)).run P w = .ok false w := fun d => by
    simp [Op.equalIn, run_underlying ht]
  simp only [binOp]
  simp [Op.equal, Op.maxDepth, h 9999]
theorem x_eqlS {P : Program} {n : Nat} {σ : Sg} {w : World} {dst : Option Tmp} {ty t t' e : TypeId} {pos : String} {af : Array Edge} {g : Option (Nat × Bool)} {x y : Operand} {b o m c : Nat} (ht : P.underlying t = some (.slice e)) (hx : evS σ x = some (.slice (some ⟨b, o, none⟩) m c)) (hy : evS σ y = some (.slice none 0 0)) : Gives P n σ w ⟨dst, .binOp .eql t x y t', ty, pos, af, g⟩ (.bool false) := fun a ha => by
  simp only [execOp, ha.eval hx, ha.eval hy]
  simp [run_eqlS ht, Result.andThen, eqGuard, ha.eval hx, ha.eval hy]
theorem EL.copy {P : Program} {n : Nat} {L : List Oper} {Q : Exit → Act → World → Prop} {rest : List Oper} {σ : Sg} {w : World} {d ty t e size bytes base B mm g : Nat} {s x : Operand} {pos : String} {af : Array Edge} (E : Elem P t e size bytes) {src : Value} {news : List Value} (hs : evS σ s = some (.slice (some ⟨g, 0, none⟩) 0 0)) (hx : evS σ x = some src)
    (hq : Blk w g e #[]) (hg : base ≤ g) (hr : Rd w B size src mm news) (h1 : ∀ u ∈ news, u.oneCell' = true) (hm : mm ≤ 1048576) (hby : bytes ≤ 1048576) (hbase : base ≤ w.heap.size) (hd : Nat.blt d n = true)
    (next : ∀ v' w', w'.ownsRow base e size v' mm news → Below w.heap.size w w' → EL P n L Q rest (ins σ d v') w') : EL P n L Q (⟨some d, .call { callee := .builtin .append, args := #[s, x], argTypes := #[t, t] }, ty, pos, af, none⟩ :: rest) σ w := fun a ha => by
  obtain ⟨v', w', h2, h3, h4⟩ := run_copy (P := P) (ty := ty) E hq hg hr h1 hm hby hbase
  exact wpL_run (wanted_none rfl _) (run_append_call rfl (ha.eval hs) (ha.eval hx) h2) (next v' w' h3 h4 _ (ha.put hd _))
theorem clone_any (l : List Prt) (v : Value) (w : World) (B : Nat) (hr : Rd w B 2 v l.length (prtsC l)) (hB : B ≤ w.heap.size) (h0 : 0 < l.length) (hn : l.length ≤ 1048576) :
    Calls Try.prog 53 #[v] w fun e w' => (∃ v', e = .returned v' ∧ w'.ownsRow w.heap.size 47 2 v' l.length (prtsC l)) ∧ Below w.heap.size w w' := by
  obtain ⟨A, c, rfl, _⟩ := hr.shape
  obtain ⟨b0, o0, e0_, _⟩ := prts_cells l 0 h0 _ _ _ _ _ hr
  subst e0_
  have hbw := Below.refl w.heap.size w
  refine EC.enter 8 Try.func53 rfl rfl rfl ?_
  refine EC.seq ?_
  refine EC.region ?_
  refine EL.val (x_assign rfl) rfl ?_
  refine EL.nil ?_
  refine EX.seq ?_
  refine EC.seq ?_
  refine EC.seq ?_
  refine EC.region ?_
  refine EL.val (x_move rfl) rfl ?_
  refine EL.val (x_eqlS Try.underlying22 rfl rfl) rfl ?_
  refine EL.nil ?_
  refine EX.seq ?_
  refine EC.no rfl ?_
  refine EC.skip ?_
  refine EX.seq ?_
  refine EC.seq ?_
  refine EC.region ?_
  have hsz := hbw.size
  refine EL.newS bs_22_0 rfl ?_
  intro g1 w1 q1 hb1 hg1 hl1
  have bhbw_1 := Nat.le_trans hbw.size hg1
  replace hbw := Below.on hbw hb1 hbw.size
  clear hb1 hl1
  have hsz2 := hbw.size
  refine EL.val (x_move rfl) rfl ?_
  refine EL.copy prt_elem rfl rfl (base := w.heap.size) q1 (Nat.le_trans hsz hg1) (hr.below (hbw.mono hB)) (prtsC_one l) (by omega) (by omega) hbw.size rfl ?_
  intro v2 w2 ho hb2
  replace hbw := Below.on hbw hb2 hbw.size
  clear hb2
  refine EL.val (x_assign rfl) rfl ?_
  refine EL.nil ?_
  refine EX.seq ?_
  refine EC.ret ?_
  exact EX.done (res1 rfl rfl) ⟨⟨_, rfl, ho⟩, hbw⟩
theorem prts_cut (l r : List Prt) (c : Prt) (x : Int) : spl (prtsC (l ++ c :: r)) (0 + l.length * 2) [.int .i64 x] = prtsC (l ++ ⟨x, c.wants⟩ :: r) := by
  have e : ∀ (xs ys : List Value) (n : Nat), n = xs.length → spl (xs ++ ys) n [.int .i64 x] = xs ++ spl ys 0 [.int .i64 x] := by
    intro xs
    induction xs with
    | nil => intro ys n hn; subst hn; rfl
    | cons u xs ih =>
      intro ys n hn
      obtain rfl : n = xs.length + 1 := hn
      show u :: spl (xs ++ ys) xs.length _ = _
      rw [ih ys xs.length rfl]
      rfl
  rw [prtsC_app, prtsC_app, Nat.zero_add, e _ _ _ (by rw [prtsC_len])]
  congr 1
theorem spl_prts {l : List Prt} {k : Nat} (h : k < l.length) : spl (prtsC l) (0 + k * 2) [.int .i64 ((l.getD k prt0).has + 1)] = prtsC (l.set k (moreP (l.getD k prt0))) := by
  have hL : l = l.take k ++ l.getD k prt0 :: l.drop (k + 1) := by
    rw [show l.getD k prt0 = l[k] by simp [List.getD, h], ← List.drop_eq_getElem_cons h, List.take_append_drop]
  have hl : (l.take k).length = k := by rw [List.length_take]; omega
  have key := prts_cut (l.take k) (l.drop (k + 1)) (l.getD k prt0) ((l.getD k prt0).has + 1)
  rw [hl, ← hL] at key
  rw [key, List.set_eq_take_append_cons_drop, if_pos h, moreP]
set_option maxHeartbeats 1000000 in
theorem more_any (nt : Net) (port : Int) (vp vw : Value) (w : World) (B : Nat) (hr : RdNet w B vp vw nt) (hB : B ≤ w.heap.size) (hn1 : nt.ports.length ≤ 1073741824) (hn2 : nt.ways.length ≤ 1073741824) :
    Calls Try.prog 26 #[.agg #[vp, vw], .int .i64 port] w fun e w' => (∃ m err, e = .returned (.tuple #[.int .i64 m, .int .i64 err]) ∧ MoreR nt port m err) ∧ Below w.heap.size w w' := by
  obtain ⟨Ap, cp_, rfl, _⟩ := hr.ports.shape
  obtain ⟨Aw, cw_, rfl, _⟩ := hr.ways.shape
  have hbw := Below.refl w.heap.size w
  refine EC.enter 67 Try.func26 rfl rfl rfl ?_
  refine EC.seq ?_
  refine EC.region ?_
  refine EL.newP (bx_25 rfl) rfl ?_
  intro g1 w1 q1 hb1 hg1 hl1
  have bhbw_1 := Nat.le_trans hbw.size hg1
  replace hbw := Below.on hbw hb1 hbw.size
  clear hb1 hg1 hl1
  refine EL.val (x_assign rfl) rfl ?_
  refine EL.val (x_assign rfl) rfl ?_
  refine EL.nil ?_
  refine EX.seq ?_
  refine EC.seq ?_
  refine EC.block ?_
  refine EC.seq ?_
  refine EC.region ?_
  refine EL.val (ld_25 rfl (q1.at (j := 0) rfl) (q1.at (j := 1) rfl)) rfl ?_
  by_cases hv : netB nt = true
  ·
    obtain ⟨⟨hp1, hp60⟩, hw300, hvp, hvw⟩ := netB_ok hv
    refine EL.call (cl_27 rfl) rfl (check_to (e0 := 0) (by rw [netE, if_pos hv]) _ _ _ B (hr.below (hbw.mono hB)) (Nat.le_trans hB hbw.size) hn1 hn2) ?_
    rintro e w2 ⟨rfl, hc2⟩
    refine ⟨_, rfl, ?_⟩
    replace q1 := q1.below hc2 q1.lt
    replace hbw := Below.on hbw hc2 hbw.size
    clear hc2
    refine EL.val (x_neq (r := false) rfl rfl (by decide)) rfl ?_
    refine EL.val (x_assign rfl) rfl ?_
    refine EL.nil ?_
    refine EX.seq ?_
    refine EC.no rfl ?_
    refine EC.seq ?_
    refine EC.region ?_
    refine EL.val (fa_25_0 rfl) rfl ?_
    refine EL.val (ld_22 rfl (q1.at (j := 0) rfl)) rfl ?_
    refine EL.val (ln_22 rfl) rfl ?_
    refine EL.val (x_sub rfl rfl (c := ((nt.ports.length : Nat) : Int) - 1) (IntWalk.i64_in _ ⟨by omega, by omega⟩)) rfl ?_
    refine EL.val (x_move rfl) rfl ?_
    refine EL.newS (bs_29_1 rfl) rfl ?_
    intro g3 w3 q3 hb3 hg3 hl3
    have n1_3 : g1 ≠ g3 := Nat.ne_of_lt (Nat.lt_of_lt_of_le q1.lt hg3)
    have bhbw_3 := Nat.le_trans hbw.size hg3
    replace q1 := q1.below hb3 q1.lt
    replace hbw := Below.on hbw hb3 hbw.size
    clear hb3 hg3 hl3
    cases hin : inB 0 (((nt.ports.length : Nat) : Int) - 1) port
    ·
      have hpn : ¬(0 ≤ port ∧ port < nt.ports.length) := fun h => by rw [inB_iff.2 ⟨h.1, by omega⟩] at hin; cases hin
      refine EL.call (cl_52 rfl rfl rfl) rfl (within_1 (b := false) q3 hin) ?_
      rintro e w4 ⟨rfl, hc4⟩
      refine ⟨_, rfl, ?_⟩
      replace q1 := q1.below hc4 q1.lt
      replace q3 := q3.below hc4 q3.lt
      replace hbw := Below.on hbw hc4 hbw.size
      clear hc4
      refine EL.val (x_not rfl) rfl ?_
      refine EL.val (x_assign rfl) rfl ?_
      refine EL.nil ?_
      refine EX.seq ?_
      refine EC.yes rfl ?_
      refine EC.seq ?_
      refine EC.region ?_
      refine EL.val (x_assign rfl) rfl ?_
      refine EL.val (x_assign rfl) rfl ?_
      refine EL.nil ?_
      refine EX.seq ?_
      refine EC.ret ?_
      refine EX.blk_ret ?_
      refine EX.seq_ret ?_
      exact EX.done (res2 rfl rfl rfl) ⟨⟨_, _, rfl, .inr ⟨hv, .inl ⟨hpn, rfl, rfl⟩⟩⟩, hbw⟩
    ·
      have hpp := inB_iff.1 hin
      obtain ⟨k, rfl⟩ : ∃ k : Nat, port = ((k : Nat) : Int) := ⟨port.toNat, by omega⟩
      have hk : k < nt.ports.length := by omega
      have hpp2 : (0 : Int) ≤ ((k : Nat) : Int) ∧ ((k : Nat) : Int) < nt.ports.length := ⟨by omega, by omega⟩
      obtain ⟨bp, op, e_, _, pc0, pc1⟩ := prts_cells nt.ports k hk _ _ _ _ _ hr.ports
      subst e_
      obtain ⟨⟨ph0, ph1⟩, pw0, pw1⟩ := hvp k hk
      have hKN : (((k : Nat) : Int)).toNat = k := Int.toNat_natCast k
      refine EL.call (cl_52 rfl rfl rfl) rfl (within_1 (b := true) q3 hin) ?_
      rintro e w5 ⟨rfl, hc5⟩
      refine ⟨_, rfl, ?_⟩
      replace q1 := q1.below hc5 q1.lt
      replace hbw := Below.on hbw hc5 hbw.size
      clear hc5
      refine EL.val (x_not rfl) rfl ?_
      refine EL.val (x_assign rfl) rfl ?_
      refine EL.nil ?_
      refine EX.seq ?_
      refine EC.no rfl ?_
      refine EC.seq ?_
      refine EC.region ?_
      refine EL.val (fa_25_0 rfl) rfl ?_
      refine EL.val (ld_22 rfl (q1.at (j := 0) rfl)) rfl ?_
      refine EL.val (x_move rfl) rfl ?_
      refine EL.val (ix_22 rfl rfl hk) rfl ?_
      refine EL.val (fa_47_0 rfl) rfl ?_
      refine EL.val (ld_3 rfl (below_load hbw pc0)) rfl ?_
      by_cases hfu : (nt.ports.getD k prt0).has = 1000
      ·
        refine EL.val (x_eql (r := true) rfl rfl (decide_eq_true hfu)) rfl ?_
        refine EL.val (x_assign rfl) rfl ?_
        refine EL.nil ?_
        refine EX.seq ?_
        refine EC.yes rfl ?_
        refine EC.seq ?_
        refine EC.region ?_
        refine EL.val (x_assign rfl) rfl ?_
        refine EL.val (x_assign rfl) rfl ?_
        refine EL.nil ?_
        refine EX.seq ?_
        refine EC.ret ?_
        refine EX.blk_ret ?_
        refine EX.seq_ret ?_
        exact EX.done (res2 rfl rfl rfl) ⟨⟨_, _, rfl, .inr ⟨hv, .inr ⟨hpp2, .inl ⟨by rw [hKN]; exact hfu, rfl, rfl⟩⟩⟩⟩, hbw⟩
      ·
        refine EL.val (x_eql (r := false) rfl rfl (decide_eq_false hfu)) rfl ?_
        refine EL.val (x_assign rfl) rfl ?_
        refine EL.nil ?_
        refine EX.seq ?_
        refine EC.no rfl ?_
        refine EC.skip ?_
        refine EX.blk ?_
        refine EX.seq ?_
        refine EC.seq ?_
        refine EC.region ?_
        refine EL.val (ld_25 rfl (q1.at (j := 0) rfl) (q1.at (j := 1) rfl)) rfl ?_
        refine EL.call (cl_15 rfl) rfl (move_any nt _ _ _ B (hr.below (hbw.mono hB)) (Nat.le_trans hB hbw.size) hn1 hn2) ?_
        rintro e w6 ⟨⟨vm1, vr1, ml1, c1, pr1, e1, rfl, hm1, _, _⟩, hc6⟩
        refine ⟨_, rfl, ?_⟩
        replace q1 := q1.below hc6 q1.lt
        replace hbw := Below.on hbw hc6 hbw.size
        clear hc6
        refine EL.val (x_move rfl) rfl ?_
        refine EL.val (x_extract rfl rfl) rfl ?_
        refine EL.val (x_extract rfl rfl) rfl ?_
        refine EL.val (x_extract rfl rfl) rfl ?_
        refine EL.val (x_extract rfl rfl) rfl ?_
        refine EL.val (x_assign rfl) rfl ?_
        refine EL.val (x_assign rfl) rfl ?_
        refine EL.val (x_assign rfl) rfl ?_
        refine EL.val (x_assign rfl) rfl ?_
        refine EL.nil ?_
        refine EX.seq ?_
        refine EC.seq ?_
        refine EC.seq ?_
        refine EC.region ?_
        refine EL.val (x_move rfl) rfl ?_
        by_cases he0 : e1 = 0
        ·
          refine EL.val (x_neq (r := false) rfl rfl (decide_eq_false (by rw [he0]; exact fun h => h rfl))) rfl ?_
          refine EL.nil ?_
          refine EX.seq ?_
          refine EC.no rfl ?_
          refine EC.skip ?_
          refine EX.seq ?_
          refine EC.seq ?_
          refine EC.region ?_
          refine EL.val (fa_25_0 rfl) rfl ?_
          refine EL.val (ld_22 rfl (q1.at (j := 0) rfl)) rfl ?_
          refine EL.call (cl_53 rfl) rfl (clone_any nt.ports _ _ B (hr.below (hbw.mono hB)).ports (Nat.le_trans hB hbw.size) hp1 (by omega)) ?_
          rintro e w7 ⟨⟨vcl, rfl, hcl⟩, hc7⟩
          refine ⟨_, rfl, ?_⟩
          replace hcl := own_less hcl hbw.size
          replace q1 := q1.below hc7 q1.lt
          replace hbw := Below.on hbw hc7 hbw.size
          clear hc7
          obtain ⟨Ac, cc_, rfl, _⟩ := (Rd.of_own hcl).shape
          obtain ⟨gc, rfl⟩ := own_slice hcl hp1
          refine EL.val (fa_25_0 rfl) rfl ?_
          refine EL.store rfl rfl q1 sz_22 rfl rfl rfl rfl ?_
          intro w8 hq8 hg8
          replace hcl := own_type hcl q1 rfl hg8
          replace hbw := below_store hbw hg8 bhbw_1
          replace q1 := hq8
          clear hg8 hq8
          refine EL.nil ?_
          refine EX.seq ?_
          refine EC.seq ?_
          refine EC.region ?_
          refine EL.val (fa_25_0 rfl) rfl ?_
          refine EL.val (ld_22 rfl (q1.at (j := 0) rfl)) rfl ?_
          refine EL.val (x_move rfl) rfl ?_
          refine EL.val (ix_22 rfl rfl hk) rfl ?_
          refine EL.val (fa_47_0 rfl) rfl ?_
          obtain ⟨bq, oq, e2_, _, qc0, _⟩ := prts_cells nt.ports k hk _ _ _ _ _ (Rd.of_own hcl)
          injection e2_ with e2_
          injection e2_ with e3_ e4_
          subst e3_
          subst e4_
          refine EL.val (ld_3 rfl qc0) rfl ?_
          refine EL.val (x_add rfl rfl (c := (nt.ports.getD k prt0).has + 1) (IntWalk.i64_in _ ⟨by omega, by omega⟩)) rfl ?_
          refine EL.val (ix_22 rfl rfl hk) rfl ?_
          refine EL.val (fa_47_0 rfl) rfl ?_
          refine EL.storeRow (l' := [.int .i64 ((nt.ports.getD k prt0).has + 1)]) rfl rfl hcl sz_3 rfl rfl (by rw [prtsC_len]; omega) rfl ?_
          intro w9 hcl2 hgr
          rw [spl_prts hk] at hcl2
          replace q1 := blk_grown q1 hcl rfl hgr
          replace hbw := hbw.trans (below_row hcl hgr hbw.size)
          clear hcl hgr
          have hcl : World.ownsRow w9 w.heap.size 47 2 (.slice (some ⟨gc, 0, none⟩) nt.ports.length cc_) (moreN nt k).ports.length (prtsC (moreN nt k).ports) := own_n hcl2 (by show _ = (nt.ports.set _ _).length; rw [List.length_set])
          clear hcl2
          refine EL.nil ?_
          refine EX.seq ?_
          refine EC.seq ?_
          refine EC.region ?_
          refine EL.val (ld_25 rfl (q1.at (j := 0) rfl) (q1.at (j := 1) rfl)) rfl ?_
          have hrn : RdNet w9 w9.heap.size (.slice (some ⟨gc, 0, none⟩) nt.ports.length cc_) (.slice Aw nt.ways.length cw_) (moreN nt k) := ⟨Rd.of_own hcl, (hr.ways.below (hbw.mono hB)).more (Nat.le_trans hB hbw.size)⟩
          refine EL.call (cl_15 rfl) rfl (move_any (moreN nt k) _ _ _ _ hrn (Nat.le_refl _) (by show (nt.ports.set _ _).length ≤ _; rw [List.length_set]; exact hn1) hn2) ?_
          rintro e w10 ⟨⟨vm2, vr2, ml2, c2, pr2, e2, rfl, hm2, _, _⟩, hc10⟩
          have hbd1 := move_bd hm1
          have hbd2 := move_bd hm2
          refine ⟨_, rfl, ?_⟩
          replace q1 := q1.below hc10 q1.lt
          replace hcl := own_below hcl hc10 (Nat.le_refl _)
          replace hbw := Below.on hbw hc10 hbw.size
          clear hc10
          refine EL.val (x_move rfl) rfl ?_
          refine EL.val (x_extract rfl rfl) rfl ?_
          refine EL.val (x_extract rfl rfl) rfl ?_
          refine EL.val (x_extract rfl rfl) rfl ?_
          refine EL.val (x_extract rfl rfl) rfl ?_
          refine EL.val (x_assign rfl) rfl ?_
          refine EL.val (x_assign rfl) rfl ?_
          refine EL.val (x_assign rfl) rfl ?_
          refine EL.val (x_assign rfl) rfl ?_
          refine EL.nil ?_
          refine EX.seq ?_
          refine EC.seq ?_
          refine EC.region ?_
          refine EL.val (x_move rfl) rfl ?_
          refine EL.val (x_move rfl) rfl ?_
          refine EL.val (x_sub rfl rfl (c := c1 - c2) (IntWalk.i64_in _ ⟨by omega, by omega⟩)) rfl ?_
          refine EL.val (x_assign rfl) rfl ?_
          refine EL.val (x_assign rfl) rfl ?_
          refine EL.nil ?_
          refine EX.seq ?_
          refine EC.ret ?_
          exact EX.done (res2 rfl rfl rfl) ⟨⟨_, _, rfl, .inr ⟨hv, .inr ⟨hpp2, .inr ⟨by rw [hKN]; exact hfu, _, _, _, _, hm1, .inr ⟨he0, rfl, _, _, _, _, by rw [hKN]; exact hm2, rfl⟩⟩⟩⟩⟩, hbw⟩
        ·
          refine EL.val (x_neq (r := true) rfl rfl (decide_eq_true he0)) rfl ?_
          refine EL.nil ?_
          refine EX.seq ?_
          refine EC.yes rfl ?_
          refine EC.seq ?_
          refine EC.region ?_
          refine EL.val (x_assign rfl) rfl ?_
          refine EL.val (x_assign rfl) rfl ?_
          refine EL.nil ?_
          refine EX.seq ?_
          refine EC.ret ?_
          refine EX.seq_ret ?_
          exact EX.done (res2 rfl rfl rfl) ⟨⟨_, _, rfl, .inr ⟨hv, .inr ⟨hpp2, .inr ⟨by rw [hKN]; exact hfu, _, _, _, _, hm1, .inl ⟨he0, rfl, rfl⟩⟩⟩⟩⟩, hbw⟩
  ·
    have hvf : netB nt = false := by simpa using hv
    refine EL.call (cl_27 rfl) rfl (check_to (e0 := 2) (by rw [netE, if_neg hv]) _ _ _ B (hr.below (hbw.mono hB)) (Nat.le_trans hB hbw.size) hn1 hn2) ?_
    rintro e w11 ⟨rfl, hc11⟩
    refine ⟨_, rfl, ?_⟩
    replace q1 := q1.below hc11 q1.lt
    replace hbw := Below.on hbw hc11 hbw.size
    clear hc11
    refine EL.val (x_neq (r := true) rfl rfl (by decide)) rfl ?_
    refine EL.val (x_assign rfl) rfl ?_
    refine EL.nil ?_
    refine EX.seq ?_
    refine EC.yes rfl ?_
    refine EC.seq ?_
    refine EC.region ?_
    refine EL.val (x_assign rfl) rfl ?_
    refine EL.val (x_assign rfl) rfl ?_
    refine EL.nil ?_
    refine EX.seq ?_
    refine EC.ret ?_
    refine EX.blk_ret ?_
    refine EX.seq_ret ?_
    exact EX.done (res2 rfl rfl rfl) ⟨⟨_, _, rfl, .inl ⟨hvf, rfl, rfl⟩⟩, hbw⟩
end Go.Proofs.Ytabgmnmpdjnjoaa
set_option linter.unusedVariables false
set_option linter.unusedSimpArgs false
namespace Go.Proofs.Ytabgmnmpdjnjoaa
def fixedB (L : List Arc) (s : BF) : Bool := (List.range L.length).all fun i => !relaxes (arcAt L i) s.l
def bfRun (L : List Arc) (s : BF) : Nat → Option BF
  | 0 => none
  | f + 1 => if fixedB L s = true then some s else bfRun L (bfRound L s) f
theorem bfN_round (L : List Arc) (s : BF) : ∀ k, bfN L (bfRound L s) k = bfN L s (k + 1)
  | 0 => rfl
  | k + 1 => by rw [bfN, bfN_round L s k]; rfl
theorem bfRun_ok {L : List Arc} : ∀ {f : Nat} {s r : BF}, bfRun L s f = some r → EndsAt L s r.l r.by_
  | 0, s, r, h => by cases h
  | f + 1, s, r, h => by
    unfold bfRun at h
    split at h
    · rename_i hf
      injection h with h
      subst h
      exact ⟨0, fun i hi => by
        have := List.all_eq_true.1 hf i (List.mem_range.2 hi)
        show relaxes (arcAt L i) s.l = false
        simpa using this, rfl, rfl⟩
    · obtain ⟨k, h1, h2, h3⟩ := bfRun_ok h
      rw [bfN_round] at h1 h2 h3
      exact ⟨k + 1, h1, h2, h3⟩
def upRun (L : List Arc) (b : List Int) : Nat → Nat → Option Nat
  | 0, _ => none
  | f + 1, v => if b.getD v 0 = -1 then some 0 else if 0 ≤ b.getD v 0 then (upRun L b f (arcAt L (b.getD v 0).toNat).fr).map (· + 1) else none
theorem upRun_ok {L : List Arc} {b : List Int} : ∀ {f v k : Nat}, upRun L b f v = some k → Up L b v k
  | 0, v, k, h => by cases h
  | f + 1, v, k, h => by
    unfold upRun at h
    split at h
    · rename_i hb
      injection h with h
      subst h
      exact .root hb
    · split at h
      · rename_i hb
        cases e : upRun L b f (arcAt L (b.getD v 0).toNat).fr with
        | none => rw [e] at h; cases h
        | some j =>
          rw [e] at h
          injection h with h
          subst h
          exact .step (i := (b.getD v 0).toNat) (by omega) (upRun_ok e)
      · cases h
def fillRun (nt : Net) : Nat → List Arc → Option (List Arc)
  | 0, _ => none
  | f + 1, L => match bfRun L (bf0 (nt.ports.length + 2) (initS nt)) 64 with
    | none => none
    | some s => if s.by_.getD (nt.ports.length + 1) 0 < 0 then some L else match upRun L s.by_ 64 (nt.ports.length + 1) with
      | none => none
      | some k => fillRun nt f (augL L (chainL L s.by_ k (nt.ports.length + 1)))
theorem fillRun_ok {nt : Net} : ∀ {f : Nat} {L L' : List Arc}, fillRun nt f L = some L' → FillTo nt L L'
  | 0, L, L', h => by cases h
  | f + 1, L, L', h => by
    unfold fillRun at h
    split at h
    · cases h
    · rename_i s hs
      split at h
      · rename_i hb
        injection h with h
        subst h
        exact .stop (bfRun_ok hs) hb
      · rename_i hb
        split at h
        · cases h
        · rename_i k hk
          exact .step (bfRun_ok hs) (by omega) (upRun_ok hk) (fillRun_ok h)
theorem FillTo.st {nt : Net} (hv : netB nt = true) {L L' : List Arc} (h : FillTo nt L L') : St nt L → St nt L' := by
  induction h with
  | stop _ _ => exact id
  | step hE hb hk _ ih =>
    intro hst
    obtain ⟨k', hk', _, hpos, _⟩ := hst.way hv hE hb
    have e := hk'.one hk
    subst e
    exact ih (hst.aug hv hE hb hk (fun a ha => (hpos a ha).1)).1
def pricesRun (nt : Net) (L : List Arc) : Option (List Int) :=
  match bfRun L (bf0 (nt.ports.length + 2) (initS nt)) 64 with
  | none => none
  | some s => match bfRun L (bf0 (nt.ports.length + 2) (initB nt s.l)) 64 with
    | none => none
    | some r => some (pricesL nt s.l r.l)
theorem pricesRun_ok {nt : Net} {L : List Arc} {pr : List Int} (h : pricesRun nt L = some pr) : PricesOf nt L pr := by
  unfold pricesRun at h
  split at h
  · cases h
  · rename_i s hs
    split at h
    · cases h
    · rename_i r hr
      injection h with h
      subst h
      exact ⟨_, _, _, bfRun_ok hs, fun _ => ⟨_, bfRun_ok hr⟩, rfl⟩
def moveRun (nt : Net) (f : Nat) : Option (List Int × Int × List Int × Int) :=
  if netB nt = true then match fillRun nt f (openL nt) with
    | none => none
    | some L => if fullB nt L = true then (pricesRun nt L).map fun pr => (movesL L nt.ways.length, costTo nt (movesL L nt.ways.length) nt.ways.length, pr, 0) else some ([], 0, [], 7)
  else none
theorem moveRun_ok {nt : Net} {f : Nat} {ml pr : List Int} {c e : Int} (h : moveRun nt f = some (ml, c, pr, e)) : MoveR nt ml c pr e := by
  unfold moveRun at h
  split at h
  · rename_i hv
    split at h
    · cases h
    · rename_i L hL
      have hf := fillRun_ok hL
      have hst := hf.st hv (open_st hv)
      split at h
      · rename_i hfu
        cases hp : pricesRun nt L with
        | none => rw [hp] at h; cases h
        | some p =>
          rw [hp] at h
          injection h with h
          injection h with h1 h
          injection h with h2 h
          injection h with h3 h4
          subst h1 h2 h3 h4
          exact .inr ⟨hv, L, hf, hst, .inr ⟨hfu, rfl, rfl, rfl, pricesRun_ok hp⟩⟩
      · rename_i hfu
        injection h with h
        injection h with h1 h
        injection h with h2 h
        injection h with h3 h4
        subst h1 h2 h3 h4
        exact .inr ⟨hv, L, hf, hst, .inl ⟨by simpa using hfu, rfl, rfl, rfl, rfl⟩⟩
  · cases h
/-! ### The document's example -/
def net3 : Net := ⟨[⟨5, 0⟩, ⟨2, 1⟩, ⟨0, 4⟩], [⟨0, 1, 100, 3⟩, ⟨1, 2, 50, 9⟩, ⟨0, 2, 200, 9⟩]⟩
def net8 : Net := ⟨[⟨5, 0⟩, ⟨2, 1⟩, ⟨0, 8⟩], [⟨0, 1, 100, 3⟩, ⟨1, 2, 50, 9⟩, ⟨0, 2, 200, 9⟩]⟩
def lkRun (L : List Arc) (s : Nat) : Nat → List Nat
  | 0 => [s]
  | f + 1 => lkRun L s f ++ ((List.range L.length).filter fun i => decide (0 < (arcAt L i).room) && (lkRun L s f).contains (arcAt L i).to).map fun i => (arcAt L i).fr
theorem lkRun_ok {L : List Arc} {s : Nat} : ∀ {f v : Nat}, v ∈ lkRun L s f → Lk L s v
  | 0, v, h => by rw [List.mem_singleton.1 h]; exact .base
  | f + 1, v, h => by
    rcases List.mem_append.1 h with h | h
    · exact lkRun_ok h
    · obtain ⟨i, hi, rfl⟩ := List.mem_map.1 h
      have hi := List.mem_filter.1 hi
      have h2 := hi.2
      rw [Bool.and_eq_true, decide_eq_true_eq, List.contains_iff_mem] at h2
      exact .step (List.mem_range.1 hi.1) h2.1 (lkRun_ok h2.2)
theorem known_move {ml pr : List Int} {c e : Int} (h : MoveR net3 ml c pr e) : ml = [3, 4, 0] ∧ c = 500 ∧ pr = [0, 150, 200] ∧ e = 0 := h.one (moveRun_ok (f := 30) (by decide +kernel))
theorem known_bound : bndE net3 [0, 150, 200] = 0 ∧ bndV net3 [0, 150, 200] = 500 := by decide +kernel
theorem known_more {m e : Int} (h : MoreR net3 1 m e) : m = 100 ∧ e = 0 :=
  h.one (.inr ⟨by decide +kernel, .inr ⟨by decide +kernel, .inr ⟨by decide +kernel, [3, 4, 0], 500, [0, 150, 200], 0, moveRun_ok (f := 30) (by decide +kernel), .inr ⟨rfl, rfl, [2, 4, 0], 400, [0, 100, 150], 0, moveRun_ok (f := 30) (by decide +kernel), rfl⟩⟩⟩⟩)
def arcs8 : List Arc := (fillRun net8 30 (openL net8)).getD []
theorem known_lacks {ls : List Int} {lack e : Int} (h : LacksR net8 ls lack e) : ls.length = 3 ∧ lack = 2 ∧ e = 0 := by
  have hf : FillTo net8 (openL net8) arcs8 := by
    have h1 : (fillRun net8 30 (openL net8)).isSome = true := by decide +kernel
    obtain ⟨L, hL⟩ := Option.isSome_iff_exists.1 h1
    have h2 : arcs8 = L := by unfold arcs8; rw [hL]; rfl
    rw [h2]
    exact fillRun_ok hL
  rcases h with ⟨h1, _⟩ | ⟨_, he, L, f, hfl, _, hlk, hls, hla⟩
  · have h2 : netB net8 = true := by decide +kernel
    rw [h1] at h2
    cases h2
  · have e1 := hfl.one hf
    rw [e1] at hlk
    clear e1 hfl hf
    have g : ∀ v, (lkRun arcs8 4 4).contains v = true → f v = true := fun v hv => (hlk v).2 (lkRun_ok (f := 4) (List.contains_iff_mem.1 hv))
    have h0 := g 0 (by decide +kernel)
    have h1 := g 1 (by decide +kernel)
    have h2 := g 2 (by decide +kernel)
    have hl : lackL f 3 = [0, 1, 2] := by
      unfold lackL
      simp [List.range_succ, h0, h1, h2]
    have hls : ls = lackL f 3 := hls
    have hla : lack = lk2 net8 f 3 := hla
    rw [hl] at hls
    refine ⟨by rw [hls]; rfl, ?_, he⟩
    rw [hla]
    have hk : ∀ i, i < 3 → lkB net8 f i = false := fun i hi => by
      have : i = 0 ∨ i = 1 ∨ i = 2 := by omega
      rcases this with rfl | rfl | rfl
      · show (f 1 && !f 0) = false; rw [h0, h1]; rfl
      · show (f 2 && !f 1) = false; rw [h1, h2]; rfl
      · show (f 2 && !f 0) = false; rw [h0, h2]; rfl
    have hP : net8.ports.length = 3 := rfl
    have e0 : lk2 net8 f 0 = lk1 net8 (lackL f net8.ports.length) (lackL f net8.ports.length).length := rfl
    rw [hP, hl] at e0
    have st : ∀ k, k < 3 → lk2 net8 f (k + 1) = lk2 net8 f k := fun k hk2 => by
      have : lk2 net8 f (k + 1) = if lkB net8 f k = true then lk2 net8 f k - (net8.ways.getD k way0).room else lk2 net8 f k := rfl
      rw [this, hk k hk2]
      rfl
    rw [st 2 (by omega), st 1 (by omega), st 0 (by omega), e0]
    decide +kernel
end Go.Proofs.Ytabgmnmpdjnjoaa
set_option linter.unusedVariables false
set_option linter.unusedSimpArgs false
namespace Go.Proofs.Ytabgmnmpdjnjoaa
open Go Go.RowKit
section
variable {n : Nat} {σ : Sg} {w : World} {dst : Option Tmp} {ty : TypeId} {pos : String} {af : Array Edge} {g : Option (Nat × Bool)} {x y z : Operand} {at' : Array TypeId}
theorem bs_29_0 (a : Act) (_ : Env n σ a) : (execOp a.eval ⟨dst, .buildSlice 29 0 #[], ty, pos, af, g⟩).run Try.prog w = .ok (.value (.slice (some ⟨w.heap.size, 0, none⟩) 0 0)) (w.alloc (.cells #[] 3)) := by
  simp only [execOp]
  go_simp
theorem al_25 (a : Act) (_ : Env n σ a) : (execOp a.eval ⟨dst, .alloc 25, ty, pos, af, g⟩).run Try.prog w = .ok (.value (.pointer (some ⟨w.heap.size, 0, none⟩))) (w.alloc (.cells #[.slice none 0 0, .slice none 0 0] 25)) := by
  simp only [execOp]
  simp [go_sem]
theorem bs_23_0 (a : Act) (_ : Env n σ a) : (execOp a.eval ⟨dst, .buildSlice 23 0 #[], ty, pos, af, g⟩).run Try.prog w = .ok (.value (.slice (some ⟨w.heap.size, 0, none⟩) 0 0)) (w.alloc (.cells #[] 56)) := by
  simp only [execOp]
  go_simp
theorem bd_25_0_1 {x0 x1 : Operand} {A0 : Option Addr} {m0 : Nat} {c0 : Nat} {A1 : Option Addr} {m1 : Nat} {c1 : Nat} (h0 : evS σ x0 = some (.slice A0 m0 c0)) (h1 : evS σ x1 = some (.slice A1 m1 c1)) : Gives Try.prog n σ w ⟨dst, .build 25 #[(0, x0), (1, x1)], ty, pos, af, g⟩ (.agg #[.slice A0 m0 c0, .slice A1 m1 c1]) := fun a ha => by
  simp only [execOp, List.map_toArray, List.map_cons, List.map_nil, ha.eval h0, ha.eval h1]
  go_simp
theorem sz_25 : (Try.prog.info? 25).map (·.size) = some 2 := by kernel_rfl
theorem lv_25 {b o : Nat} {v0 v1 : Value} (c0 : w.cell? ⟨b, o, none⟩ = some v0) (c1 : w.cell? ⟨b, o + 1, none⟩ = some v1) : (loadVar 25 ⟨b, o, none⟩).run Try.prog w = .ok (.agg #[v0, v1]) w := by
  simp [go_sem, loadVar, c0, c1]
theorem bd_47_0 {x0 : Operand} {z0 : Int} (h0 : evS σ x0 = some (.int .i64 z0)) : Gives Try.prog n σ w ⟨dst, .build 47 #[(0, x0)], ty, pos, af, g⟩ (.agg #[.int .i64 z0, .int .i64 0]) := fun a ha => by
  simp only [execOp, List.map_toArray, List.map_cons, List.map_nil, ha.eval h0]
  go_simp
theorem bd_47_0_1 {x0 x1 : Operand} {z0 : Int} {z1 : Int} (h0 : evS σ x0 = some (.int .i64 z0)) (h1 : evS σ x1 = some (.int .i64 z1)) : Gives Try.prog n σ w ⟨dst, .build 47 #[(0, x0), (1, x1)], ty, pos, af, g⟩ (.agg #[.int .i64 z0, .int .i64 z1]) := fun a ha => by
  simp only [execOp, List.map_toArray, List.map_cons, List.map_nil, ha.eval h0, ha.eval h1]
  go_simp
theorem bd_47_1 {x0 : Operand} {z0 : Int} (h0 : evS σ x0 = some (.int .i64 z0)) : Gives Try.prog n σ w ⟨dst, .build 47 #[(1, x0)], ty, pos, af, g⟩ (.agg #[.int .i64 0, .int .i64 z0]) := fun a ha => by
  simp only [execOp, List.map_toArray, List.map_cons, List.map_nil, ha.eval h0]
  go_simp
theorem bs_22_3 {x0 x1 x2 : Operand} {v0_0 v0_1 v1_0 v1_1 v2_0 v2_1 : Value} (h0 : evS σ x0 = some (.agg #[v0_0, v0_1])) (h1 : evS σ x1 = some (.agg #[v1_0, v1_1])) (h2 : evS σ x2 = some (.agg #[v2_0, v2_1]))  (a : Act) (ha : Env n σ a) : (execOp a.eval ⟨dst, .buildSlice 22 3 #[(0, x0), (1, x1), (2, x2)], ty, pos, af, g⟩).run Try.prog w = .ok (.value (.slice (some ⟨w.heap.size, 0, none⟩) 3 3)) (w.alloc (.cells #[v0_0, v0_1, v1_0, v1_1, v2_0, v2_1] 47)) := by
  simp only [execOp, List.map_toArray, List.map_cons, List.map_nil, ha.eval h0, ha.eval h1, ha.eval h2]
  go_simp
theorem bd_56_0_1_2_3 {x0 x1 x2 x3 : Operand} {z0 : Int} {z1 : Int} {z2 : Int} {z3 : Int} (h0 : evS σ x0 = some (.int .i64 z0)) (h1 : evS σ x1 = some (.int .i64 z1)) (h2 : evS σ x2 = some (.int .i64 z2)) (h3 : evS σ x3 = some (.int .i64 z3)) : Gives Try.prog n σ w ⟨dst, .build 56 #[(0, x0), (1, x1), (2, x2), (3, x3)], ty, pos, af, g⟩ (.agg #[.int .i64 z0, .int .i64 z1, .int .i64 z2, .int .i64 z3]) := fun a ha => by
  simp only [execOp, List.map_toArray, List.map_cons, List.map_nil, ha.eval h0, ha.eval h1, ha.eval h2, ha.eval h3]
  go_simp
theorem bs_23_3 {x0 x1 x2 : Operand} {v0_0 v0_1 v0_2 v0_3 v1_0 v1_1 v1_2 v1_3 v2_0 v2_1 v2_2 v2_3 : Value} (h0 : evS σ x0 = some (.agg #[v0_0, v0_1, v0_2, v0_3])) (h1 : evS σ x1 = some (.agg #[v1_0, v1_1, v1_2, v1_3])) (h2 : evS σ x2 = some (.agg #[v2_0, v2_1, v2_2, v2_3]))  (a : Act) (ha : Env n σ a) : (execOp a.eval ⟨dst, .buildSlice 23 3 #[(0, x0), (1, x1), (2, x2)], ty, pos, af, g⟩).run Try.prog w = .ok (.value (.slice (some ⟨w.heap.size, 0, none⟩) 3 3)) (w.alloc (.cells #[v0_0, v0_1, v0_2, v0_3, v1_0, v1_1, v1_2, v1_3, v2_0, v2_1, v2_2, v2_3] 56)) := by
  simp only [execOp, List.map_toArray, List.map_cons, List.map_nil, ha.eval h0, ha.eval h1, ha.eval h2]
  go_simp
end
end Go.Proofs.Ytabgmnmpdjnjoaa
set_option linter.unusedVariables false
set_option linter.unusedSimpArgs false
namespace Go.Proofs.Ytabgmnmpdjnjoaa
open Go Go.RowKit
/-- a net of one's own -/
structure OwnNet (w : World) (base : Nat) (vp vw : Value) (n : Net) : Prop where
  ports : w.ownsRow base 47 2 vp n.ports.length (prtsC n.ports)
  ways : w.ownsRow base 56 4 vw n.ways.length (waysC n.ways)
theorem OwnNet.rd {w : World} {base : Nat} {vp vw : Value} {n : Net} (h : OwnNet w base vp vw n) : RdNet w w.heap.size vp vw n := ⟨Rd.of_own h.ports, Rd.of_own h.ways⟩
theorem OwnNet.below {w w' : World} {base : Nat} {vp vw : Value} {n : Net} (h : OwnNet w base vp vw n) (hb : Below w.heap.size w w') : OwnNet w' base vp vw n := ⟨own_below h.ports hb (Nat.le_refl _), own_below h.ways hb (Nat.le_refl _)⟩
theorem OwnNet.less {w : World} {base base' : Nat} {vp vw : Value} {n : Net} (h : OwnNet w base vp vw n) (hb : base' ≤ base) : OwnNet w base' vp vw n := ⟨own_less h.ports hb, own_less h.ways hb⟩
theorem copied_any (nt : Net) (vp vw : Value) (w : World) (B : Nat) (hr : RdNet w B vp vw nt) (hB : B ≤ w.heap.size) (hn1 : nt.ports.length ≤ 1048576) (hn2 : nt.ways.length ≤ 1048576) :
    Calls Try.prog 14 #[.agg #[vp, vw]] w fun e w' => (∃ vp' vw', e = .returned (.agg #[vp', vw']) ∧ OwnNet w' w.heap.size vp' vw' nt) ∧ Below w.heap.size w w' := by
  obtain ⟨Ap, cp_, rfl, _⟩ := hr.ports.shape
  obtain ⟨Aw, cw_, rfl, _⟩ := hr.ways.shape
  have hbw := Below.refl w.heap.size w
  refine EC.enter 12 Try.func14 rfl rfl rfl ?_
  refine EC.seq ?_
  refine EC.region ?_
  refine EL.newP (bx_25 rfl) rfl ?_
  intro g1 w1 q1 hb1 hg1 hl1
  have bhbw_1 := Nat.le_trans hbw.size hg1
  replace hbw := Below.on hbw hb1 hbw.size
  clear hb1 hg1 hl1
  refine EL.newP al_25 rfl ?_
  intro g2 w2 q2 hb2 hg2 hl2
  have n1_2 : g1 ≠ g2 := Nat.ne_of_lt (Nat.lt_of_lt_of_le q1.lt hg2)
  have bhbw_2 := Nat.le_trans hbw.size hg2
  replace q1 := q1.below hb2 q1.lt
  replace hbw := Below.on hbw hb2 hbw.size
  clear hb2 hg2 hl2
  refine EL.nil ?_
  refine EX.seq ?_
  refine EC.seq ?_
  have hsz0 := hbw.size
  have lt_1 := q1.lt
  have lt_2 := q2.lt
  refine EC.regionP [[], [], [1], [0, 1, 2], [], [], [5], [0, 1, 2, 3, 4, 5, 6], [0, 1, 2, 3, 4, 5, 6, 7], [0, 1, 2, 3, 4, 5, 6, 7, 8]] 9 [] (phi (fun i_ r => match i_ with | 1 => r 1 = .pointer (some ⟨g1, 0, none⟩) | 2 => r 2 = .slice Ap nt.ports.length cp_ | 5 => r 5 = .pointer (some ⟨g1, 1, none⟩) | 6 => r 6 = .slice Aw nt.ways.length cw_ | _ => True) [(0, fun r w_ => ∃ g_, r 0 = .slice (some ⟨g_, 0, none⟩) 0 0 ∧ Blk w_ g_ 47 #[] ∧ w2.heap.size ≤ g_), (3, fun r w_ => ∃ A_ c_, r 3 = .slice A_ nt.ports.length c_ ∧ w_.ownsRow w2.heap.size 47 2 (.slice A_ nt.ports.length c_) nt.ports.length (prtsC nt.ports)), (4, fun r w_ => ∃ g_, r 4 = .slice (some ⟨g_, 0, none⟩) 0 0 ∧ Blk w_ g_ 56 #[] ∧ w2.heap.size ≤ g_), (7, fun r w_ => ∃ A_ c_, r 7 = .slice A_ nt.ways.length c_ ∧ w_.ownsRow w2.heap.size 56 4 (.slice A_ nt.ways.length c_) nt.ways.length (waysC nt.ways)), (8, fun r w_ => ∃ A_ c_ A2_ c2_, r 8 = .agg #[.slice A_ nt.ports.length c_, .slice A2_ nt.ways.length c2_] ∧ w_.ownsRow w2.heap.size 47 2 (.slice A_ nt.ports.length c_) nt.ports.length (prtsC nt.ports) ∧ w_.ownsRow w2.heap.size 56 4 (.slice A2_ nt.ways.length c2_) nt.ways.length (waysC nt.ways))]) (by kernel_rfl) rfl rfl (phi_cons mono_bs (phi_cons mono_cp (phi_cons mono_bs (phi_cons mono_cp (phi_cons (by rintro _ _ _ hb ⟨A_, c_, A2_, c2_, h1, h2, h3⟩; exact ⟨A_, c_, A2_, c2_, h1, own_below h2 hb (Nat.le_refl _), own_below h3 hb (Nat.le_refl _)⟩) (phi_nil)))))) (fun i_ hi_ => ?_) ?_
  · match i_, hi_ with
    | 0, _ =>
      intro val w1 a hb ha hd
      have ha := ha.sub (Sub.nil _)
      exact hs_newS ha rfl rfl (bs_22_0) rfl (fun g w' hq _ hge => ⟨g, rfl, hq, Nat.le_trans hb.size hge⟩)
    | 1, _ =>
      intro val w1 a hb ha hd
      have ha := ha.sub (Sub.ins (d := 1) (Sub.nil _) rfl)
      exact hs_val ha rfl rfl (fa_25_0 rfl) rfl rfl
    | 2, _ =>
      intro val w1 a hb ha hd
      have e1 : val 1 = .pointer (some ⟨g1, 0, none⟩) := hd 1 (memB_mem.1 rfl)
      have ha := ha.sub (Sub.ins (d := 4) (Sub.nil _) (dep_get rfl e1))
      exact hs_val ha rfl rfl (ld_22 rfl ((q1.below hb q1.lt).at (j := 0) rfl)) rfl rfl
    | 3, _ =>
      intro val w1 a hb ha hd
      obtain ⟨g0_, e0, q0_, h0_⟩ := hd 0 (memB_mem.1 rfl)
      change val 0 = _ at e0
      have e2 : val 2 = .slice Ap nt.ports.length cp_ := hd 2 (memB_mem.1 rfl)
      have ha := ha.sub (Sub.ins (d := 5) (Sub.ins (d := 3) (Sub.nil _) (dep_get rfl e0)) (dep_get rfl e2))
      refine hs_copy prt_elem ha rfl rfl rfl q0_ h0_ (hr.ports.below ((Below.on hbw hb hbw.size).mono hB)) (prtsC_one _) (by omega) rfl hb.size rfl (fun v' w' ho => ?_)
      obtain ⟨A, c9, rfl, _⟩ := (Rd.of_own ho).shape
      exact ⟨A, c9, rfl, ho⟩
    | 4, _ =>
      intro val w1 a hb ha hd
      have ha := ha.sub (Sub.nil _)
      exact hs_newS ha rfl rfl (bs_23_0) rfl (fun g w' hq _ hge => ⟨g, rfl, hq, Nat.le_trans hb.size hge⟩)
    | 5, _ =>
      intro val w1 a hb ha hd
      have ha := ha.sub (Sub.ins (d := 1) (Sub.nil _) rfl)
      exact hs_val ha rfl rfl (fa_25_1 rfl) rfl rfl
    | 6, _ =>
      intro val w1 a hb ha hd
      have e5 : val 5 = .pointer (some ⟨g1, 1, none⟩) := hd 5 (memB_mem.1 rfl)
      have ha := ha.sub (Sub.ins (d := 8) (Sub.nil _) (dep_get rfl e5))
      exact hs_val ha rfl rfl (ld_23 rfl ((q1.below hb q1.lt).at (j := 1) rfl)) rfl rfl
    | 7, _ =>
      intro val w1 a hb ha hd
      obtain ⟨g4_, e4, q4_, h4_⟩ := hd 4 (memB_mem.1 rfl)
      change val 4 = _ at e4
      have e6 : val 6 = .slice Aw nt.ways.length cw_ := hd 6 (memB_mem.1 rfl)
      have ha := ha.sub (Sub.ins (d := 9) (Sub.ins (d := 7) (Sub.nil _) (dep_get rfl e4)) (dep_get rfl e6))
      refine hs_copy way_elem ha rfl rfl rfl q4_ h4_ (hr.ways.below ((Below.on hbw hb hbw.size).mono hB)) (waysC_one _) (by omega) rfl hb.size rfl (fun v' w' ho => ?_)
      obtain ⟨A, c9, rfl, _⟩ := (Rd.of_own ho).shape
      exact ⟨A, c9, rfl, ho⟩
    | 8, _ =>
      intro val w1 a hb ha hd
      obtain ⟨A3_, c3_, e3, o3_⟩ := hd 3 (memB_mem.1 rfl)
      obtain ⟨A7_, c7_, e7, o7_⟩ := hd 7 (memB_mem.1 rfl)
      have ha := ha.sub (Sub.ins (d := 10) (Sub.ins (d := 6) (Sub.nil _) (dep_get rfl e3)) (dep_get rfl e7))
      exact hs_val ha rfl rfl (bd_25_0_1 rfl rfl) ⟨A3_, c3_, A7_, c7_, rfl, o3_, o7_⟩ rfl
    | k + 9, h => exact absurd h (by omega)
  · intro val wR1 hb halc hd
    obtain ⟨ga0_1, e0, qa0_1, hga0_1⟩ := hd 0 (by omega)
    change val 0 = _ at e0
    change Blk wR1 ga0_1 47 #[] at qa0_1
    have e1 : val 1 = .pointer (some ⟨g1, 0, none⟩) := hd 1 (by omega)
    have e2 : val 2 = .slice Ap nt.ports.length cp_ := hd 2 (by omega)
    obtain ⟨A3_, c3_, e3, o3_⟩ := hd 3 (by omega)
    obtain ⟨ga4_1, e4, qa4_1, hga4_1⟩ := hd 4 (by omega)
    change val 4 = _ at e4
    change Blk wR1 ga4_1 56 #[] at qa4_1
    have e5 : val 5 = .pointer (some ⟨g1, 1, none⟩) := hd 5 (by omega)
    have e6 : val 6 = .slice Aw nt.ways.length cw_ := hd 6 (by omega)
    obtain ⟨A7_, c7_, e7, o7_⟩ := hd 7 (by omega)
    obtain ⟨A8_, c8_, B8_, d8_, e8, o8_, u8_⟩ := hd 8 (by omega)
    refine EL.ends (cs := [.slice (some ⟨ga0_1, 0, none⟩) 0 0, .pointer (some ⟨g1, 0, none⟩), .slice Ap nt.ports.length cp_, .slice A3_ nt.ports.length c3_, .slice (some ⟨ga4_1, 0, none⟩) 0 0, .pointer (some ⟨g1, 1, none⟩), .slice Aw nt.ways.length cw_, .slice A7_ nt.ways.length c7_, .agg #[.slice A8_ nt.ports.length c8_, .slice B8_ nt.ways.length d8_]]) ⟨e0, e1, e2, e3, e4, e5, e6, e7, e8, trivial⟩ rfl ?_
    replace q1 := q1.below hb q1.lt
    replace q2 := q2.below hb q2.lt
    have n1_3 : g1 ≠ ga0_1 := Nat.ne_of_lt (Nat.lt_of_lt_of_le lt_1 hga0_1)
    have n2_3 : g2 ≠ ga0_1 := Nat.ne_of_lt (Nat.lt_of_lt_of_le lt_2 hga0_1)
    have bhbw_3 := Nat.le_trans hbw.size hga0_1
    have n1_4 : g1 ≠ ga4_1 := Nat.ne_of_lt (Nat.lt_of_lt_of_le lt_1 hga4_1)
    have n2_4 : g2 ≠ ga4_1 := Nat.ne_of_lt (Nat.lt_of_lt_of_le lt_2 hga4_1)
    have bhbw_4 := Nat.le_trans hbw.size hga4_1
    replace hbw := Below.on hbw hb hbw.size
    clear hb
    replace o8_ := own_less o8_ hsz0
    replace u8_ := own_less u8_ hsz0
    refine EL.store rfl rfl q2 sz_25 rfl rfl rfl rfl ?_
    intro w5 hq5 hg5
    replace q1 := q1.grown hg5 (fun h => n1_2 (Option.some.inj h))
    replace o8_ := own_type o8_ q2 rfl hg5
    replace u8_ := own_type u8_ q2 rfl hg5
    replace hbw := below_store hbw hg5 bhbw_2
    replace q2 := hq5
    clear hg5 hq5
    refine EL.nil ?_
    refine EX.seq ?_
    refine EC.ret ?_
    exact EX.done (resc1 rfl rfl (lv_25 (q2.at (j := 0) rfl) (q2.at (j := 1) rfl))) ⟨⟨_, _, rfl, ⟨o8_, u8_⟩⟩, hbw⟩
theorem equal_same (l : List Int) (v u : Value) (w : World) (B : Nat) (hr : Rd w B 1 v l.length (ints l)) (hs : Rd w B 1 u l.length (ints l)) (hB : B ≤ w.heap.size) (hn : l.length ≤ 1073741824) :
    Calls Try.prog 25 #[v, u] w fun e w' => e = .returned (.bool true) ∧ Below w.heap.size w w' := by
  obtain ⟨A, c, rfl, _⟩ := hr.shape
  obtain ⟨A2, c2, rfl, _⟩ := hs.shape
  have hbw := Below.refl w.heap.size w
  refine EC.enter 26 Try.func25 rfl rfl rfl ?_
  refine EC.seq ?_
  refine EC.region ?_
  refine EL.val (x_assign rfl) rfl ?_
  refine EL.nil ?_
  refine EX.seq ?_
  refine EC.seq ?_
  refine EC.seq ?_
  refine EC.region ?_
  refine EL.val (x_move rfl) rfl ?_
  refine EL.val (ln_29 rfl) rfl ?_
  refine EL.val (x_move rfl) rfl ?_
  refine EL.val (ln_29 rfl) rfl ?_
  refine EL.val (x_neq (r := false) rfl rfl (decide_eq_false (fun h => h rfl))) rfl ?_
  refine EL.nil ?_
  refine EX.seq ?_
  refine EC.no rfl ?_
  refine EC.skip ?_
  refine EX.seq ?_
  refine EC.seq ?_
  refine EC.seq ?_
  refine EC.region ?_
  refine EL.val (x_assign rfl) rfl ?_
  refine EL.nil ?_
  refine EX.seq ?_
  refine EC.block ?_
  refine EC.loopD [4, 5, 11, 12, 13, 14, 15, 16, 17, 18, 19, 20, 21, 22, 23, 24, 25] (fun x : Nat => [(5, .int .i64 (x : Nat))]) (fun x W => x ≤ l.length ∧ Below w.heap.size w W) (fun x => l.length - x) 0 ⟨Nat.zero_le _, hbw⟩ ⟨rfl, trivial⟩ ?_
  clear hbw
  rintro x wx ⟨hx, hbw⟩
  by_cases hlt : x < l.length
  ·
    obtain ⟨b1, o1, e_, _, c1_⟩ := ints_cells l x hlt _ _ _ _ _ hr
    subst e_
    obtain ⟨b2, o2, e_, _, c2_⟩ := ints_cells l x hlt _ _ _ _ _ hs
    subst e_
    refine EC.seq ?_
    refine EC.seq ?_
    refine EC.region ?_
    refine EL.val (x_move rfl) rfl ?_
    refine EL.val (x_move rfl) rfl ?_
    refine EL.val (ln_29 rfl) rfl ?_
    refine EL.val (x_lss rfl rfl (decide_eq_true (show (((x : Nat) : Int) < ((l.length : Nat) : Int)) by omega))) rfl ?_
    refine EL.nil ?_
    refine EX.seq ?_
    refine EC.yes rfl ?_
    refine EC.skip ?_
    refine EX.seq ?_
    refine EC.seq ?_
    refine EC.block ?_
    refine EC.seq ?_
    refine EC.regionQ (by kernel_rfl) (by kernel_rfl) ?_
    refine EQ.val (fun _ hw => (x_move rfl)) rfl ?_
    refine EQ.val (fun _ hw => (x_move rfl)) rfl ?_
    refine EQ.val (fun _ hw => (ix_29 rfl rfl hlt)) rfl ?_
    refine EQ.val (fun _ hw => (ld_3 rfl (below_load hw (below_load hbw c1_)))) rfl ?_
    refine EQ.val (fun _ hw => (x_move rfl)) rfl ?_
    refine EQ.val (fun _ hw => (x_move rfl)) rfl ?_
    refine EQ.val (fun _ hw => (ix_29 rfl rfl hlt)) rfl ?_
    refine EQ.val (fun _ hw => (ld_3 rfl (below_load hw (below_load hbw c2_)))) rfl ?_
    refine EQ.val (fun _ hw => (x_neq (r := false) rfl rfl (decide_eq_false (fun h => h rfl)))) rfl ?_
    refine EQ.fin (fun w1 hw_ => ?_)
    replace hbw := Below.on hbw hw_ hbw.size
    clear hw_
    refine EX.seq ?_
    refine EC.no rfl ?_
    refine EC.skip ?_
    refine EX.blk ?_
    refine EX.seq ?_
    refine EC.region ?_
    refine EL.val (x_move rfl) rfl ?_
    refine EL.val (x_add rfl rfl (c := ((x + 1 : Nat) : Int)) ((IntWalk.i64_in _ ⟨by first | omega | (simp only; omega), by first | omega | (simp only; omega)⟩).trans (by first | omega | (simp only; omega)))) rfl ?_
    refine EL.val (x_assign rfl) rfl ?_
    refine EL.nil ?_
    refine EX.roundD (x + 1) ⟨rfl, trivial⟩ (by repeat first | with_reducible exact Sub.refl _ | refine sub_past rfl ?_ | exact Sub.refl _ | refine sub_del rfl ?_ | refine sub_insL_nil ?_) ⟨hlt, hbw⟩ (by omega)
  ·
    have hxe : x = l.length := by omega
    subst hxe
    refine EC.seq ?_
    refine EC.seq ?_
    refine EC.region ?_
    refine EL.val (x_move rfl) rfl ?_
    refine EL.val (x_move rfl) rfl ?_
    refine EL.val (ln_29 rfl) rfl ?_
    refine EL.val (x_lss rfl rfl (decide_eq_false (show ¬(((l.length : Nat) : Int) < ((l.length : Nat) : Int)) by omega))) rfl ?_
    refine EL.nil ?_
    refine EX.seq ?_
    refine EC.no rfl ?_
    refine EC.exit ?_
    refine EX.seq_exit ?_
    refine EX.seq_exit ?_
    refine EX.blk_here ?_
    refine EX.seq ?_
    refine EC.seq ?_
    refine EC.region ?_
    refine EL.val (x_assign rfl) rfl ?_
    refine EL.nil ?_
    refine EX.seq ?_
    refine EC.ret ?_
    exact EX.done (res1 rfl rfl) ⟨rfl, hbw⟩
def largeB (nt : Net) : Bool := decide (70 < nt.ports.length) || decide (320 < nt.ways.length)
theorem largeB_no {nt : Net} (h : largeB nt = false) : nt.ports.length ≤ 70 ∧ nt.ways.length ≤ 320 := by
  simp only [largeB, Bool.or_eq_false_iff, decide_eq_false_iff_not] at h
  omega
theorem large_to {nt : Net} {b : Bool} (h : largeB nt = b) (vp vw : Value) (w : World) (B : Nat) (hr : RdNet w B vp vw nt) :
    Calls Try.prog 29 #[.agg #[vp, vw]] w fun e w' => e = .returned (.bool b) ∧ Below w.heap.size w w' := by
  subst h
  obtain ⟨Ap, cp_, rfl, _⟩ := hr.ports.shape
  obtain ⟨Aw, cw_, rfl, _⟩ := hr.ways.shape
  have hbw := Below.refl w.heap.size w
  refine EC.enter 13 Try.func29 rfl rfl rfl ?_
  refine EC.seq ?_
  refine EC.region ?_
  refine EL.newP (bx_25 rfl) rfl ?_
  intro g1 w1 q1 hb1 hg1 hl1
  have bhbw_1 := Nat.le_trans hbw.size hg1
  replace hbw := Below.on hbw hb1 hbw.size
  clear hb1 hg1 hl1
  refine EL.val (x_assign rfl) rfl ?_
  refine EL.nil ?_
  refine EX.seq ?_
  refine EC.seq ?_
  refine EC.region ?_
  refine EL.val (fa_25_0 rfl) rfl ?_
  refine EL.val (ld_22 rfl (q1.at (j := 0) rfl)) rfl ?_
  refine EL.val (ln_22 rfl) rfl ?_
  by_cases h1 : 70 < nt.ports.length
  ·
    refine EL.val (x_gtr (r := true) rfl rfl (decide_eq_true (by omega))) rfl ?_
    refine EL.val (x_move rfl) rfl ?_
    refine EL.skip rfl rfl rfl rfl ?_
    refine EL.skip rfl rfl rfl rfl ?_
    refine EL.skip rfl rfl rfl rfl ?_
    refine EL.skip rfl rfl rfl rfl ?_
    refine EL.val (x_pick_t rfl rfl) rfl ?_
    refine EL.val (x_assign rfl) rfl ?_
    refine EL.nil ?_
    refine EX.seq ?_
    refine EC.ret ?_
    exact EX.done (res1 rfl rfl) ⟨by rw [largeB, decide_eq_true h1]; rfl, hbw⟩
  ·
    refine EL.val (x_gtr (r := false) rfl rfl (decide_eq_false (by omega))) rfl ?_
    refine EL.val (x_move rfl) rfl ?_
    refine EL.valg rfl rfl (fa_25_1 rfl) rfl ?_
    refine EL.valg rfl rfl (ld_23 rfl (q1.at (j := 1) rfl)) rfl ?_
    refine EL.valg rfl rfl (ln_23 rfl) rfl ?_
    by_cases h2 : 320 < nt.ways.length
    ·
      refine EL.valg rfl rfl (x_gtr (r := true) rfl rfl (decide_eq_true (by omega))) rfl ?_
      refine EL.val (x_pick_f rfl rfl) rfl ?_
      refine EL.val (x_assign rfl) rfl ?_
      refine EL.nil ?_
      refine EX.seq ?_
      refine EC.ret ?_
      exact EX.done (res1 rfl rfl) ⟨by rw [largeB, decide_eq_false h1, decide_eq_true h2]; rfl, hbw⟩
    ·
      refine EL.valg rfl rfl (x_gtr (r := false) rfl rfl (decide_eq_false (by omega))) rfl ?_
      refine EL.val (x_pick_f rfl rfl) rfl ?_
      refine EL.val (x_assign rfl) rfl ?_
      refine EL.nil ?_
      refine EX.seq ?_
      refine EC.ret ?_
      exact EX.done (res1 rfl rfl) ⟨by rw [largeB, decide_eq_false h1, decide_eq_false h2]; rfl, hbw⟩
theorem three_any (w : World) : Calls Try.prog 37 #[] w fun e w' => (∃ vp vw, e = .returned (.agg #[vp, vw]) ∧ OwnNet w' w.heap.size vp vw net3) ∧ Below w.heap.size w w' := by
  have hbw := Below.refl w.heap.size w
  refine EC.enter 10 Try.func37 rfl rfl rfl ?_
  refine EC.seq ?_
  refine EC.region ?_
  refine EL.newP al_25 rfl ?_
  intro g1 w1 q1 hb1 hg1 hl1
  have bhbw_1 := Nat.le_trans hbw.size hg1
  replace hbw := Below.on hbw hb1 hbw.size
  clear hb1 hg1 hl1
  refine EL.nil ?_
  refine EX.seq ?_
  refine EC.seq ?_
  refine EC.region ?_
  refine EL.val (bd_47_0 rfl) rfl ?_
  refine EL.val (bd_47_0_1 rfl rfl) rfl ?_
  refine EL.val (bd_47_1 rfl) rfl ?_
  refine EL.newS (bs_22_3 rfl rfl rfl) rfl ?_
  intro g2 w2 q2 hb2 hg2 hl2
  have n1_2 : g1 ≠ g2 := Nat.ne_of_lt (Nat.lt_of_lt_of_le q1.lt hg2)
  have bhbw_2 := Nat.le_trans hbw.size hg2
  replace q1 := q1.below hb2 q1.lt
  replace hbw := Below.on hbw hb2 hbw.size
  clear hb2 hg2 hl2
  refine EL.val (bd_56_0_1_2_3 rfl rfl rfl rfl) rfl ?_
  refine EL.val (bd_56_0_1_2_3 rfl rfl rfl rfl) rfl ?_
  refine EL.val (bd_56_0_1_2_3 rfl rfl rfl rfl) rfl ?_
  refine EL.newS (bs_23_3 rfl rfl rfl) rfl ?_
  intro g3 w3 q3 hb3 hg3 hl3
  have n1_3 : g1 ≠ g3 := Nat.ne_of_lt (Nat.lt_of_lt_of_le q1.lt hg3)
  have n2_3 : g2 ≠ g3 := Nat.ne_of_lt (Nat.lt_of_lt_of_le q2.lt hg3)
  have bhbw_3 := Nat.le_trans hbw.size hg3
  replace q1 := q1.below hb3 q1.lt
  replace q2 := q2.below hb3 q2.lt
  replace hbw := Below.on hbw hb3 hbw.size
  clear hb3 hg3 hl3
  refine EL.val (bd_25_0_1 rfl rfl) rfl ?_
  refine EL.store rfl rfl q1 sz_25 rfl rfl rfl rfl ?_
  intro w4 hq4 hg4
  replace q2 := q2.grown hg4 (fun h => n1_2.symm (Option.some.inj h))
  replace q3 := q3.grown hg4 (fun h => n1_3.symm (Option.some.inj h))
  replace hbw := below_store hbw hg4 bhbw_1
  replace q1 := hq4
  clear hg4 hq4
  refine EL.nil ?_
  refine EX.seq ?_
  refine EC.ret ?_
  exact EX.done (resc1 rfl rfl (lv_25 (q1.at (j := 0) rfl) (q1.at (j := 1) rfl))) ⟨⟨_, _, rfl, ⟨own_built (k := 3) (l := prtsC net3.ports) q2 rfl (by omega) bhbw_2, own_built (k := 3) (l := waysC net3.ways) q3 rfl (by omega) bhbw_3⟩⟩, hbw⟩
end Go.Proofs.Ytabgmnmpdjnjoaa
set_option linter.unusedVariables false
set_option linter.unusedSimpArgs false
namespace Go.Proofs.Ytabgmnmpdjnjoaa
open Go Go.RowKit
section
variable {n : Nat} {σ : Sg} {w : World} {dst : Option Tmp} {ty : TypeId} {pos : String} {af : Array Edge} {g : Option (Nat × Bool)} {x y z : Operand} {at' : Array TypeId}
theorem cl_37  (a : Act) (_ : Env n σ a) : (execOp a.eval ⟨dst, .call { callee := .value (.func 37), args := #[], argTypes := at' }, ty, pos, af, g⟩).run Try.prog w = .ok (.enter 37 #[]) w := by
  simp only [execOp, resolve, List.map_toArray, List.map_nil]
  simp [go_sem, Act.eval]
theorem bs_29_3 {x0 x1 x2 : Operand} {z0_0 z1_0 z2_0 : Int} (h0 : evS σ x0 = some (.int .i64 z0_0)) (h1 : evS σ x1 = some (.int .i64 z1_0)) (h2 : evS σ x2 = some (.int .i64 z2_0)) (a : Act) (ha : Env n σ a) : (execOp a.eval ⟨dst, .buildSlice 29 3 #[(0, x0), (1, x1), (2, x2)], ty, pos, af, g⟩).run Try.prog w = .ok (.value (.slice (some ⟨w.heap.size, 0, none⟩) 3 3)) (w.alloc (.cells #[.int .i64 z0_0, .int .i64 z1_0, .int .i64 z2_0] 3)) := by
  simp only [execOp, List.map_toArray, List.map_cons, List.map_nil, ha.eval h0, ha.eval h1, ha.eval h2]
  go_simp
theorem cl_32 {x0 x1 : Operand} {v0 v1 : Value} (h0 : evS σ x0 = some v0) (h1 : evS σ x1 = some v1) (a : Act) (ha : Env n σ a) : (execOp a.eval ⟨dst, .call { callee := .value (.func 32), args := #[x0, x1], argTypes := at' }, ty, pos, af, g⟩).run Try.prog w = .ok (.enter 32 #[v0, v1]) w := by
  simp only [execOp, resolve, List.map_toArray, List.map_cons, List.map_nil, ha.eval h0, ha.eval h1]
  simp [go_sem, Act.eval]
theorem cl_26 {x0 x1 : Operand} {v0 v1 : Value} (h0 : evS σ x0 = some v0) (h1 : evS σ x1 = some v1) (a : Act) (ha : Env n σ a) : (execOp a.eval ⟨dst, .call { callee := .value (.func 26), args := #[x0, x1], argTypes := at' }, ty, pos, af, g⟩).run Try.prog w = .ok (.enter 26 #[v0, v1]) w := by
  simp only [execOp, resolve, List.map_toArray, List.map_cons, List.map_nil, ha.eval h0, ha.eval h1]
  simp [go_sem, Act.eval]
theorem cl_23 {x0 : Operand} {v0 : Value} (h0 : evS σ x0 = some v0) (a : Act) (ha : Env n σ a) : (execOp a.eval ⟨dst, .call { callee := .value (.func 23), args := #[x0], argTypes := at' }, ty, pos, af, g⟩).run Try.prog w = .ok (.enter 23 #[v0]) w := by
  simp only [execOp, resolve, List.map_toArray, List.map_cons, List.map_nil, ha.eval h0]
  simp [go_sem, Act.eval]
end
end Go.Proofs.Ytabgmnmpdjnjoaa
set_option linter.unusedVariables false
set_option linter.unusedSimpArgs false
namespace Go.Proofs.Ytabgmnmpdjnjoaa
open Go Go.RowKit
theorem OwnNet.box {w w' : World} {base k T : Nat} {cs : Array Value} {vp vw : Value} {n : Net} (h : OwnNet w base vp vw n) (hq : Blk w k T cs) (h1 : Nat.beq T 47 = false) (h2 : Nat.beq T 56 = false) (hg : w.grownBy w' (some k)) : OwnNet w' base vp vw n := ⟨own_type h.ports hq h1 hg, own_type h.ways hq h2 hg⟩
set_option maxHeartbeats 1000000 in
set_option maxRecDepth 100000 in
theorem known_any (w : World) : Calls Try.prog 13 #[] w fun e w' => e = .returned (.bool true) ∧ Below w.heap.size w w' := by
  have hbw := Below.refl w.heap.size w
  refine EC.enter 103 Try.func13 rfl rfl rfl ?_
  refine EC.seq ?_
  refine EC.region ?_
  refine EL.val (x_assign rfl) rfl ?_
  refine EL.nil ?_
  refine EX.seq ?_
  refine EC.seq ?_
  refine EC.region ?_
  have sz_hbw := hbw.size
  refine EL.call cl_37 rfl (three_any _) ?_
  rintro e w1 ⟨⟨vp1, vw1, rfl, hn⟩, hc1⟩
  refine ⟨_, rfl, ?_⟩
  replace hbw := Below.on hbw hc1 hbw.size
  clear hc1
  refine EL.call (cl_15 rfl) rfl (move_any net3 _ _ _ _ hn.rd (Nat.le_refl _) (by decide) (by decide)) ?_
  rintro e w2 ⟨⟨vm, vr, ml, c, pr, e, rfl, hm, hrm, hrp⟩, hc2⟩
  refine ⟨_, rfl, ?_⟩
  obtain ⟨rfl, rfl, rfl, rfl⟩ := known_move hm
  obtain ⟨Am, cm_, rfl, _⟩ := hrm.shape
  obtain ⟨Ar, cr_, rfl, _⟩ := hrp.shape
  replace hbw := Below.on hbw hc2 hbw.size
  clear hc2
  have hbM := Below.refl w2.heap.size w2
  refine EL.val (x_move rfl) rfl ?_
  refine EL.val (x_extract rfl rfl) rfl ?_
  refine EL.val (x_extract rfl rfl) rfl ?_
  refine EL.val (x_extract rfl rfl) rfl ?_
  refine EL.val (x_extract rfl rfl) rfl ?_
  refine EL.val (x_assign rfl) rfl ?_
  refine EL.val (x_assign rfl) rfl ?_
  refine EL.val (x_assign rfl) rfl ?_
  refine EL.val (x_assign rfl) rfl ?_
  refine EL.nil ?_
  refine EX.seq ?_
  refine EC.seq ?_
  refine EC.region ?_
  have sz_hbw := hbw.size
  have sz_hbM := hbM.size
  refine EL.call cl_37 rfl (three_any _) ?_
  rintro e w3 ⟨⟨vp3, vw3, rfl, hn⟩, hc3⟩
  refine ⟨_, rfl, ?_⟩
  replace hbw := Below.on hbw hc3 hbw.size
  replace hbM := Below.on hbM hc3 hbM.size
  clear hc3
  refine EL.newS (bs_29_3 rfl rfl rfl) rfl ?_
  intro g4 w4 q4 hb4 hg4 hl4
  have bhbw_4 := Nat.le_trans hbw.size hg4
  have bhbM_4 := Nat.le_trans hbM.size hg4
  replace hn := hn.below hb4
  replace hbw := Below.on hbw hb4 hbw.size
  replace hbM := Below.on hbM hb4 hbM.size
  clear hb4 hg4 hl4
  refine EL.call (cl_32 rfl rfl) rfl (bound_any net3 _ _ _ _ hn.rd (Nat.le_refl _) (by decide) (by decide) [0, 150, 200] _ (rd_blk (k := 3) (l := ints [0, 150, 200]) q4 rfl) (by decide)) ?_
  rintro e w5 ⟨rfl, hc5⟩
  refine ⟨_, rfl, ?_⟩
  rw [known_bound.1, known_bound.2]
  replace hbw := Below.on hbw hc5 hbw.size
  replace hbM := Below.on hbM hc5 hbM.size
  clear hc5
  refine EL.val (x_move rfl) rfl ?_
  refine EL.val (x_extract rfl rfl) rfl ?_
  refine EL.val (x_extract rfl rfl) rfl ?_
  refine EL.val (x_assign rfl) rfl ?_
  refine EL.val (x_assign rfl) rfl ?_
  refine EL.nil ?_
  refine EX.seq ?_
  refine EC.seq ?_
  refine EC.region ?_
  have sz_hbw := hbw.size
  have sz_hbM := hbM.size
  refine EL.call cl_37 rfl (three_any _) ?_
  rintro e w6 ⟨⟨vp6, vw6, rfl, hn⟩, hc6⟩
  refine ⟨_, rfl, ?_⟩
  replace hbw := Below.on hbw hc6 hbw.size
  replace hbM := Below.on hbM hc6 hbM.size
  clear hc6
  refine EL.call (cl_26 rfl rfl) rfl (more_any net3 1 _ _ _ _ hn.rd (Nat.le_refl _) (by decide) (by decide)) ?_
  rintro e w7 ⟨⟨m_, e_, rfl, hmr⟩, hc7⟩
  refine ⟨_, rfl, ?_⟩
  obtain ⟨rfl, rfl⟩ := known_more hmr
  replace hbw := Below.on hbw hc7 hbw.size
  replace hbM := Below.on hbM hc7 hbM.size
  clear hc7
  refine EL.val (x_move rfl) rfl ?_
  refine EL.val (x_extract rfl rfl) rfl ?_
  refine EL.val (x_extract rfl rfl) rfl ?_
  refine EL.val (x_assign rfl) rfl ?_
  refine EL.val (x_assign rfl) rfl ?_
  refine EL.nil ?_
  refine EX.seq ?_
  refine EC.seq ?_
  refine EC.region ?_
  have sz_hbw := hbw.size
  have sz_hbM := hbM.size
  refine EL.call cl_37 rfl (three_any _) ?_
  rintro e w8 ⟨⟨vp8, vw8, rfl, hn⟩, hc8⟩
  refine ⟨_, rfl, ?_⟩
  replace hbw := Below.on hbw hc8 hbw.size
  replace hbM := Below.on hbM hc8 hbM.size
  clear hc8
  obtain ⟨Ap, cp_, ep_, _⟩ := (Rd.of_own hn.ports).shape
  have ep_ : vp8 = .slice Ap 3 cp_ := ep_
  subst ep_
  obtain ⟨gp, eg_⟩ := own_slice (m := 3) hn.ports (by omega)
  subst eg_
  obtain ⟨Aw, cw_, ew_, _⟩ := (Rd.of_own hn.ways).shape
  have ew_ : vw8 = .slice Aw 3 cw_ := ew_
  subst ew_
  refine EL.newP al_25 rfl ?_
  intro g9 w9 q9 hb9 hg9 hl9
  have bhbw_9 := Nat.le_trans hbw.size hg9
  have bhbM_9 := Nat.le_trans hbM.size hg9
  replace hn := hn.below hb9
  replace hbw := Below.on hbw hb9 hbw.size
  replace hbM := Below.on hbM hb9 hbM.size
  clear hb9 hg9 hl9
  refine EL.store rfl rfl q9 sz_25 rfl rfl rfl rfl ?_
  intro w10 hq10 hg10
  replace hn := hn.box q9 rfl rfl hg10
  replace hbw := below_store hbw hg10 bhbw_9
  replace hbM := below_store hbM hg10 bhbM_9
  replace q9 := hq10
  clear hg10 hq10
  refine EL.nil ?_
  refine EX.seq ?_
  refine EC.seq ?_
  refine EC.region ?_
  refine EL.val (fa_25_0 rfl) rfl ?_
  refine EL.val (ld_22 rfl (q9.at (j := 0) rfl)) rfl ?_
  refine EL.val (ix_22 (k := 2) rfl rfl (by omega)) rfl ?_
  refine EL.val (fa_47_1 rfl) rfl ?_
  have hnw := hn.ways
  refine EL.storeRow (l' := [.int .i64 8]) rfl rfl hn.ports sz_3 rfl rfl (by decide) rfl ?_
  intro w11 ho2 hgr
  have hn8 : OwnNet w11 w7.heap.size (.slice (some ⟨gp, 0, none⟩) 3 cp_) (.slice Aw 3 cw_) net8 := ⟨ho2, own_grown hnw hn.ports rfl hgr⟩
  replace q9 := blk_grown q9 hn.ports rfl hgr
  replace hbw := hbw.trans (below_row (own_less hn.ports sz_hbw) hgr hbw.size)
  replace hbM := hbM.trans (below_row (own_less hn.ports sz_hbM) hgr hbM.size)
  clear hn hnw ho2 hgr
  refine EL.nil ?_
  refine EX.seq ?_
  refine EC.seq ?_
  refine EC.region ?_
  refine EL.val (ld_25 rfl (q9.at (j := 0) rfl) (q9.at (j := 1) rfl)) rfl ?_
  refine EL.call (cl_23 rfl) rfl (lacks_any net8 _ _ _ _ hn8.rd (Nat.le_refl _) (by decide) (by decide)) ?_
  rintro e w12 ⟨⟨vl, ls, lack, e_, rfl, hlr, hrl⟩, hc12⟩
  refine ⟨_, rfl, ?_⟩
  obtain ⟨hl3, rfl, rfl⟩ := known_lacks hlr
  obtain ⟨Al, cl_, rfl, _⟩ := hrl.shape
  rw [hl3]
  replace q9 := q9.below hc12 q9.lt
  replace hbw := Below.on hbw hc12 hbw.size
  replace hbM := Below.on hbM hc12 hbM.size
  clear hc12
  refine EL.val (x_move rfl) rfl ?_
  refine EL.val (x_extract rfl rfl) rfl ?_
  refine EL.val (x_extract rfl rfl) rfl ?_
  refine EL.val (x_extract rfl rfl) rfl ?_
  refine EL.val (x_assign rfl) rfl ?_
  refine EL.val (x_assign rfl) rfl ?_
  refine EL.val (x_assign rfl) rfl ?_
  refine EL.nil ?_
  refine EX.seq ?_
  refine EC.seq ?_
  refine EC.seq ?_
  refine EC.region ?_
  refine EL.val (x_move rfl) rfl ?_
  refine EL.val (x_neq (r := false) rfl rfl (by decide)) rfl ?_
  refine EL.val (x_move rfl) rfl ?_
  refine EL.valg rfl rfl (x_move rfl) rfl ?_
  refine EL.valg rfl rfl (x_neq (r := false) rfl rfl (by decide)) rfl ?_
  refine EL.val (x_pick_f rfl rfl) rfl ?_
  refine EL.val (x_move rfl) rfl ?_
  refine EL.valg rfl rfl (x_move rfl) rfl ?_
  refine EL.valg rfl rfl (x_neq (r := false) rfl rfl (by decide)) rfl ?_
  refine EL.val (x_pick_f rfl rfl) rfl ?_
  refine EL.val (x_move rfl) rfl ?_
  refine EL.valg rfl rfl (x_move rfl) rfl ?_
  refine EL.valg rfl rfl (x_neq (r := false) rfl rfl (by decide)) rfl ?_
  refine EL.val (x_pick_f rfl rfl) rfl ?_
  refine EL.val (x_move rfl) rfl ?_
  refine EL.valg rfl rfl (x_move rfl) rfl ?_
  refine EL.valg rfl rfl (ln_29 rfl) rfl ?_
  refine EL.valg rfl rfl (x_neq (r := false) rfl rfl (by decide)) rfl ?_
  refine EL.val (x_pick_f rfl rfl) rfl ?_
  refine EL.val (x_move rfl) rfl ?_
  refine EL.valg rfl rfl (x_move rfl) rfl ?_
  refine EL.valg rfl rfl (ln_29 rfl) rfl ?_
  refine EL.valg rfl rfl (x_neq (r := false) rfl rfl (by decide)) rfl ?_
  refine EL.val (x_pick_f rfl rfl) rfl ?_
  refine EL.val (x_move rfl) rfl ?_
  refine EL.valg rfl rfl (x_move rfl) rfl ?_
  refine EL.valg rfl rfl (ln_29 rfl) rfl ?_
  refine EL.valg rfl rfl (x_neq (r := false) rfl rfl (by decide)) rfl ?_
  refine EL.val (x_pick_f rfl rfl) rfl ?_
  refine EL.nil ?_
  refine EX.seq ?_
  refine EC.no rfl ?_
  refine EC.skip ?_
  refine EX.seq ?_
  refine EC.seq ?_
  refine EC.region ?_
  obtain ⟨bm, om, em_, _, c0_⟩ := ints_cells [3, 4, 0] 0 (by decide) _ _ _ _ _ hrm
  obtain ⟨bm2, om2, em2_, _, c1_⟩ := ints_cells [3, 4, 0] 1 (by decide) _ _ _ _ _ hrm
  obtain ⟨br, or_, er_, _, c2_⟩ := ints_cells [0, 150, 200] 0 (by decide) _ _ _ _ _ hrp
  subst em_
  subst er_
  injection em2_ with em2_
  injection em2_ with e1_ e2_
  subst e1_
  subst e2_
  refine EL.val (x_move rfl) rfl ?_
  refine EL.val (x_eql (r := true) rfl rfl (by decide)) rfl ?_
  refine EL.val (x_move rfl) rfl ?_
  refine EL.valg rfl rfl (x_move rfl) rfl ?_
  refine EL.valg rfl rfl (x_eql (r := true) rfl rfl (by decide)) rfl ?_
  refine EL.val (x_pick_t rfl rfl) rfl ?_
  refine EL.val (x_move rfl) rfl ?_
  refine EL.valg rfl rfl (x_move rfl) rfl ?_
  refine EL.valg rfl rfl (x_eql (r := true) rfl rfl (by decide)) rfl ?_
  refine EL.val (x_pick_t rfl rfl) rfl ?_
  refine EL.val (x_move rfl) rfl ?_
  refine EL.valg rfl rfl (x_move rfl) rfl ?_
  refine EL.valg rfl rfl (x_eql (r := true) rfl rfl (by decide)) rfl ?_
  refine EL.val (x_pick_t rfl rfl) rfl ?_
  refine EL.val (x_move rfl) rfl ?_
  refine EL.valg rfl rfl (x_move rfl) rfl ?_
  refine EL.valg rfl rfl (ix_29 (k := 0) rfl rfl (by decide)) rfl ?_
  refine EL.valg rfl rfl (ld_3 rfl (below_load hbM c0_)) rfl ?_
  refine EL.valg rfl rfl (x_eql (r := true) rfl rfl (by decide)) rfl ?_
  refine EL.val (x_pick_t rfl rfl) rfl ?_
  refine EL.val (x_move rfl) rfl ?_
  refine EL.valg rfl rfl (x_move rfl) rfl ?_
  refine EL.valg rfl rfl (ix_29 (k := 1) rfl rfl (by decide)) rfl ?_
  refine EL.valg rfl rfl (ld_3 rfl (below_load hbM c1_)) rfl ?_
  refine EL.valg rfl rfl (x_eql (r := true) rfl rfl (by decide)) rfl ?_
  refine EL.val (x_pick_t rfl rfl) rfl ?_
  refine EL.val (x_move rfl) rfl ?_
  refine EL.valg rfl rfl (x_move rfl) rfl ?_
  refine EL.valg rfl rfl (ix_29 (k := 0) rfl rfl (by decide)) rfl ?_
  refine EL.valg rfl rfl (ld_3 rfl (below_load hbM c2_)) rfl ?_
  refine EL.valg rfl rfl (x_eql (r := true) rfl rfl (by decide)) rfl ?_
  refine EL.val (x_pick_t rfl rfl) rfl ?_
  refine EL.val (x_assign rfl) rfl ?_
  refine EL.nil ?_
  refine EX.seq ?_
  refine EC.ret ?_
  exact EX.done (res1 rfl rfl) ⟨rfl, hbw⟩
end Go.Proofs.Ytabgmnmpdjnjoaa
namespace Go.Proofs.Ytabgmnmpdjnjoaa
open Go Go.ChangeShapes Go.WideShapes Go.Deep Go.RowKit Go.Joins
theorem cell_spot {w : World} {x : Addr} {u : Value} (h : w.cell? x = some u) : x.spot = none ∧ x.block < w.heap.size := by
  unfold World.cell? at h
  split at h
  · rename_i c e f hg
    split at h
    · cases h
    · rename_i hs
      refine ⟨by simpa using hs, ?_⟩
      rcases Nat.lt_or_ge x.block w.heap.size with hlt | hge
      · exact hlt
      · rw [Array.getElem?_eq_none hge] at hg; cases hg
  · cases h
section
variable {H : Type} {enc : TypeId × Value → H} {P : Program} {w : World} {base : Nat} {spare : Nat → Bool} {held : Bool}
/-- rows of cells, one behind the other -/
theorem rd_of_cells {b off n c s : Nat} {B : Nat} (row : Nat → List Value) (hlen : ∀ i, (row i).length = s) (hs : 0 < s) (hB : b < B) (hnc : n ≤ c)
    (hcell : ∀ i, i < n → ∀ j u, (row i)[j]? = some u → w.cell? ⟨b, off + (i * s + j), none⟩ = some u) :
    Rd w B s (.slice (some ⟨b, off, none⟩) n c) n ((List.range n).flatMap row) := by
  refine ⟨by rw [flat_len hlen, List.length_range], _, _, rfl, hnc, fun _ => ⟨b, off, rfl, hB, fun q u hu => ?_⟩⟩
  have hq : q < n * s := by
    have := (List.getElem?_eq_some_iff.1 hu).1
    rwa [flat_len hlen, List.length_range] at this
  have hk : q / s < n := by
    rw [Nat.div_lt_iff_lt_mul hs]
    exact hq
  have e : q = q / s * s + q % s := by rw [Nat.mul_comm]; exact (Nat.div_add_mod q s).symm
  have hg := flat_get hlen (List.range n) (q / s) (by simpa using hk) (q % s) (Nat.mod_lt _ hs)
  rw [← e, List.getElem_range] at hg
  rw [hg] at hu
  have := hcell (q / s) hk (q % s) u hu
  rwa [← e] at this
theorem add_lit_more (x : Addr) (n : Nat) (h : x.spot = none) : x.add n = ⟨x.block, x.off + n, none⟩ := by
  obtain ⟨b, o, s⟩ := x
  subst h
  rw [Addr.add_lit]
/-- a slice, opened to its elements -/
theorem rd_list {α : Type} [Inhabited α] {f : α → List Value} {s : Nat} {Good : α → Prop} (hf : ∀ x, (f x).length = s) (hs : 0 < s) {t e : TypeId} {fuel : Nat} {v : Value} {x : DataW H × List MemPlace} (ht : P.underlying t = some (.slice e)) (hC : P.cellsOf e = s)
    (hE : ∀ (fuel : Nat) (cs : List Value) (x : DataW H × List MemPlace), cs.length = s → DataW.trod enc P w base spare held fuel e cs = some x → ∃ y : α, cs = f y ∧ Good y) (h : DataW.trod enc P w base spare held fuel t [v] = some x) :
    ∃ l : List α, Rd w w.heap.size s v l.length (l.flatMap f) ∧ (∀ y ∈ l, Good y) ∧ l.length ≤ maxLen := by
  rcases open_slice ht h with ⟨hcs, _⟩ | ⟨a, len, cap, m, n, D, Pl, hcs, _, hl, hcap, hm, _, hi⟩
  · injection hcs with hcs
    subst hcs
    exact ⟨[], Rd.nil_ _ _ _, by simp, Nat.zero_le _⟩
  · injection hcs with hcs
    subst hcs
    have hcell : ∀ i, i < len → ∃ y : α, (∀ j u, (f y)[j]? = some u → w.cell? (a.add (i * s + j)) = some u) ∧ Good y := by
      intro i hi'
      obtain ⟨cs', hc, ht'⟩ := hi i (by rw [hm]; split <;> omega)
      rw [hC] at hc
      obtain ⟨_, hcl, hat⟩ := World.cells?_some hc
      obtain ⟨y, hy, hg⟩ := hE _ cs' _ hcl ht'
      subst hy
      refine ⟨y, fun j u hu => ?_, hg⟩
      have hj : j < s := by
        have := (List.getElem?_eq_some_iff.1 hu).1
        rwa [hf] at this
      have h1 := hat j hj
      rw [Go.Deep.add_add] at h1
      rw [h1, hu]
    let pick : Nat → α := fun i => if h : i < len then Classical.choose (hcell i h) else default
    have hpick : ∀ i, (h : i < len) → (∀ j u, (f (pick i))[j]? = some u → w.cell? (a.add (i * s + j)) = some u) ∧ Good (pick i) := fun i h => by
      have := Classical.choose_spec (hcell i h)
      simp only [pick, dif_pos h]
      exact this
    refine ⟨(List.range len).map pick, ?_, ?_, by simp; omega⟩
    · rw [List.length_map, List.length_range]
      rcases Nat.eq_zero_or_pos len with hz | hz
      · subst hz
        exact ⟨by simp, _, _, rfl, hl, fun h => absurd h (by omega)⟩
      · have h0 := (hpick 0 hz).1 0 _ (List.getElem?_eq_getElem (by rw [hf]; exact hs))
        obtain ⟨hsp, hb⟩ := cell_spot h0
        have e0 : a.add (0 * s + 0) = a := by simp [Addr.add]
        rw [e0] at hsp hb
        have hx : a = ⟨a.block, a.off, none⟩ := by obtain ⟨b, o, s⟩ := a; subst hsp; rfl
        rw [hx, List.flatMap_map]
        refine rd_of_cells _ (fun i => hf _) hs hb hl fun i hi' j u hu => ?_
        have h1 := (hpick i hi').1 j u hu
        rw [add_lit_more a _ hsp] at h1
        exact h1
    · intro y hy
      obtain ⟨i, hi', rfl⟩ := List.mem_map.1 hy
      exact (hpick i (by simpa using hi')).2
theorem fld_of {fs : Array Field} {n : Nat} {cs : List Value} {ys : List (DataW H × List MemPlace)} (hf : ∀ (i : Nat) (f : Field), fs[i]? = some f → DataW.trod enc P w base spare held n f.type ((cs.drop f.offset).take (P.cellsOf f.type)) = ys[i]?)
    {j ft off z : Nat} {f : Field} (hj : fs[j]? = some f) (h1 : f.type = ft) (h2 : f.offset = off) (h3 : P.cellsOf ft = z) : DataW.trod enc P w base spare held n ft ((cs.drop off).take z) = ys[j]? := by
  subst h1 h2 h3
  exact hf j f hj
end
section
variable {H : Type} {enc : TypeId × Value → H} {w : World} {base : Nat} {spare : Nat → Bool} {held : Bool}
theorem co_3 : Try.prog.cellsOf 3 = 1 := by kernel_rfl
set_option maxRecDepth 100000 in
theorem cells_47 {fuel : Nat} {cs : List Value} {x : DataW H × List MemPlace} (hl : cs.length = 2) (h : DataW.trod enc Try.prog w base spare held fuel 47 cs = some x) : ∃ (z0 : Int) (z1 : Int), cs = [.int .i64 z0, .int .i64 z1] := by
  obtain ⟨ys, n, _, _, _, hyl, hf⟩ := DataW.trod_struct Try.underlying47 h
  match cs, hl with
  | [u0, u1], _ =>
    match ys, hyl with
    | [y0, y1], _ =>
      have q0 : DataW.trod enc Try.prog w base spare held n 3 [u0] = some y0 := fld_of hf (j := 0) rfl rfl rfl co_3
      obtain ⟨z0, hz0, _, _⟩ := DataW.trod_int Try.underlying3 q0
      injection hz0 with hz0
      subst hz0
      have q1 : DataW.trod enc Try.prog w base spare held n 3 [u1] = some y1 := fld_of hf (j := 1) rfl rfl rfl co_3
      obtain ⟨z1, hz1, _, _⟩ := DataW.trod_int Try.underlying3 q1
      injection hz1 with hz1
      subst hz1
      exact ⟨z0, z1, rfl⟩
theorem co_47 : Try.prog.cellsOf 47 = 2 := by kernel_rfl
set_option maxRecDepth 100000 in
theorem cells_56 {fuel : Nat} {cs : List Value} {x : DataW H × List MemPlace} (hl : cs.length = 4) (h : DataW.trod enc Try.prog w base spare held fuel 56 cs = some x) : ∃ (z0 : Int) (z1 : Int) (z2 : Int) (z3 : Int), cs = [.int .i64 z0, .int .i64 z1, .int .i64 z2, .int .i64 z3] := by
  obtain ⟨ys, n, _, _, _, hyl, hf⟩ := DataW.trod_struct Try.underlying56 h
  match cs, hl with
  | [u0, u1, u2, u3], _ =>
    match ys, hyl with
    | [y0, y1, y2, y3], _ =>
      have q0 : DataW.trod enc Try.prog w base spare held n 3 [u0] = some y0 := fld_of hf (j := 0) rfl rfl rfl co_3
      obtain ⟨z0, hz0, _, _⟩ := DataW.trod_int Try.underlying3 q0
      injection hz0 with hz0
      subst hz0
      have q1 : DataW.trod enc Try.prog w base spare held n 3 [u1] = some y1 := fld_of hf (j := 1) rfl rfl rfl co_3
      obtain ⟨z1, hz1, _, _⟩ := DataW.trod_int Try.underlying3 q1
      injection hz1 with hz1
      subst hz1
      have q2 : DataW.trod enc Try.prog w base spare held n 3 [u2] = some y2 := fld_of hf (j := 2) rfl rfl rfl co_3
      obtain ⟨z2, hz2, _, _⟩ := DataW.trod_int Try.underlying3 q2
      injection hz2 with hz2
      subst hz2
      have q3 : DataW.trod enc Try.prog w base spare held n 3 [u3] = some y3 := fld_of hf (j := 3) rfl rfl rfl co_3
      obtain ⟨z3, hz3, _, _⟩ := DataW.trod_int Try.underlying3 q3
      injection hz3 with hz3
      subst hz3
      exact ⟨z0, z1, z2, z3, rfl⟩
theorem co_56 : Try.prog.cellsOf 56 = 4 := by kernel_rfl
theorem co_22 : Try.prog.cellsOf 22 = 1 := by kernel_rfl
theorem co_23 : Try.prog.cellsOf 23 = 1 := by kernel_rfl
set_option maxRecDepth 100000 in
theorem cells_25 {fuel : Nat} {cs : List Value} {x : DataW H × List MemPlace} (hl : cs.length = 2) (h : DataW.trod enc Try.prog w base spare held fuel 25 cs = some x) : ∃ (v0 : Value) (v1 : Value), cs = [v0, v1] ∧ (∃ n x, DataW.trod enc Try.prog w base spare held n 22 [v0] = some x) ∧ (∃ n x, DataW.trod enc Try.prog w base spare held n 23 [v1] = some x) := by
  obtain ⟨ys, n, _, _, _, hyl, hf⟩ := DataW.trod_struct Try.underlying25 h
  match cs, hl with
  | [u0, u1], _ =>
    match ys, hyl with
    | [y0, y1], _ =>
      have q0 : DataW.trod enc Try.prog w base spare held n 22 [u0] = some y0 := fld_of hf (j := 0) rfl rfl rfl co_22
      have q1 : DataW.trod enc Try.prog w base spare held n 23 [u1] = some y1 := fld_of hf (j := 1) rfl rfl rfl co_23
      exact ⟨u0, u1, rfl, ⟨_, _, q0⟩, ⟨_, _, q1⟩⟩
theorem co_25 : Try.prog.cellsOf 25 = 2 := by kernel_rfl
theorem cells_len_25 {fuel : Nat} {v : Value} {x : DataW H × List MemPlace} (h : DataW.trod enc Try.prog w base spare held fuel 25 v.cells.toList = some x) : v.cells.toList.length = 2 := by
  obtain ⟨_, _, _, _, hlen, _, _⟩ := DataW.trod_struct Try.underlying25 h
  rw [hlen]
  exact co_25
instance : Inhabited Prt := ⟨prt0⟩
instance : Inhabited Way := ⟨way0⟩
theorem rd_prts {fuel : Nat} {v : Value} {x : DataW H × List MemPlace} (h : DataW.trod enc Try.prog w base spare held fuel 22 [v] = some x) : ∃ l : List Prt, Rd w w.heap.size 2 v l.length (prtsC l) ∧ l.length ≤ maxLen := by
  obtain ⟨l, h1, _, h2⟩ := rd_list (f := prtC) (Good := fun _ => True) prtC_len (by omega) Try.underlying22 co_47 (fun _ cs _ hl ht => by
    obtain ⟨a, b, rfl⟩ := cells_47 hl ht
    exact ⟨⟨a, b⟩, rfl, trivial⟩) h
  exact ⟨l, h1, h2⟩
theorem rd_ways {fuel : Nat} {v : Value} {x : DataW H × List MemPlace} (h : DataW.trod enc Try.prog w base spare held fuel 23 [v] = some x) : ∃ l : List Way, Rd w w.heap.size 4 v l.length (waysC l) ∧ l.length ≤ maxLen := by
  obtain ⟨l, h1, _, h2⟩ := rd_list (f := wayC) (Good := fun _ => True) wayC_len (by omega) Try.underlying23 co_56 (fun _ cs _ hl ht => by
    obtain ⟨a, b, c, d, rfl⟩ := cells_56 hl ht
    exact ⟨⟨a, b, c, d⟩, rfl, trivial⟩) h
  exact ⟨l, h1, h2⟩
theorem net_of {v : Value} {d : DataW H} {p : List MemPlace} (h : DataW.Trod enc Try.prog w base spare held 25 v d p) : ∃ (nt : Net) (vp vw : Value), v = .agg #[vp, vw] ∧ RdNet w w.heap.size vp vw nt ∧ nt.ports.length ≤ maxLen ∧ nt.ways.length ≤ maxLen := by
  obtain ⟨fuel, hf⟩ := h
  obtain ⟨a, b, he, ⟨_, _, ha⟩, ⟨_, _, hb⟩⟩ := cells_25 (cells_len_25 hf) hf
  obtain ⟨l, h1, h2⟩ := rd_prts ha
  obtain ⟨m, h3, h4⟩ := rd_ways hb
  refine ⟨⟨l, m⟩, a, b, ?_, ⟨h1, h3⟩, h2, h4⟩
  cases v with
    | agg cs =>
      have : cs = #[a, b] := by
        apply Array.ext'
        simpa [Value.cells] using he
      rw [this]
    | _ => simp [Value.cells] at he
end
end Go.Proofs.Ytabgmnmpdjnjoaa
set_option linter.unusedVariables false
set_option linter.unusedSimpArgs false
namespace Go.Proofs.Ytabgmnmpdjnjoaa
open Go Go.RowKit
section
variable {n : Nat} {σ : Sg} {w : World} {dst : Option Tmp} {ty : TypeId} {pos : String} {af : Array Edge} {g : Option (Nat × Bool)} {x y z : Operand} {at' : Array TypeId}
theorem cl_42 {x0 x1 x2 : Operand} {v0 v1 v2 : Value} (h0 : evS σ x0 = some v0) (h1 : evS σ x1 = some v1) (h2 : evS σ x2 = some v2) (a : Act) (ha : Env n σ a) : (execOp a.eval ⟨dst, .call { callee := .value (.func 42), args := #[x0, x1, x2], argTypes := at' }, ty, pos, af, g⟩).run Try.prog w = .ok (.enter 42 #[v0, v1, v2]) w := by
  simp only [execOp, resolve, List.map_toArray, List.map_cons, List.map_nil, ha.eval h0, ha.eval h1, ha.eval h2]
  simp [go_sem, Act.eval]
theorem cl_43 {x0 : Operand} {v0 : Value} (h0 : evS σ x0 = some v0) (a : Act) (ha : Env n σ a) : (execOp a.eval ⟨dst, .call { callee := .value (.func 43), args := #[x0], argTypes := at' }, ty, pos, af, g⟩).run Try.prog w = .ok (.enter 43 #[v0]) w := by
  simp only [execOp, resolve, List.map_toArray, List.map_cons, List.map_nil, ha.eval h0]
  simp [go_sem, Act.eval]
theorem cl_44 {x0 x1 : Operand} {v0 v1 : Value} (h0 : evS σ x0 = some v0) (h1 : evS σ x1 = some v1) (a : Act) (ha : Env n σ a) : (execOp a.eval ⟨dst, .call { callee := .value (.func 44), args := #[x0, x1], argTypes := at' }, ty, pos, af, g⟩).run Try.prog w = .ok (.enter 44 #[v0, v1]) w := by
  simp only [execOp, resolve, List.map_toArray, List.map_cons, List.map_nil, ha.eval h0, ha.eval h1]
  simp [go_sem, Act.eval]
end
end Go.Proofs.Ytabgmnmpdjnjoaa
set_option linter.unusedVariables false
set_option linter.unusedSimpArgs false
namespace Go.Proofs.Ytabgmnmpdjnjoaa
open Go Go.RowKit
theorem rin_any {n lo hi : Int} {b : Bool} (w : World) (h : inB lo hi n = b) :
    Calls Try.prog 42 #[.int .i64 n, .int .i64 lo, .int .i64 hi] w fun e w' => e = .returned (.bool b) ∧ Below w.heap.size w w' := by
  have hbw := Below.refl w.heap.size w
  refine EC.enter 15 Try.func42 rfl rfl rfl ?_
  refine EC.seq ?_
  refine EC.region ?_
  refine EL.val (x_assign rfl) rfl ?_
  refine EL.nil ?_
  refine EX.seq ?_
  refine EC.seq ?_
  refine EC.region ?_
  refine EL.val (x_move rfl) rfl ?_
  refine EL.val (x_move rfl) rfl ?_
  by_cases h1 : lo ≤ n
  ·
    refine EL.val (x_geq rfl rfl (by first | assumption | exact decide_eq_true (by omega))) rfl ?_
    refine EL.val (x_move rfl) rfl ?_
    refine EL.valg rfl rfl (x_move rfl) rfl ?_
    refine EL.valg rfl rfl (x_move rfl) rfl ?_
    by_cases h2 : n ≤ hi
    ·
      refine EL.valg rfl rfl (x_leq rfl rfl (by first | assumption | exact decide_eq_true (by omega))) rfl ?_
      refine EL.val (x_pick_t rfl rfl) rfl ?_
      refine EL.val (x_assign rfl) rfl ?_
      refine EL.nil ?_
      refine EX.seq ?_
      refine EC.ret ?_
      exact EX.done (res1 rfl rfl) ⟨by congr 2; rw [← h]; symm; first | (rw [inB_iff]; omega) | (rw [inB_not]; omega), hbw⟩
    ·
      refine EL.valg rfl rfl (x_leq rfl rfl (by first | assumption | exact decide_eq_false (by omega))) rfl ?_
      refine EL.val (x_pick_t rfl rfl) rfl ?_
      refine EL.val (x_assign rfl) rfl ?_
      refine EL.nil ?_
      refine EX.seq ?_
      refine EC.ret ?_
      exact EX.done (res1 rfl rfl) ⟨by congr 2; rw [← h]; symm; first | (rw [inB_iff]; omega) | (rw [inB_not]; omega), hbw⟩
  ·
    refine EL.val (x_geq rfl rfl (by first | assumption | exact decide_eq_false (by omega))) rfl ?_
    refine EL.val (x_move rfl) rfl ?_
    refine EL.skip rfl rfl rfl rfl ?_
    refine EL.skip rfl rfl rfl rfl ?_
    refine EL.skip rfl rfl rfl rfl ?_
    refine EL.val (x_pick_f rfl rfl) rfl ?_
    refine EL.val (x_assign rfl) rfl ?_
    refine EL.nil ?_
    refine EX.seq ?_
    refine EC.ret ?_
    exact EX.done (res1 rfl rfl) ⟨by congr 2; rw [← h]; symm; first | (rw [inB_iff]; omega) | (rw [inB_not]; omega), hbw⟩
theorem rport_any {p : Prt} {b : Bool} (w : World) (h : prtB p = b) :
    Calls Try.prog 43 #[.agg #[.int .i64 p.has, .int .i64 p.wants]] w fun e w' => e = .returned (.bool b) ∧ Below w.heap.size w w' := by
  have hbw := Below.refl w.heap.size w
  refine EC.enter 11 Try.func43 rfl rfl rfl ?_
  refine EC.seq ?_
  refine EC.region ?_
  refine EL.newP (bx_47 rfl) rfl ?_
  intro g1 w1 q1 hb1 hg1 hl1
  have bhbw_1 := Nat.le_trans hbw.size hg1
  replace hbw := Below.on hbw hb1 hbw.size
  clear hb1 hg1 hl1
  refine EL.val (x_assign rfl) rfl ?_
  refine EL.nil ?_
  refine EX.seq ?_
  refine EC.seq ?_
  refine EC.region ?_
  refine EL.val (fa_47_0 rfl) rfl ?_
  refine EL.val (ld_3 rfl (q1.at (j := 0) rfl)) rfl ?_
  cases h1 : inB 0 1000 p.has
  ·
    refine EL.call (cl_42 rfl rfl rfl) rfl (rin_any _ h1) ?_
    rintro e w2 ⟨rfl, hc2⟩
    refine ⟨_, rfl, ?_⟩
    replace q1 := q1.below hc2 q1.lt
    replace hbw := Below.on hbw hc2 hbw.size
    clear hc2
    refine EL.val (x_move rfl) rfl ?_
    refine EL.skip rfl rfl rfl rfl ?_
    refine EL.skip rfl rfl rfl rfl ?_
    refine EL.skip rfl rfl rfl rfl ?_
    refine EL.val (x_pick_f rfl rfl) rfl ?_
    refine EL.val (x_assign rfl) rfl ?_
    refine EL.nil ?_
    refine EX.seq ?_
    refine EC.ret ?_
    exact EX.done (res1 rfl rfl) ⟨by rw [← h]; simp [prtB, *], hbw⟩
  ·
    refine EL.call (cl_42 rfl rfl rfl) rfl (rin_any _ h1) ?_
    rintro e w3 ⟨rfl, hc3⟩
    refine ⟨_, rfl, ?_⟩
    replace q1 := q1.below hc3 q1.lt
    replace hbw := Below.on hbw hc3 hbw.size
    clear hc3
    refine EL.val (x_move rfl) rfl ?_
    refine EL.valg rfl rfl (fa_47_1 rfl) rfl ?_
    refine EL.valg rfl rfl (ld_3 rfl (q1.at (j := 1) rfl)) rfl ?_
    cases h2 : inB 0 1000 p.wants
    ·
      refine EL.callg rfl rfl (cl_42 rfl rfl rfl) rfl (rin_any _ h2) ?_
      rintro e w4 ⟨rfl, hc4⟩
      refine ⟨_, rfl, ?_⟩
      replace q1 := q1.below hc4 q1.lt
      replace hbw := Below.on hbw hc4 hbw.size
      clear hc4
      refine EL.val (x_pick_t rfl rfl) rfl ?_
      refine EL.val (x_assign rfl) rfl ?_
      refine EL.nil ?_
      refine EX.seq ?_
      refine EC.ret ?_
      exact EX.done (res1 rfl rfl) ⟨by rw [← h]; simp [prtB, *], hbw⟩
    ·
      refine EL.callg rfl rfl (cl_42 rfl rfl rfl) rfl (rin_any _ h2) ?_
      rintro e w5 ⟨rfl, hc5⟩
      refine ⟨_, rfl, ?_⟩
      replace q1 := q1.below hc5 q1.lt
      replace hbw := Below.on hbw hc5 hbw.size
      clear hc5
      refine EL.val (x_pick_t rfl rfl) rfl ?_
      refine EL.val (x_assign rfl) rfl ?_
      refine EL.nil ?_
      refine EX.seq ?_
      refine EC.ret ?_
      exact EX.done (res1 rfl rfl) ⟨by rw [← h]; simp [prtB, *], hbw⟩
theorem rway_any {n : Nat} {x : Way} {b : Bool} (w : World) (hn : n ≤ 1073741824) (h : wayB n x = b) :
    Calls Try.prog 44 #[.agg #[.int .i64 x.fr, .int .i64 x.to, .int .i64 x.cost, .int .i64 x.room], .int .i64 (n : Nat)] w fun e w' => e = .returned (.bool b) ∧ Below w.heap.size w w' := by
  have hbw := Below.refl w.heap.size w
  refine EC.enter 34 Try.func44 rfl rfl rfl ?_
  refine EC.seq ?_
  refine EC.region ?_
  refine EL.newP (bx_56 rfl) rfl ?_
  intro g1 w1 q1 hb1 hg1 hl1
  have bhbw_1 := Nat.le_trans hbw.size hg1
  replace hbw := Below.on hbw hb1 hbw.size
  clear hb1 hg1 hl1
  refine EL.val (x_assign rfl) rfl ?_
  refine EL.nil ?_
  refine EX.seq ?_
  refine EC.seq ?_
  refine EC.region ?_
  refine EL.val (fa_56_0 rfl) rfl ?_
  refine EL.val (ld_3 rfl (q1.at (j := 0) rfl)) rfl ?_
  refine EL.val (x_move rfl) rfl ?_
  refine EL.val (x_sub rfl rfl (c := ((n : Nat) : Int) - 1) (IntWalk.i64_in _ ⟨by omega, by omega⟩)) rfl ?_
  cases h1 : inB 0 (((n : Nat) : Int) - 1) x.fr
  ·
    refine EL.call (cl_42 rfl rfl rfl) rfl (rin_any _ h1) ?_
    rintro e w2 ⟨rfl, hc2⟩
    refine ⟨_, rfl, ?_⟩
    replace q1 := q1.below hc2 q1.lt
    replace hbw := Below.on hbw hc2 hbw.size
    clear hc2
    refine EL.val (x_move rfl) rfl ?_
    refine EL.skip rfl rfl rfl rfl ?_
    refine EL.skip rfl rfl rfl rfl ?_
    refine EL.skip rfl rfl rfl rfl ?_
    refine EL.skip rfl rfl rfl rfl ?_
    refine EL.skip rfl rfl rfl rfl ?_
    refine EL.val (x_pick_f rfl rfl) rfl ?_
    refine EL.val (x_move rfl) rfl ?_
    refine EL.skip rfl rfl rfl rfl ?_
    refine EL.skip rfl rfl rfl rfl ?_
    refine EL.skip rfl rfl rfl rfl ?_
    refine EL.skip rfl rfl rfl rfl ?_
    refine EL.skip rfl rfl rfl rfl ?_
    refine EL.val (x_pick_f rfl rfl) rfl ?_
    refine EL.val (x_move rfl) rfl ?_
    refine EL.skip rfl rfl rfl rfl ?_
    refine EL.skip rfl rfl rfl rfl ?_
    refine EL.skip rfl rfl rfl rfl ?_
    refine EL.val (x_pick_f rfl rfl) rfl ?_
    refine EL.val (x_move rfl) rfl ?_
    refine EL.skip rfl rfl rfl rfl ?_
    refine EL.skip rfl rfl rfl rfl ?_
    refine EL.skip rfl rfl rfl rfl ?_
    refine EL.val (x_pick_f rfl rfl) rfl ?_
    refine EL.val (x_assign rfl) rfl ?_
    refine EL.nil ?_
    refine EX.seq ?_
    refine EC.ret ?_
    exact EX.done (res1 rfl rfl) ⟨by rw [← h]; simp [wayB, *], hbw⟩
  ·
    refine EL.call (cl_42 rfl rfl rfl) rfl (rin_any _ h1) ?_
    rintro e w3 ⟨rfl, hc3⟩
    refine ⟨_, rfl, ?_⟩
    replace q1 := q1.below hc3 q1.lt
    replace hbw := Below.on hbw hc3 hbw.size
    clear hc3
    refine EL.val (x_move rfl) rfl ?_
    refine EL.valg rfl rfl (fa_56_1 rfl) rfl ?_
    refine EL.valg rfl rfl (ld_3 rfl (q1.at (j := 1) rfl)) rfl ?_
    refine EL.valg rfl rfl (x_move rfl) rfl ?_
    refine EL.valg rfl rfl (x_sub rfl rfl (c := ((n : Nat) : Int) - 1) (IntWalk.i64_in _ ⟨by omega, by omega⟩)) rfl ?_
    cases h2 : inB 0 (((n : Nat) : Int) - 1) x.to
    ·
      refine EL.callg rfl rfl (cl_42 rfl rfl rfl) rfl (rin_any _ h2) ?_
      rintro e w4 ⟨rfl, hc4⟩
      refine ⟨_, rfl, ?_⟩
      replace q1 := q1.below hc4 q1.lt
      replace hbw := Below.on hbw hc4 hbw.size
      clear hc4
      refine EL.val (x_pick_t rfl rfl) rfl ?_
      refine EL.val (x_move rfl) rfl ?_
      refine EL.skip rfl rfl rfl rfl ?_
      refine EL.skip rfl rfl rfl rfl ?_
      refine EL.skip rfl rfl rfl rfl ?_
      refine EL.skip rfl rfl rfl rfl ?_
      refine EL.skip rfl rfl rfl rfl ?_
      refine EL.val (x_pick_f rfl rfl) rfl ?_
      refine EL.val (x_move rfl) rfl ?_
      refine EL.skip rfl rfl rfl rfl ?_
      refine EL.skip rfl rfl rfl rfl ?_
      refine EL.skip rfl rfl rfl rfl ?_
      refine EL.val (x_pick_f rfl rfl) rfl ?_
      refine EL.val (x_move rfl) rfl ?_
      refine EL.skip rfl rfl rfl rfl ?_
      refine EL.skip rfl rfl rfl rfl ?_
      refine EL.skip rfl rfl rfl rfl ?_
      refine EL.val (x_pick_f rfl rfl) rfl ?_
      refine EL.val (x_assign rfl) rfl ?_
      refine EL.nil ?_
      refine EX.seq ?_
      refine EC.ret ?_
      exact EX.done (res1 rfl rfl) ⟨by rw [← h]; simp [wayB, *], hbw⟩
    ·
      refine EL.callg rfl rfl (cl_42 rfl rfl rfl) rfl (rin_any _ h2) ?_
      rintro e w5 ⟨rfl, hc5⟩
      refine ⟨_, rfl, ?_⟩
      replace q1 := q1.below hc5 q1.lt
      replace hbw := Below.on hbw hc5 hbw.size
      clear hc5
      refine EL.val (x_pick_t rfl rfl) rfl ?_
      refine EL.val (x_move rfl) rfl ?_
      refine EL.valg rfl rfl (fa_56_0 rfl) rfl ?_
      refine EL.valg rfl rfl (ld_3 rfl (q1.at (j := 0) rfl)) rfl ?_
      refine EL.valg rfl rfl (fa_56_1 rfl) rfl ?_
      refine EL.valg rfl rfl (ld_3 rfl (q1.at (j := 1) rfl)) rfl ?_
      by_cases h3 : x.fr ≠ x.to
      ·
        refine EL.valg rfl rfl (x_neq rfl rfl (by first | assumption | exact decide_eq_true (by omega))) rfl ?_
        refine EL.val (x_pick_t rfl rfl) rfl ?_
        refine EL.val (x_move rfl) rfl ?_
        refine EL.valg rfl rfl (fa_56_2 rfl) rfl ?_
        refine EL.valg rfl rfl (ld_3 rfl (q1.at (j := 2) rfl)) rfl ?_
        cases h4 : inB 0 1000000 x.cost
        ·
          refine EL.callg rfl rfl (cl_42 rfl rfl rfl) rfl (rin_any _ h4) ?_
          rintro e w6 ⟨rfl, hc6⟩
          refine ⟨_, rfl, ?_⟩
          replace q1 := q1.below hc6 q1.lt
          replace hbw := Below.on hbw hc6 hbw.size
          clear hc6
          refine EL.val (x_pick_t rfl rfl) rfl ?_
          refine EL.val (x_move rfl) rfl ?_
          refine EL.skip rfl rfl rfl rfl ?_
          refine EL.skip rfl rfl rfl rfl ?_
          refine EL.skip rfl rfl rfl rfl ?_
          refine EL.val (x_pick_f rfl rfl) rfl ?_
          refine EL.val (x_assign rfl) rfl ?_
          refine EL.nil ?_
          refine EX.seq ?_
          refine EC.ret ?_
          exact EX.done (res1 rfl rfl) ⟨by rw [← h]; simp [wayB, *], hbw⟩
        ·
          refine EL.callg rfl rfl (cl_42 rfl rfl rfl) rfl (rin_any _ h4) ?_
          rintro e w7 ⟨rfl, hc7⟩
          refine ⟨_, rfl, ?_⟩
          replace q1 := q1.below hc7 q1.lt
          replace hbw := Below.on hbw hc7 hbw.size
          clear hc7
          refine EL.val (x_pick_t rfl rfl) rfl ?_
          refine EL.val (x_move rfl) rfl ?_
          refine EL.valg rfl rfl (fa_56_3 rfl) rfl ?_
          refine EL.valg rfl rfl (ld_3 rfl (q1.at (j := 3) rfl)) rfl ?_
          cases h5 : inB 0 1000 x.room
          ·
            refine EL.callg rfl rfl (cl_42 rfl rfl rfl) rfl (rin_any _ h5) ?_
            rintro e w8 ⟨rfl, hc8⟩
            refine ⟨_, rfl, ?_⟩
            replace q1 := q1.below hc8 q1.lt
            replace hbw := Below.on hbw hc8 hbw.size
            clear hc8
            refine EL.val (x_pick_t rfl rfl) rfl ?_
            refine EL.val (x_assign rfl) rfl ?_
            refine EL.nil ?_
            refine EX.seq ?_
            refine EC.ret ?_
            exact EX.done (res1 rfl rfl) ⟨by rw [← h]; simp [wayB, *], hbw⟩
          ·
            refine EL.callg rfl rfl (cl_42 rfl rfl rfl) rfl (rin_any _ h5) ?_
            rintro e w9 ⟨rfl, hc9⟩
            refine ⟨_, rfl, ?_⟩
            replace q1 := q1.below hc9 q1.lt
            replace hbw := Below.on hbw hc9 hbw.size
            clear hc9
            refine EL.val (x_pick_t rfl rfl) rfl ?_
            refine EL.val (x_assign rfl) rfl ?_
            refine EL.nil ?_
            refine EX.seq ?_
            refine EC.ret ?_
            exact EX.done (res1 rfl rfl) ⟨by rw [← h]; simp [wayB, *], hbw⟩
      ·
        refine EL.valg rfl rfl (x_neq rfl rfl (by first | assumption | exact decide_eq_false (by omega))) rfl ?_
        refine EL.val (x_pick_t rfl rfl) rfl ?_
        refine EL.val (x_move rfl) rfl ?_
        refine EL.skip rfl rfl rfl rfl ?_
        refine EL.skip rfl rfl rfl rfl ?_
        refine EL.skip rfl rfl rfl rfl ?_
        refine EL.val (x_pick_f rfl rfl) rfl ?_
        refine EL.val (x_move rfl) rfl ?_
        refine EL.skip rfl rfl rfl rfl ?_
        refine EL.skip rfl rfl rfl rfl ?_
        refine EL.skip rfl rfl rfl rfl ?_
        refine EL.val (x_pick_f rfl rfl) rfl ?_
        refine EL.val (x_assign rfl) rfl ?_
        refine EL.nil ?_
        refine EX.seq ?_
        refine EC.ret ?_
        exact EX.done (res1 rfl rfl) ⟨by rw [← h]; simp [wayB, *], hbw⟩
section
variable {nt : Net}
theorem net_a (h : inB 1 60 ((nt.ports.length : Nat) : Int) = false) : netB nt = false := by
  cases e : netB nt with
  | false => rfl
  | true =>
    obtain ⟨⟨h1, h2⟩, _⟩ := netB_ok e
    rw [inB_iff.2 ⟨by omega, by omega⟩] at h
    cases h
theorem net_b (h : 300 < nt.ways.length) : netB nt = false := by
  cases e : netB nt with
  | false => rfl
  | true => obtain ⟨_, h2, _⟩ := netB_ok e; omega
theorem net_parts (h : netB nt = true) : nt.ports.all prtB = true ∧ nt.ways.all (wayB nt.ports.length) = true := by
  simp only [netB, Bool.and_eq_true] at h
  exact h.2.2.2
theorem net_c {i : Nat} (hi : i < nt.ports.length) (h : prtB (nt.ports.getD i prt0) = false) : netB nt = false := by
  cases e : netB nt with
  | false => rfl
  | true =>
    have := List.all_eq_true.1 (net_parts e).1 _ (List.getElem_mem hi)
    rw [getD_in hi, this] at h
    cases h
theorem net_d {i : Nat} (hi : i < nt.ways.length) (h : wayB nt.ports.length (nt.ways.getD i way0) = false) : netB nt = false := by
  cases e : netB nt with
  | false => rfl
  | true =>
    have := List.all_eq_true.1 (net_parts e).2 _ (List.getElem_mem hi)
    rw [getD_in hi, this] at h
    cases h
theorem net_e (h1 : inB 1 60 ((nt.ports.length : Nat) : Int) = true) (h2 : ¬300 < nt.ways.length) (h3 : nt.ports.all prtB = true) (h4 : nt.ways.all (wayB nt.ports.length) = true) : netB nt = true := by
  have := inB_iff.1 h1
  simp only [netB, Bool.and_eq_true, decide_eq_true_eq]
  exact ⟨by omega, by omega, by omega, h3, h4⟩
theorem allP_take {l : List Prt} {p : Prt → Bool} {x : Nat} (hx : x < l.length) (h : (l.take x).all p = true) (h2 : p (l.getD x prt0) = true) : (l.take (x + 1)).all p = true := by
  rw [List.take_succ_eq_append_getElem hx, List.all_append, h, show l[x] = l.getD x prt0 by simp [hx]]
  simp only [List.all_cons, List.all_nil, Bool.and_true, Bool.true_and]
  exact h2
theorem allW_take {l : List Way} {p : Way → Bool} {x : Nat} (hx : x < l.length) (h : (l.take x).all p = true) (h2 : p (l.getD x way0) = true) : (l.take (x + 1)).all p = true := by
  rw [List.take_succ_eq_append_getElem hx, List.all_append, h, show l[x] = l.getD x way0 by simp [hx]]
  simp only [List.all_cons, List.all_nil, Bool.and_true, Bool.true_and]
  exact h2
end
set_option maxRecDepth 100000 in
theorem rnet_any (nt : Net) (vp vw : Value) (w : World) (B : Nat) (hr : RdNet w B vp vw nt) (hB : B ≤ w.heap.size) (hn1 : nt.ports.length ≤ 1073741824) (hn2 : nt.ways.length ≤ 1073741824) :
    Calls Try.prog 17 #[.agg #[vp, vw]] w fun e w' => e = .returned (.bool (netB nt)) ∧ Below w.heap.size w w' := by
  obtain ⟨Ap, cp_, rfl, _⟩ := hr.ports.shape
  obtain ⟨Aw, cw_, rfl, _⟩ := hr.ways.shape
  have hbw := Below.refl w.heap.size w
  refine EC.enter 47 Try.func17 rfl rfl rfl ?_
  refine EC.seq ?_
  refine EC.region ?_
  refine EL.newP (bx_25 rfl) rfl ?_
  intro g1 w1 q1 hb1 hg1 hl1
  have bhbw_1 := Nat.le_trans hbw.size hg1
  replace hbw := Below.on hbw hb1 hbw.size
  clear hb1 hg1 hl1
  refine EL.val (x_assign rfl) rfl ?_
  refine EL.nil ?_
  refine EX.seq ?_
  refine EC.seq ?_
  refine EC.seq ?_
  refine EC.region ?_
  refine EL.val (fa_25_0 rfl) rfl ?_
  refine EL.val (ld_22 rfl (q1.at (j := 0) rfl)) rfl ?_
  refine EL.val (ln_22 rfl) rfl ?_
  cases h1 : inB 1 60 ((nt.ports.length : Nat) : Int)
  ·
    refine EL.call (cl_42 rfl rfl rfl) rfl (rin_any _ h1) ?_
    rintro e w2 ⟨rfl, hc2⟩
    refine ⟨_, rfl, ?_⟩
    replace q1 := q1.below hc2 q1.lt
    replace hbw := Below.on hbw hc2 hbw.size
    clear hc2
    refine EL.val (x_not rfl) rfl ?_
    refine EL.val (x_move rfl) rfl ?_
    refine EL.skip rfl rfl rfl rfl ?_
    refine EL.skip rfl rfl rfl rfl ?_
    refine EL.skip rfl rfl rfl rfl ?_
    refine EL.skip rfl rfl rfl rfl ?_
    refine EL.val (x_pick_t rfl rfl) rfl ?_
    refine EL.nil ?_
    refine EX.seq ?_
    refine EC.yes rfl ?_
    refine EC.seq ?_
    refine EC.region ?_
    refine EL.val (x_assign rfl) rfl ?_
    refine EL.nil ?_
    refine EX.seq ?_
    refine EC.ret ?_
    refine EX.seq_ret ?_
    exact EX.done (res1 rfl rfl) ⟨by rw [net_a h1], hbw⟩
  ·
    refine EL.call (cl_42 rfl rfl rfl) rfl (rin_any _ h1) ?_
    rintro e w3 ⟨rfl, hc3⟩
    refine ⟨_, rfl, ?_⟩
    replace q1 := q1.below hc3 q1.lt
    replace hbw := Below.on hbw hc3 hbw.size
    clear hc3
    refine EL.val (x_not rfl) rfl ?_
    refine EL.val (x_move rfl) rfl ?_
    refine EL.valg rfl rfl (fa_25_1 rfl) rfl ?_
    refine EL.valg rfl rfl (ld_23 rfl (q1.at (j := 1) rfl)) rfl ?_
    refine EL.valg rfl rfl (ln_23 rfl) rfl ?_
    by_cases h2 : 300 < nt.ways.length
    ·
      refine EL.valg rfl rfl (x_gtr (r := true) rfl rfl (decide_eq_true (by omega))) rfl ?_
      refine EL.val (x_pick_f rfl rfl) rfl ?_
      refine EL.nil ?_
      refine EX.seq ?_
      refine EC.yes rfl ?_
      refine EC.seq ?_
      refine EC.region ?_
      refine EL.val (x_assign rfl) rfl ?_
      refine EL.nil ?_
      refine EX.seq ?_
      refine EC.ret ?_
      refine EX.seq_ret ?_
      exact EX.done (res1 rfl rfl) ⟨by rw [net_b h2], hbw⟩
    ·
      refine EL.valg rfl rfl (x_gtr (r := false) rfl rfl (decide_eq_false (by omega))) rfl ?_
      refine EL.val (x_pick_f rfl rfl) rfl ?_
      refine EL.nil ?_
      refine EX.seq ?_
      refine EC.no rfl ?_
      refine EC.skip ?_
      refine EX.seq ?_
      refine EC.seq ?_
      refine EC.seq ?_
      refine EC.region ?_
      refine EL.val (x_assign rfl) rfl ?_
      refine EL.nil ?_
      refine EX.seq ?_
      refine EC.block ?_
      refine EC.loopD [2, 3, 16, 17, 18, 19, 20, 21, 22, 23, 24, 25, 26, 27, 28, 29] (fun x : Nat => [(3, .int .i64 (x : Nat))]) (fun x W => x ≤ nt.ports.length ∧ (nt.ports.take x).all prtB = true ∧ Blk W g1 25 #[.slice Ap nt.ports.length cp_, .slice Aw nt.ways.length cw_] ∧ Below w.heap.size w W) (fun x => nt.ports.length - x) 0 ⟨Nat.zero_le _, rfl, q1, hbw⟩ ⟨rfl, trivial⟩ ?_
      clear q1 hbw
      rintro x wx ⟨hx, hall, q1x, hbw⟩
      by_cases hlt : x < nt.ports.length
      ·
        obtain ⟨b1, o1, e_, _, a0, a1⟩ := prts_cells nt.ports x hlt _ _ _ _ _ hr.ports
        subst e_
        obtain ⟨y, ey⟩ : ∃ z, z = nt.ports.getD x prt0 := ⟨_, rfl⟩
        rw [← ey] at a0 a1
        cases hy : prtB y
        ·
          refine EC.seq ?_
          refine EC.seq ?_
          refine EC.region ?_
          refine EL.val (x_move rfl) rfl ?_
          refine EL.val (fa_25_0 rfl) rfl ?_
          refine EL.val (ld_22 rfl (q1x.at (j := 0) rfl)) rfl ?_
          refine EL.val (ln_22 rfl) rfl ?_
          refine EL.val (x_lss rfl rfl (decide_eq_true (show (((x : Nat) : Int) < ((nt.ports.length : Nat) : Int)) by omega))) rfl ?_
          refine EL.nil ?_
          refine EX.seq ?_
          refine EC.yes rfl ?_
          refine EC.skip ?_
          refine EX.seq ?_
          refine EC.seq ?_
          refine EC.block ?_
          refine EC.seq ?_
          refine EC.region ?_
          refine EL.val (fa_25_0 rfl) rfl ?_
          refine EL.val (ld_22 rfl (q1x.at (j := 0) rfl)) rfl ?_
          refine EL.val (x_move rfl) rfl ?_
          refine EL.val (ix_22 rfl rfl hlt) rfl ?_
          refine EL.val (ld_47 rfl (below_load hbw a0) (below_load hbw a1)) rfl ?_
          refine EL.call (cl_43 rfl) rfl (rport_any _ hy) ?_
          rintro e w4 ⟨rfl, hc4⟩
          refine ⟨_, rfl, ?_⟩
          replace q1x := q1x.below hc4 q1x.lt
          replace hbw := Below.on hbw hc4 hbw.size
          clear hc4
          refine EL.val (x_not rfl) rfl ?_
          refine EL.nil ?_
          refine EX.seq ?_
          refine EC.yes rfl ?_
          refine EC.seq ?_
          refine EC.region ?_
          refine EL.val (x_assign rfl) rfl ?_
          refine EL.nil ?_
          refine EX.seq ?_
          refine EC.ret ?_
          refine EX.blk_ret ?_
          refine EX.seq_ret ?_
          refine EX.seq_ret ?_
          refine EX.blk_ret ?_
          refine EX.seq_ret ?_
          exact EX.done (res1 rfl rfl) ⟨by rw [net_c hlt (by rw [← ey]; exact hy)], hbw⟩
        ·
          refine EC.seq ?_
          refine EC.seq ?_
          refine EC.region ?_
          refine EL.val (x_move rfl) rfl ?_
          refine EL.val (fa_25_0 rfl) rfl ?_
          refine EL.val (ld_22 rfl (q1x.at (j := 0) rfl)) rfl ?_
          refine EL.val (ln_22 rfl) rfl ?_
          refine EL.val (x_lss rfl rfl (decide_eq_true (show (((x : Nat) : Int) < ((nt.ports.length : Nat) : Int)) by omega))) rfl ?_
          refine EL.nil ?_
          refine EX.seq ?_
          refine EC.yes rfl ?_
          refine EC.skip ?_
          refine EX.seq ?_
          refine EC.seq ?_
          refine EC.block ?_
          refine EC.seq ?_
          refine EC.region ?_
          refine EL.val (fa_25_0 rfl) rfl ?_
          refine EL.val (ld_22 rfl (q1x.at (j := 0) rfl)) rfl ?_
          refine EL.val (x_move rfl) rfl ?_
          refine EL.val (ix_22 rfl rfl hlt) rfl ?_
          refine EL.val (ld_47 rfl (below_load hbw a0) (below_load hbw a1)) rfl ?_
          refine EL.call (cl_43 rfl) rfl (rport_any _ hy) ?_
          rintro e w5 ⟨rfl, hc5⟩
          refine ⟨_, rfl, ?_⟩
          replace q1x := q1x.below hc5 q1x.lt
          replace hbw := Below.on hbw hc5 hbw.size
          clear hc5
          refine EL.val (x_not rfl) rfl ?_
          refine EL.nil ?_
          refine EX.seq ?_
          refine EC.no rfl ?_
          refine EC.skip ?_
          refine EX.blk ?_
          refine EX.seq ?_
          refine EC.region ?_
          refine EL.val (x_move rfl) rfl ?_
          refine EL.val (x_add rfl rfl (c := ((x + 1 : Nat) : Int)) ((IntWalk.i64_in _ ⟨by first | omega | (simp only; omega), by first | omega | (simp only; omega)⟩).trans (by first | omega | (simp only; omega)))) rfl ?_
          refine EL.val (x_assign rfl) rfl ?_
          refine EL.nil ?_
          refine EX.roundD (x + 1) ⟨rfl, trivial⟩ (by repeat first | with_reducible exact Sub.refl _ | refine sub_past rfl ?_ | exact Sub.refl _ | refine sub_del rfl ?_ | refine sub_insL_nil ?_) ⟨hlt, allP_take hlt hall (by rw [← ey]; exact hy), q1x, hbw⟩ (by omega)
      ·
        have hxe : x = nt.ports.length := by omega
        subst hxe
        rw [List.take_length] at hall
        refine EC.seq ?_
        refine EC.seq ?_
        refine EC.region ?_
        refine EL.val (x_move rfl) rfl ?_
        refine EL.val (fa_25_0 rfl) rfl ?_
        refine EL.val (ld_22 rfl (q1x.at (j := 0) rfl)) rfl ?_
        refine EL.val (ln_22 rfl) rfl ?_
        refine EL.val (x_lss rfl rfl (decide_eq_false (show ¬(((nt.ports.length : Nat) : Int) < ((nt.ports.length : Nat) : Int)) by omega))) rfl ?_
        refine EL.nil ?_
        refine EX.seq ?_
        refine EC.no rfl ?_
        refine EC.exit ?_
        refine EX.seq_exit ?_
        refine EX.seq_exit ?_
        refine EX.blk_here ?_
        refine EX.seq ?_
        refine EC.seq ?_
        refine EC.seq ?_
        refine EC.region ?_
        refine EL.val (x_assign rfl) rfl ?_
        refine EL.nil ?_
        refine EX.seq ?_
        refine EC.block ?_
        refine EC.loopD [2, 4, 30, 31, 32, 33, 34, 35, 36, 37, 38, 39, 40, 41, 42, 43, 44, 45, 46] (fun x : Nat => [(4, .int .i64 (x : Nat))]) (fun x W => x ≤ nt.ways.length ∧ (nt.ways.take x).all (wayB nt.ports.length) = true ∧ Blk W g1 25 #[.slice Ap nt.ports.length cp_, .slice Aw nt.ways.length cw_] ∧ Below w.heap.size w W) (fun x => nt.ways.length - x) 0 ⟨Nat.zero_le _, rfl, q1x, hbw⟩ ⟨rfl, trivial⟩ ?_
        clear q1x hbw
        rintro x wx ⟨hx, halw, q1x, hbw⟩
        by_cases hlt : x < nt.ways.length
        ·
          obtain ⟨b1, o1, e_, _, wa⟩ := ways_cells nt.ways x hlt _ _ _ _ _ hr.ways
          subst e_
          obtain ⟨y, ey⟩ : ∃ z, z = nt.ways.getD x way0 := ⟨_, rfl⟩
          rw [← ey] at wa
          cases hy : wayB nt.ports.length y
          ·
            refine EC.seq ?_
            refine EC.seq ?_
            refine EC.region ?_
            refine EL.val (x_move rfl) rfl ?_
            refine EL.val (fa_25_1 rfl) rfl ?_
            refine EL.val (ld_23 rfl (q1x.at (j := 1) rfl)) rfl ?_
            refine EL.val (ln_23 rfl) rfl ?_
            refine EL.val (x_lss rfl rfl (decide_eq_true (show (((x : Nat) : Int) < ((nt.ways.length : Nat) : Int)) by omega))) rfl ?_
            refine EL.nil ?_
            refine EX.seq ?_
            refine EC.yes rfl ?_
            refine EC.skip ?_
            refine EX.seq ?_
            refine EC.seq ?_
            refine EC.block ?_
            refine EC.seq ?_
            refine EC.regionQ (by kernel_rfl) (by kernel_rfl) ?_
            refine EQ.val (fun _ hw => (fa_25_1 rfl)) rfl ?_
            refine EQ.val (fun _ hw => (ld_23 rfl (below_load hw (q1x.at (j := 1) rfl)))) rfl ?_
            refine EQ.val (fun _ hw => (x_move rfl)) rfl ?_
            refine EQ.val (fun _ hw => (ix_23 rfl rfl hlt)) rfl ?_
            refine EQ.val (fun _ hw => (ld_56 rfl (below_load hw (below_load hbw wa.c0)) (below_load hw (below_load hbw wa.c1)) (below_load hw (below_load hbw wa.c2)) (below_load hw (below_load hbw wa.c3)))) rfl ?_
            refine EQ.val (fun _ hw => (fa_25_0 rfl)) rfl ?_
            refine EQ.val (fun _ hw => (ld_22 rfl (below_load hw (q1x.at (j := 0) rfl)))) rfl ?_
            refine EQ.val (fun _ hw => (ln_22 rfl)) rfl ?_
            refine EQ.call (fun _ _ _ ha => cl_44 rfl rfl _ ha) rfl (fun W hw => (rway_any W hn1 hy).mono fun e w' h => ⟨h.1, hw.trans (h.2.mono hw.size)⟩) ?_
            refine EQ.val (fun _ hw => (x_not rfl)) rfl ?_
            refine EQ.fin (fun w6 hw_ => ?_)
            replace q1x := q1x.below hw_ q1x.lt
            replace hbw := Below.on hbw hw_ hbw.size
            clear hw_
            refine EX.seq ?_
            refine EC.yes rfl ?_
            refine EC.seq ?_
            refine EC.region ?_
            refine EL.val (x_assign rfl) rfl ?_
            refine EL.nil ?_
            refine EX.seq ?_
            refine EC.ret ?_
            refine EX.blk_ret ?_
            refine EX.seq_ret ?_
            refine EX.seq_ret ?_
            refine EX.blk_ret ?_
            refine EX.seq_ret ?_
            exact EX.done (res1 rfl rfl) ⟨by rw [net_d hlt (by rw [← ey]; exact hy)], hbw⟩
          ·
            refine EC.seq ?_
            refine EC.seq ?_
            refine EC.region ?_
            refine EL.val (x_move rfl) rfl ?_
            refine EL.val (fa_25_1 rfl) rfl ?_
            refine EL.val (ld_23 rfl (q1x.at (j := 1) rfl)) rfl ?_
            refine EL.val (ln_23 rfl) rfl ?_
            refine EL.val (x_lss rfl rfl (decide_eq_true (show (((x : Nat) : Int) < ((nt.ways.length : Nat) : Int)) by omega))) rfl ?_
            refine EL.nil ?_
            refine EX.seq ?_
            refine EC.yes rfl ?_
            refine EC.skip ?_
            refine EX.seq ?_
            refine EC.seq ?_
            refine EC.block ?_
            refine EC.seq ?_
            refine EC.regionQ (by kernel_rfl) (by kernel_rfl) ?_
            refine EQ.val (fun _ hw => (fa_25_1 rfl)) rfl ?_
            refine EQ.val (fun _ hw => (ld_23 rfl (below_load hw (q1x.at (j := 1) rfl)))) rfl ?_
            refine EQ.val (fun _ hw => (x_move rfl)) rfl ?_
            refine EQ.val (fun _ hw => (ix_23 rfl rfl hlt)) rfl ?_
            refine EQ.val (fun _ hw => (ld_56 rfl (below_load hw (below_load hbw wa.c0)) (below_load hw (below_load hbw wa.c1)) (below_load hw (below_load hbw wa.c2)) (below_load hw (below_load hbw wa.c3)))) rfl ?_
            refine EQ.val (fun _ hw => (fa_25_0 rfl)) rfl ?_
            refine EQ.val (fun _ hw => (ld_22 rfl (below_load hw (q1x.at (j := 0) rfl)))) rfl ?_
            refine EQ.val (fun _ hw => (ln_22 rfl)) rfl ?_
            refine EQ.call (fun _ _ _ ha => cl_44 rfl rfl _ ha) rfl (fun W hw => (rway_any W hn1 hy).mono fun e w' h => ⟨h.1, hw.trans (h.2.mono hw.size)⟩) ?_
            refine EQ.val (fun _ hw => (x_not rfl)) rfl ?_
            refine EQ.fin (fun w7 hw_ => ?_)
            replace q1x := q1x.below hw_ q1x.lt
            replace hbw := Below.on hbw hw_ hbw.size
            clear hw_
            refine EX.seq ?_
            refine EC.no rfl ?_
            refine EC.skip ?_
            refine EX.blk ?_
            refine EX.seq ?_
            refine EC.region ?_
            refine EL.val (x_move rfl) rfl ?_
            refine EL.val (x_add rfl rfl (c := ((x + 1 : Nat) : Int)) ((IntWalk.i64_in _ ⟨by first | omega | (simp only; omega), by first | omega | (simp only; omega)⟩).trans (by first | omega | (simp only; omega)))) rfl ?_
            refine EL.val (x_assign rfl) rfl ?_
            refine EL.nil ?_
            refine EX.roundD (x + 1) ⟨rfl, trivial⟩ (by repeat first | with_reducible exact Sub.refl _ | refine sub_past rfl ?_ | exact Sub.refl _ | refine sub_del rfl ?_ | refine sub_insL_nil ?_) ⟨hlt, allW_take hlt halw (by rw [← ey]; exact hy), q1x, hbw⟩ (by omega)
        ·
          have hxe : x = nt.ways.length := by omega
          subst hxe
          rw [List.take_length] at halw
          refine EC.seq ?_
          refine EC.seq ?_
          refine EC.region ?_
          refine EL.val (x_move rfl) rfl ?_
          refine EL.val (fa_25_1 rfl) rfl ?_
          refine EL.val (ld_23 rfl (q1x.at (j := 1) rfl)) rfl ?_
          refine EL.val (ln_23 rfl) rfl ?_
          refine EL.val (x_lss rfl rfl (decide_eq_false (show ¬(((nt.ways.length : Nat) : Int) < ((nt.ways.length : Nat) : Int)) by omega))) rfl ?_
          refine EL.nil ?_
          refine EX.seq ?_
          refine EC.no rfl ?_
          refine EC.exit ?_
          refine EX.seq_exit ?_
          refine EX.seq_exit ?_
          refine EX.blk_here ?_
          refine EX.seq ?_
          refine EC.seq ?_
          refine EC.region ?_
          refine EL.val (x_assign rfl) rfl ?_
          refine EL.nil ?_
          refine EX.seq ?_
          refine EC.ret ?_
          exact EX.done (res1 rfl rfl) ⟨by rw [net_e h1 h2 hall halw], hbw⟩
theorem rnet_to {nt : Net} {b : Bool} (h : netB nt = b) (vp vw : Value) (w : World) (B : Nat) (hr : RdNet w B vp vw nt) (hB : B ≤ w.heap.size) (hn1 : nt.ports.length ≤ 1073741824) (hn2 : nt.ways.length ≤ 1073741824) :
    Calls Try.prog 17 #[.agg #[vp, vw]] w fun e w' => e = .returned (.bool b) ∧ Below w.heap.size w w' := h ▸ rnet_any nt vp vw w B hr hB hn1 hn2
theorem aft_parts {nt : Net} {mv : List Int} (h : aftErr nt mv = 0) : mv.length = nt.ways.length ∧ okTo nt mv nt.ways.length = true ∧ (extL nt mv).any (fun x => decide (x < 0)) = false := by
  unfold aftErr at h
  split at h
  · cases h
  · rename_i h1
    split at h
    · cases h
    · rename_i h2
      split at h
      · cases h
      · rename_i h3; exact ⟨by omega, by simpa using h2, by simpa using h3⟩
end Go.Proofs.Ytabgmnmpdjnjoaa
set_option linter.unusedVariables false
set_option linter.unusedSimpArgs false
namespace Go.Proofs.Ytabgmnmpdjnjoaa
open Go Go.RowKit
section
variable {n : Nat} {σ : Sg} {w : World} {dst : Option Tmp} {ty : TypeId} {pos : String} {af : Array Edge} {g : Option (Nat × Bool)} {x y z : Operand} {at' : Array TypeId}
theorem cl_29 {x0 : Operand} {v0 : Value} (h0 : evS σ x0 = some v0) (a : Act) (ha : Env n σ a) : (execOp a.eval ⟨dst, .call { callee := .value (.func 29), args := #[x0], argTypes := at' }, ty, pos, af, g⟩).run Try.prog w = .ok (.enter 29 #[v0]) w := by
  simp only [execOp, resolve, List.map_toArray, List.map_cons, List.map_nil, ha.eval h0]
  simp [go_sem, Act.eval]
theorem cl_13  (a : Act) (_ : Env n σ a) : (execOp a.eval ⟨dst, .call { callee := .value (.func 13), args := #[], argTypes := at' }, ty, pos, af, g⟩).run Try.prog w = .ok (.enter 13 #[]) w := by
  simp only [execOp, resolve, List.map_toArray, List.map_nil]
  simp [go_sem, Act.eval]
theorem cl_14 {x0 : Operand} {v0 : Value} (h0 : evS σ x0 = some v0) (a : Act) (ha : Env n σ a) : (execOp a.eval ⟨dst, .call { callee := .value (.func 14), args := #[x0], argTypes := at' }, ty, pos, af, g⟩).run Try.prog w = .ok (.enter 14 #[v0]) w := by
  simp only [execOp, resolve, List.map_toArray, List.map_cons, List.map_nil, ha.eval h0]
  simp [go_sem, Act.eval]
theorem cl_25 {x0 x1 : Operand} {v0 v1 : Value} (h0 : evS σ x0 = some v0) (h1 : evS σ x1 = some v1) (a : Act) (ha : Env n σ a) : (execOp a.eval ⟨dst, .call { callee := .value (.func 25), args := #[x0, x1], argTypes := at' }, ty, pos, af, g⟩).run Try.prog w = .ok (.enter 25 #[v0, v1]) w := by
  simp only [execOp, resolve, List.map_toArray, List.map_cons, List.map_nil, ha.eval h0, ha.eval h1]
  simp [go_sem, Act.eval]
theorem cl_17 {x0 : Operand} {v0 : Value} (h0 : evS σ x0 = some v0) (a : Act) (ha : Env n σ a) : (execOp a.eval ⟨dst, .call { callee := .value (.func 17), args := #[x0], argTypes := at' }, ty, pos, af, g⟩).run Try.prog w = .ok (.enter 17 #[v0]) w := by
  simp only [execOp, resolve, List.map_toArray, List.map_cons, List.map_nil, ha.eval h0]
  simp [go_sem, Act.eval]
end
end Go.Proofs.Ytabgmnmpdjnjoaa
set_option linter.unusedVariables false
set_option linter.unusedSimpArgs false
namespace Go.Proofs.Ytabgmnmpdjnjoaa
/-- sums of so many -/
def sumI (f : Nat → Int) : Nat → Int
  | 0 => 0
  | k + 1 => sumI f k + f k
theorem sumI_congr {f g : Nat → Int} : ∀ {n : Nat}, (∀ i, i < n → f i = g i) → sumI f n = sumI g n
  | 0, _ => rfl
  | n + 1, h => by rw [sumI, sumI, sumI_congr (fun i hi => h i (by omega)), h n (by omega)]
theorem sumI_nn {f : Nat → Int} : ∀ {n : Nat}, (∀ i, i < n → 0 ≤ f i) → 0 ≤ sumI f n
  | 0, _ => Int.le_refl _
  | n + 1, h => by
    have := sumI_nn (f := f) (n := n) (fun i hi => h i (by omega))
    have := h n (by omega)
    rw [sumI]
    omega
theorem sumI_le {f g : Nat → Int} : ∀ {n : Nat}, (∀ i, i < n → f i ≤ g i) → sumI f n ≤ sumI g n
  | 0, _ => Int.le_refl _
  | n + 1, h => by
    have := sumI_le (f := f) (g := g) (n := n) (fun i hi => h i (by omega))
    have := h n (by omega)
    rw [sumI, sumI]
    omega
theorem sumI_zero {f : Nat → Int} : ∀ {n : Nat}, (∀ i, i < n → f i = 0) → sumI f n = 0
  | 0, _ => rfl
  | n + 1, h => by rw [sumI, sumI_zero (fun i hi => h i (by omega)), h n (by omega)]; rfl
theorem sumI_add {f g : Nat → Int} : ∀ n : Nat, sumI (fun i => f i + g i) n = sumI f n + sumI g n
  | 0 => rfl
  | n + 1 => by rw [sumI, sumI, sumI, sumI_add n]; omega
theorem sumI_sub {f g : Nat → Int} : ∀ n : Nat, sumI (fun i => f i - g i) n = sumI f n - sumI g n
  | 0 => rfl
  | n + 1 => by rw [sumI, sumI, sumI, sumI_sub n]; omega
/-- a term at one place -/
theorem sumI_at {v : Nat} {x : Int} : ∀ {n : Nat}, sumI (fun i => if i = v then x else 0) n = if v < n then x else 0
  | 0 => by rw [sumI, if_neg (Nat.not_lt_zero _)]
  | n + 1 => by
    rw [sumI, sumI_at]
    by_cases h : n = v
    · subst h; rw [if_neg (Nat.lt_irrefl _), if_pos rfl, if_pos (by omega)]; omega
    · rw [if_neg h]
      by_cases h2 : v < n
      · rw [if_pos h2, if_pos (by omega)]; omega
      · rw [if_neg h2, if_neg (by omega)]; omega
section
variable {nt : Net} {mv pr : List Int}
theorem ext0_at {v : Nat} (h : v < nt.ports.length) : (extTo nt mv 0).getD v 0 = (nt.ports.getD v prt0).has - (nt.ports.getD v prt0).wants := by
  have := List.getElem?_range h
  simp [extTo, ext0, List.getD, this]
theorem ext_nn (ha : aftErr nt mv = 0) {q : Nat} (hq : q < nt.ports.length) : 0 ≤ (extL nt mv).getD q 0 := by
  obtain ⟨_, _, h⟩ := aft_parts ha
  have hl : (extL nt mv).length = nt.ports.length := extTo_len _
  have := List.any_eq_false.1 h _ (List.getElem_mem (show q < (extL nt mv).length by omega))
  rw [show (extL nt mv).getD q 0 = (extL nt mv)[q] by simp [List.getD, show q < (extL nt mv).length by omega]]
  simp only [decide_eq_true_eq] at this
  omega
end
end Go.Proofs.Ytabgmnmpdjnjoaa
set_option linter.unusedVariables false
set_option linter.unusedSimpArgs false
namespace Go.Proofs.Ytabgmnmpdjnjoaa
theorem sumI_each {f : Nat → Int} : ∀ {n : Nat}, (∀ i, i < n → 0 ≤ f i) → sumI f n ≤ 0 → ∀ i, i < n → f i = 0
  | 0, _, _, i, hi => absurd hi (Nat.not_lt_zero _)
  | n + 1, h, hs, i, hi => by
    rw [sumI] at hs
    have h1 := sumI_nn (f := f) (n := n) (fun i hi => h i (by omega))
    have h2 := h n (by omega)
    by_cases e : i = n
    · subst e; omega
    · exact sumI_each (f := f) (n := n) (fun i hi => h i (by omega)) (by omega) i (by omega)
section
variable {nt : Net} {L : List Arc} {mv : List Int}
/-- what a port has after moves -/
theorem ext_sum (hv : netB nt = true) {v : Nat} (hp : v < nt.ports.length) : ∀ k, k ≤ nt.ways.length → (extTo nt mv k).getD v 0 = ((nt.ports.getD v prt0).has - (nt.ports.getD v prt0).wants) + sumI (fun j => (if v = (nt.ways.getD j way0).to.toNat then mv.getD j 0 else 0) - (if v = (nt.ways.getD j way0).fr.toNat then mv.getD j 0 else 0)) k
  | 0, _ => by rw [ext0_at hp, sumI]; omega
  | k + 1, hk => by
    obtain ⟨_, _, _, hvw⟩ := netB_ok hv
    have hw := hvw k (by omega)
    have hl := extTo_len (nt := nt) (mv := mv) k
    rw [extTo, extStep_at (by omega) (by omega), ext_sum hv hp k (by omega), sumI]
    omega
/-! ### The flow -/
theorem bal_ways (hst : St nt L) (v : Nat) : ∀ k, k ≤ nt.ways.length → balTo L v k = sumI (fun j => (if v = (nt.ways.getD j way0).to.toNat then (movesL L nt.ways.length).getD j 0 else 0) - (if v = (nt.ways.getD j way0).fr.toNat then (movesL L nt.ways.length).getD j 0 else 0)) k
  | 0, _ => rfl
  | k + 1, hk => by
    have hs := hst.good.shape (2 * k)
    have ho := (open_way (nt := nt) (j := k) (by omega)).1
    have e1 : (arcAt L (2 * k)).to = (nt.ways.getD k way0).to.toNat := by rw [hs.2.1, ho]
    have e2 : (arcAt L (2 * k)).fr = (nt.ways.getD k way0).fr.toNat := by rw [hs.1, ho]
    rw [balTo, sumI, bal_ways hst v k (by omega), moves_at L (by omega), e1, e2]
    simp only [eq_comm]
theorem bal_ports (hst : St nt L) {v : Nat} (hp : v < nt.ports.length) : ∀ q, q ≤ nt.ports.length → balTo L v (nt.ways.length + 2 * q) = balTo L v nt.ways.length + (if v < q then (arcAt L (2 * nt.ways.length + 4 * v + 1)).room - (arcAt L (2 * nt.ways.length + 4 * v + 3)).room else 0)
  | 0, _ => by simp
  | q + 1, hq => by
    have ih := bal_ports hst hp q (by omega)
    obtain ⟨o0, o1, o2, o3⟩ := open_port (nt := nt) (q := q) (by omega)
    have s0 := hst.good.shape (2 * nt.ways.length + 4 * q)
    have s2 := hst.good.shape (2 * nt.ways.length + 4 * q + 2)
    have a1 : 2 * (nt.ways.length + 2 * q) = 2 * nt.ways.length + 4 * q := by omega
    have a2 : 2 * (nt.ways.length + 2 * q + 1) = 2 * nt.ways.length + 4 * q + 2 := by omega
    have f0 : (arcAt L (2 * nt.ways.length + 4 * q)).fr = nt.ports.length := by rw [s0.1, o0]
    have t0 : (arcAt L (2 * nt.ways.length + 4 * q)).to = q := by rw [s0.2.1, o0]
    have f2 : (arcAt L (2 * nt.ways.length + 4 * q + 2)).fr = q := by rw [s2.1, o2]
    have t2 : (arcAt L (2 * nt.ways.length + 4 * q + 2)).to = nt.ports.length + 1 := by rw [s2.2.1, o2]
    rw [show nt.ways.length + 2 * (q + 1) = nt.ways.length + 2 * q + 1 + 1 by omega, balTo, balTo, ih, a2, a1, f0, t0, f2, t2, show 2 * nt.ways.length + 4 * q + 2 + 1 = 2 * nt.ways.length + 4 * q + 3 from rfl]
    rw [if_neg (show ¬nt.ports.length = v by omega), if_neg (show ¬nt.ports.length + 1 = v by omega)]
    by_cases e : q = v
    · subst e
      rw [if_pos rfl, if_pos rfl, if_neg (Nat.lt_irrefl _), if_pos (Nat.lt_succ_self _)]
      omega
    · rw [if_neg e, if_neg e]
      by_cases h : v < q
      · rw [if_pos h, if_pos (by omega)]; omega
      · rw [if_neg h, if_neg (by omega)]; omega
/-- hulls that are left in a port; hulls that it lacks -/
def restA (nt : Net) (L : List Arc) (q : Nat) : Int := (arcAt L (2 * nt.ways.length + 4 * q)).room
def defA (nt : Net) (L : List Arc) (q : Nat) : Int := (arcAt L (2 * nt.ways.length + 4 * q + 2)).room
theorem St.len (hst : St nt L) : L.length = nt.ways.length * 2 + nt.ports.length * 4 := by rw [hst.good.len, openL_len]
theorem rest_nn (hst : St nt L) {q : Nat} (hq : q < nt.ports.length) : 0 ≤ restA nt L q ∧ 0 ≤ defA nt L q := ⟨hst.good.nn _ (by rw [hst.len]; omega), hst.good.nn _ (by rw [hst.len]; omega)⟩
theorem mate_even' {i : Nat} (h : i % 2 = 0) : mate i = i + 1 := by unfold mate; rw [if_pos h]
theorem ext_bal (hv : netB nt = true) (hst : St nt L) {v : Nat} (hp : v < nt.ports.length) : (extL nt (movesL L nt.ways.length)).getD v 0 = restA nt L v - defA nt L v := by
  have h1 := ext_sum (mv := movesL L nt.ways.length) hv hp nt.ways.length (Nat.le_refl _)
  have h2 := bal_ways hst v nt.ways.length (Nat.le_refl _)
  have h3 := bal_ports hst hp nt.ports.length (Nat.le_refl _)
  have h4 := hst.cons v hp
  have hl := hst.len
  obtain ⟨o0, o1, o2, o3⟩ := open_port (nt := nt) (q := v) hp
  have p0 := hst.good.pair (2 * nt.ways.length + 4 * v) (by omega)
  have p2 := hst.good.pair (2 * nt.ways.length + 4 * v + 2) (by omega)
  rw [mate_even' (by omega), o0, o1] at p0
  rw [mate_even' (by omega), o2, show 2 * nt.ways.length + 4 * v + 2 + 1 = 2 * nt.ways.length + 4 * v + 3 by omega, o3] at p2
  rw [bal, show L.length / 2 = nt.ways.length + 2 * nt.ports.length by omega, h3, if_pos hp] at h4
  unfold restA defA
  rw [extL, h1, ← h2]
  simp only at p0 p2
  omega
theorem way_pair (hst : St nt L) {j : Nat} (hj : j < nt.ways.length) : (arcAt L (2 * j)).room + (arcAt L (2 * j + 1)).room = (nt.ways.getD j way0).room ∧ 0 ≤ (arcAt L (2 * j)).room ∧ 0 ≤ (arcAt L (2 * j + 1)).room := by
  have hl := hst.len
  obtain ⟨o0, o1⟩ := open_way (nt := nt) hj
  have p0 := hst.good.pair (2 * j) (by omega)
  rw [mate_even, o0, o1] at p0
  simp only at p0
  exact ⟨by omega, hst.good.nn _ (by omega), hst.good.nn _ (by omega)⟩
theorem full_iff (hst : St nt L) : fullB nt L = true ↔ ∀ q, q < nt.ports.length → defA nt L q ≤ 0 := by
  have hl := hst.len
  have hat : ∀ i, 2 * nt.ways.length + i < L.length → (L.drop (2 * nt.ways.length))[i]? = some (arcAt L (2 * nt.ways.length + i)) := fun i hi => by
    rw [List.getElem?_drop, List.getElem?_eq_getElem hi]
    simp [arcAt, List.getD, hi]
  unfold fullB
  rw [List.all_eq_true]
  constructor
  · intro h q hq
    have h1 := h _ (List.mem_of_getElem? (hat (4 * q + 2) (by omega)))
    have o2 := (open_port (nt := nt) (q := q) hq).2.2.1
    have s2 := hst.good.shape (2 * nt.ways.length + 4 * q + 2)
    have e : 2 * nt.ways.length + (4 * q + 2) = 2 * nt.ways.length + 4 * q + 2 := by omega
    rw [e] at h1
    unfold fullA at h1
    rw [decide_eq_true (by rw [s2.2.1, o2])] at h1
    simp only [Bool.true_and, Bool.not_eq_true', decide_eq_false_iff_not] at h1
    unfold defA
    omega
  · intro h a ha
    obtain ⟨i, hi, rfl⟩ := List.getElem_of_mem ha
    rw [List.length_drop] at hi
    have e := hat i (by omega)
    rw [List.getElem?_eq_getElem (by rw [List.length_drop]; exact hi)] at e
    injection e with e
    rw [e]
    have hq : i / 4 < nt.ports.length := by omega
    have s := hst.good.shape (2 * nt.ways.length + i)
    obtain ⟨o0, o1, o2, o3⟩ := open_port (nt := nt) (q := i / 4) hq
    have hr : i = 4 * (i / 4) ∨ i = 4 * (i / 4) + 1 ∨ i = 4 * (i / 4) + 2 ∨ i = 4 * (i / 4) + 3 := by omega
    generalize i / 4 = q at *
    rcases hr with rfl | rfl | rfl | rfl
    · exact fullA_to (by rw [s.2.1, o0]; simp only; omega)
    · rw [← Nat.add_assoc] at s ⊢
      exact fullA_to (by rw [s.2.1, o1]; simp only; omega)
    · rw [← Nat.add_assoc] at s ⊢
      refine fullA_room ?_
      have := h q hq
      unfold defA at this
      omega
    · rw [← Nat.add_assoc] at s ⊢
      exact fullA_to (by rw [s.2.1, o3]; simp only; omega)
/-- MOVES THAT MEET ALL WANTS ARE POSSIBLE -/
theorem full_aft (hv : netB nt = true) (hst : St nt L) (hf : fullB nt L = true) : aftErr nt (movesL L nt.ways.length) = 0 := by
  have hl := hst.len
  refine aft_ok (by rw [moves_len]; exact fun h => h rfl) ?_ ?_
  · unfold okTo
    rw [List.all_eq_true]
    intro j hj
    have hj := List.mem_range.1 hj
    have hw := way_pair hst hj
    unfold okMv
    rw [moves_at L hj, inB_iff]
    omega
  · intro h
    obtain ⟨x, hx, h1⟩ := List.any_eq_true.1 h
    obtain ⟨i, hi, rfl⟩ := List.getElem_of_mem hx
    have hle : (extL nt (movesL L nt.ways.length)).length = nt.ports.length := extTo_len _
    have h2 := ext_bal hv hst (v := i) (by omega)
    rw [show (extL nt (movesL L nt.ways.length)).getD i 0 = (extL nt (movesL L nt.ways.length))[i] by simp [List.getD, hi]] at h2
    have h3 := (full_iff hst).1 hf i (by omega)
    have h4 := rest_nn hst (q := i) (by omega)
    have h5 := of_decide_eq_true h1
    omega
end
/-! ### Where hulls lack -/
def lackS (nt : Net) (f : Nat → Bool) : Int := sumI (fun q => if f q = true then (nt.ports.getD q prt0).wants - (nt.ports.getD q prt0).has else 0) nt.ports.length - sumI (fun j => if lkB nt f j = true then (nt.ways.getD j way0).room else 0) nt.ways.length
def lossW (nt : Net) (mv : List Int) (f : Nat → Bool) (j : Nat) : Int := (if lkB nt f j = true then (nt.ways.getD j way0).room else 0) - (if f (nt.ways.getD j way0).to.toNat = true then mv.getD j 0 else 0) + (if f (nt.ways.getD j way0).fr.toNat = true then mv.getD j 0 else 0)
section
variable {nt : Net} {L : List Arc} {mv : List Int} {f : Nat → Bool}
theorem sumI_neg {f : Nat → Int} : ∀ n : Nat, sumI (fun i => -f i) n = -sumI f n
  | 0 => rfl
  | n + 1 => by rw [sumI, sumI, sumI_neg n]; omega
theorem ext_set (hv : netB nt = true) : ∀ k, k ≤ nt.ways.length → sumI (fun q => if f q = true then (extTo nt mv k).getD q 0 else 0) nt.ports.length = sumI (fun q => if f q = true then (nt.ports.getD q prt0).has - (nt.ports.getD q prt0).wants else 0) nt.ports.length + sumI (fun j => (if f (nt.ways.getD j way0).to.toNat = true then mv.getD j 0 else 0) - (if f (nt.ways.getD j way0).fr.toNat = true then mv.getD j 0 else 0)) k
  | 0, _ => by
    rw [show sumI (fun j => (if f (nt.ways.getD j way0).to.toNat = true then mv.getD j 0 else 0) - (if f (nt.ways.getD j way0).fr.toNat = true then mv.getD j 0 else 0)) 0 = 0 from rfl, Int.add_zero]
    exact sumI_congr fun q hq => by rw [ext0_at hq]
  | k + 1, hk => by
    obtain ⟨_, _, _, hvw⟩ := netB_ok hv
    have hw := hvw k (by omega)
    have ih := ext_set hv k (by omega)
    have hl := extTo_len (nt := nt) (mv := mv) k
    obtain ⟨y, ey⟩ : ∃ z, z = nt.ways.getD k way0 := ⟨_, rfl⟩
    obtain ⟨m, em⟩ : ∃ z, z = mv.getD k 0 := ⟨_, rfl⟩
    rw [← ey] at hw
    have e : ∀ q, q < nt.ports.length → (if f q = true then (extTo nt mv (k + 1)).getD q 0 else 0) = (if f q = true then (extTo nt mv k).getD q 0 else 0) + ((if q = y.to.toNat then (if f y.to.toNat = true then m else 0) else 0) - (if q = y.fr.toNat then (if f y.fr.toNat = true then m else 0) else 0)) := fun q hq => by
      rw [extTo, ← ey, ← em, extStep_at (by omega) (by omega)]
      by_cases a : q = y.to.toNat <;> by_cases b : q = y.fr.toNat
      · rw [if_pos a, if_pos b, if_pos a, if_pos b, ← a, ← b]; split <;> omega
      · rw [if_pos a, if_neg b, if_pos a, if_neg b, ← a]; split <;> omega
      · rw [if_neg a, if_pos b, if_neg a, if_pos b, ← b]; split <;> omega
      · rw [if_neg a, if_neg b, if_neg a, if_neg b]; split <;> omega
    rw [sumI_congr e, sumI_add, sumI_sub, sumI_at, sumI_at, if_pos (show y.to.toNat < nt.ports.length by omega), if_pos (show y.fr.toNat < nt.ports.length by omega), ih, sumI, ← ey, ← em]
    omega
theorem lack_id (hv : netB nt = true) : lackS nt f = sumI (fun q => if f q = true then -(extL nt mv).getD q 0 else 0) nt.ports.length - sumI (lossW nt mv f) nt.ways.length := by
  have h := ext_set (mv := mv) (f := f) hv nt.ways.length (Nat.le_refl _)
  have e1 : sumI (fun q => if f q = true then -(extL nt mv).getD q 0 else 0) nt.ports.length = -sumI (fun q => if f q = true then (extTo nt mv nt.ways.length).getD q 0 else 0) nt.ports.length := by
    rw [← sumI_neg]
    exact sumI_congr fun q _ => by unfold extL; split <;> omega
  have e2 : sumI (fun q => if f q = true then (nt.ports.getD q prt0).wants - (nt.ports.getD q prt0).has else 0) nt.ports.length = -sumI (fun q => if f q = true then (nt.ports.getD q prt0).has - (nt.ports.getD q prt0).wants else 0) nt.ports.length := by
    rw [← sumI_neg]
    exact sumI_congr fun q _ => by split <;> omega
  have e3 : sumI (lossW nt mv f) nt.ways.length = sumI (fun j => if lkB nt f j = true then (nt.ways.getD j way0).room else 0) nt.ways.length - sumI (fun j => (if f (nt.ways.getD j way0).to.toNat = true then mv.getD j 0 else 0) - (if f (nt.ways.getD j way0).fr.toNat = true then mv.getD j 0 else 0)) nt.ways.length := by
    rw [← sumI_sub]
    exact sumI_congr fun j _ => by unfold lossW; omega
  unfold lackS
  rw [e1, e2, e3, h]
  omega
theorem loss_cases {j : Nat} (h0 : 0 ≤ mv.getD j 0) (h1 : mv.getD j 0 ≤ (nt.ways.getD j way0).room) : 0 ≤ lossW nt mv f j ∧ (lossW nt mv f j = 0 → (f (nt.ways.getD j way0).to.toNat = true → f (nt.ways.getD j way0).fr.toNat = false → mv.getD j 0 = (nt.ways.getD j way0).room) ∧ (f (nt.ways.getD j way0).fr.toNat = true → f (nt.ways.getD j way0).to.toNat = false → mv.getD j 0 = 0)) := by
  unfold lossW lkB
  generalize mv.getD j 0 = m at h0 h1 ⊢
  generalize (nt.ways.getD j way0).room = r at h1 ⊢
  cases f (nt.ways.getD j way0).to.toNat <;> cases f (nt.ways.getD j way0).fr.toNat <;> simp <;> omega
/-- where moves are possible nothing lacks -/
theorem lack_none (hv : netB nt = true) (ha : aftErr nt mv = 0) : lackS nt f ≤ 0 := by
  obtain ⟨hml, hok, _⟩ := aft_parts ha
  rw [lack_id (mv := mv) hv]
  have h1 : 0 ≤ sumI (lossW nt mv f) nt.ways.length := sumI_nn fun j hj => (loss_cases (okTo_at hok hj).1 (okTo_at hok hj).2).1
  have h2 : sumI (fun q => if f q = true then -(extL nt mv).getD q 0 else 0) nt.ports.length ≤ sumI (fun _ => 0) nt.ports.length := sumI_le fun q hq => by
    have := ext_nn ha hq
    split <;> omega
  have h3 : sumI (fun _ => (0 : Int)) nt.ports.length = 0 := sumI_zero fun _ _ => rfl
  omega
def gapQ (nt : Net) (L : List Arc) (f : Nat → Bool) (q : Nat) : Int := if f q = true then restA nt L q else defA nt L q
theorem lack_flow (hv : netB nt = true) (hst : St nt L) : lackS nt f = sumI (defA nt L) nt.ports.length - sumI (gapQ nt L f) nt.ports.length - sumI (lossW nt (movesL L nt.ways.length) f) nt.ways.length := by
  rw [lack_id (mv := movesL L nt.ways.length) hv, ← sumI_sub]
  congr 1
  exact sumI_congr fun q hq => by
    rw [ext_bal hv hst hq]
    unfold gapQ
    split <;> omega
theorem flow_loss (hst : St nt L) {j : Nat} (hj : j < nt.ways.length) : 0 ≤ lossW nt (movesL L nt.ways.length) f j ∧ (lossW nt (movesL L nt.ways.length) f j = 0 → (f (nt.ways.getD j way0).to.toNat = true → f (nt.ways.getD j way0).fr.toNat = false → (arcAt L (2 * j)).room = 0) ∧ (f (nt.ways.getD j way0).fr.toNat = true → f (nt.ways.getD j way0).to.toNat = false → (arcAt L (2 * j + 1)).room = 0)) := by
  obtain ⟨h1, h2, h3⟩ := way_pair hst hj
  have e := moves_at L hj
  obtain ⟨g1, g2⟩ := loss_cases (nt := nt) (mv := movesL L nt.ways.length) (f := f) (j := j) (by omega) (by omega)
  refine ⟨g1, fun h0 => ?_⟩
  obtain ⟨g3, g4⟩ := g2 h0
  exact ⟨fun a b => by have := g3 a b; omega, fun a b => by have := g4 a b; omega⟩
theorem gap_nn (hst : St nt L) {q : Nat} (hq : q < nt.ports.length) : 0 ≤ gapQ nt L f q := by
  have := rest_nn hst hq
  unfold gapQ
  split <;> omega
theorem lack_le (hv : netB nt = true) (hst : St nt L) : lackS nt f ≤ sumI (defA nt L) nt.ports.length := by
  rw [lack_flow hv hst]
  have h1 : 0 ≤ sumI (gapQ nt L f) nt.ports.length := sumI_nn fun q hq => gap_nn hst hq
  have h2 : 0 ≤ sumI (lossW nt (movesL L nt.ways.length) f) nt.ways.length := sumI_nn fun j hj => (flow_loss hst hj).1
  omega
/-- a set with the greatest lack has all nodes from which the sink could get hulls -/
theorem lack_all (hv : netB nt = true) (hst : St nt L) (h : lackS nt f = sumI (defA nt L) nt.ports.length) {v : Nat} (hl : Lk L (nt.ports.length + 1) v) : v ≠ nt.ports.length ∧ (v < nt.ports.length → f v = true) := by
  have key := lack_flow (f := f) hv hst
  have h1 : 0 ≤ sumI (gapQ nt L f) nt.ports.length := sumI_nn fun q hq => gap_nn hst hq
  have h2 : 0 ≤ sumI (lossW nt (movesL L nt.ways.length) f) nt.ways.length := sumI_nn fun j hj => (flow_loss hst hj).1
  have z1 := sumI_each (f := gapQ nt L f) (n := nt.ports.length) (fun q hq => gap_nn (f := f) hst hq) (by omega)
  have z2 := sumI_each (f := lossW nt (movesL L nt.ways.length) f) (n := nt.ways.length) (fun j hj => (flow_loss (f := f) hst hj).1) (by omega)
  obtain ⟨⟨hp1, hp60⟩, hw3, hvp, hvw⟩ := netB_ok hv
  have hlen := hst.len
  induction hl with
  | base => exact ⟨by omega, fun h => by omega⟩
  | @step i hi hr _ ih =>
    have s := hst.good.shape i
    rcases open_cases (nt := nt) (i := i) (by rw [← hst.good.len]; exact hi) with ⟨j, hj, rfl | rfl⟩ | ⟨q, hq, rfl | rfl | rfl | rfl⟩
    · obtain ⟨o0, o1⟩ := open_way (nt := nt) hj
      rw [o0] at s
      simp only at s
      have hw := hvw j hj
      obtain ⟨_, g⟩ := flow_loss (f := f) hst hj
      obtain ⟨g1, _⟩ := g (z2 j hj)
      rw [s.2.1] at ih
      rw [s.1]
      refine ⟨by omega, fun _ => ?_⟩
      cases e : f (nt.ways.getD j way0).fr.toNat with
      | true => rfl
      | false => have := g1 (ih.2 (by omega)) e; omega
    · obtain ⟨o0, o1⟩ := open_way (nt := nt) hj
      rw [o1] at s
      simp only at s
      have hw := hvw j hj
      obtain ⟨_, g⟩ := flow_loss (f := f) hst hj
      obtain ⟨_, g2⟩ := g (z2 j hj)
      rw [s.2.1] at ih
      rw [s.1]
      refine ⟨by omega, fun _ => ?_⟩
      cases e : f (nt.ways.getD j way0).to.toNat with
      | true => rfl
      | false => have := g2 (ih.2 (by omega)) e; omega
    · rw [(open_port (nt := nt) hq).1] at s
      simp only at s
      rw [s.2.1] at ih
      have := z1 q hq
      unfold gapQ at this
      rw [if_pos (ih.2 hq)] at this
      unfold restA at this
      omega
    · rw [(open_port (nt := nt) hq).2.1] at s
      simp only at s
      rw [s.2.1] at ih
      exact absurd rfl ih.1
    · rw [(open_port (nt := nt) hq).2.2.1] at s
      simp only at s
      rw [s.1]
      refine ⟨by omega, fun _ => ?_⟩
      cases e : f q with
      | true => rfl
      | false =>
        have := z1 q hq
        unfold gapQ at this
        rw [e, if_neg (by decide)] at this
        unfold defA at this
        omega
    · rw [(open_port (nt := nt) hq).2.2.2] at s
      simp only at s
      rw [s.1]
      exact ⟨by omega, fun h => by omega⟩
/-- where no hulls can come any more -/
theorem FillTo.cut {L0 : List Arc} (hF : FillTo nt L0 L) : ∃ l b, EndsAt L (bf0 (nt.ports.length + 2) (initS nt)) l b ∧ b.getD (nt.ports.length + 1) 0 < 0 := by
  induction hF with
  | stop h1 h2 => exact ⟨_, _, h1, h2⟩
  | step _ _ _ _ ih => exact ih
theorem no_way {L0 : List Arc} (hv : netB nt = true) (hst : St nt L) (hF : FillTo nt L0 L) : ¬Lk L (nt.ports.length + 1) nt.ports.length := by
  obtain ⟨l, b, hE, hb⟩ := hF.cut
  have hFar := hst.far hv hE
  have : ∀ v, Lk L (nt.ports.length + 1) v → l.getD v 0 < farI → l.getD (nt.ports.length + 1) 0 < farI := by
    intro v h
    induction h with
    | base => exact fun h => h
    | step hi hr _ ih => exact fun h => ih (hFar.feas.step _ hi hr h).1
  intro h
  have h1 := this _ h (by rw [hFar.src]; decide)
  rcases hFar.none (nt.ports.length + 1) (by omega) (by omega) with ⟨_, h2⟩ | ⟨h2, _⟩ <;> omega
/-- the nodes from which the sink could get hulls have the greatest lack -/
theorem lack_lk {L0 : List Arc} (hv : netB nt = true) (hst : St nt L) (hF : FillTo nt L0 L) (hf : ∀ v, f v = true ↔ Lk L (nt.ports.length + 1) v) : lackS nt f = sumI (defA nt L) nt.ports.length := by
  have hno := no_way hv hst hF
  obtain ⟨⟨hp1, hp60⟩, hw3, hvp, hvw⟩ := netB_ok hv
  have hlen := hst.len
  have lk : ∀ i, i < L.length → 0 < (arcAt L i).room → f (arcAt L i).to = true → f (arcAt L i).fr = true := fun i hi hr h => (hf _).2 (.step hi hr ((hf _).1 h))
  have hs : f nt.ports.length = false := by
    cases e : f nt.ports.length with
    | false => rfl
    | true => exact absurd ((hf _).1 e) hno
  have hsink : f (nt.ports.length + 1) = true := (hf _).2 .base
  rw [lack_flow hv hst]
  have z1 : sumI (gapQ nt L f) nt.ports.length = 0 := sumI_zero fun q hq => by
    have hr := rest_nn hst hq
    obtain ⟨o0, _, o2, _⟩ := open_port (nt := nt) hq
    have s0 := hst.good.shape (2 * nt.ways.length + 4 * q)
    have s2 := hst.good.shape (2 * nt.ways.length + 4 * q + 2)
    rw [o0] at s0
    rw [o2] at s2
    simp only at s0 s2
    have l0 := lk (2 * nt.ways.length + 4 * q) (by omega)
    have l2 := lk (2 * nt.ways.length + 4 * q + 2) (by omega)
    rw [s0.1, s0.2.1] at l0
    rw [s2.1, s2.2.1] at l2
    unfold gapQ
    unfold restA defA at hr ⊢
    cases e : f q with
    | true =>
      rw [if_pos rfl]
      by_cases h : 0 < (arcAt L (2 * nt.ways.length + 4 * q)).room
      · rw [l0 h e] at hs; cases hs
      · omega
    | false =>
      rw [if_neg (by decide)]
      by_cases h : 0 < (arcAt L (2 * nt.ways.length + 4 * q + 2)).room
      · rw [l2 h hsink] at e; cases e
      · omega
  have z2 : sumI (lossW nt (movesL L nt.ways.length) f) nt.ways.length = 0 := sumI_zero fun j hj => by
    obtain ⟨h1, h2, h3⟩ := way_pair hst hj
    obtain ⟨o0, o1⟩ := open_way (nt := nt) hj
    have s0 := hst.good.shape (2 * j)
    have s1 := hst.good.shape (2 * j + 1)
    rw [o0] at s0
    rw [o1] at s1
    simp only at s0 s1
    have l0 := lk (2 * j) (by omega)
    have l1 := lk (2 * j + 1) (by omega)
    rw [s0.1, s0.2.1] at l0
    rw [s1.1, s1.2.1] at l1
    unfold lossW lkB
    rw [moves_at L hj]
    cases e1 : f (nt.ways.getD j way0).to.toNat <;> cases e2 : f (nt.ways.getD j way0).fr.toNat <;> simp only [Bool.not_true, Bool.not_false, Bool.and_true, Bool.and_false, Bool.true_and, Bool.false_and, Bool.false_eq_true, if_true, if_false, if_pos]
    · omega
    · by_cases h : 0 < (arcAt L (2 * j + 1)).room
      · rw [l1 h e2] at e1; cases e1
      · omega
    · by_cases h : 0 < (arcAt L (2 * j)).room
      · rw [l0 h e1] at e2; cases e2
      · omega
    · omega
  omega
/-- hulls lack just if no moves are possible -/
theorem full_feas {L0 : List Arc} (hv : netB nt = true) (hst : St nt L) (hF : FillTo nt L0 L) : (fullB nt L = true ↔ ∃ mv, aftErr nt mv = 0) ∧ (fullB nt L = true ↔ sumI (defA nt L) nt.ports.length = 0) := by
  have hz : sumI (defA nt L) nt.ports.length ≤ 0 → fullB nt L = true := fun h => (full_iff hst).2 fun q hq => by
    have := sumI_each (f := defA nt L) (n := nt.ports.length) (fun q hq => (rest_nn hst hq).2) h q hq
    omega
  have hn : 0 ≤ sumI (defA nt L) nt.ports.length := sumI_nn fun q hq => (rest_nn hst hq).2
  refine ⟨⟨fun h => ⟨_, full_aft hv hst h⟩, fun ⟨mv, ha⟩ => hz ?_⟩, fun h => ?_, fun h => hz (by omega)⟩
  · classical
    have h1 := lack_lk (f := fun v => decide (Lk L (nt.ports.length + 1) v)) hv hst hF fun v => by simp
    have h2 := lack_none (f := fun v => decide (Lk L (nt.ports.length + 1) v)) hv ha
    omega
  · refine sumI_zero fun q hq => ?_
    have h1 := (full_iff hst).1 h q hq
    have h2 := (rest_nn hst hq).2
    omega
end
/-! ### Lacks -/
theorem lk1_snoc {nt : Net} {ls : List Int} {x : Int} : ∀ k, k ≤ ls.length → lk1 nt (ls ++ [x]) k = lk1 nt ls k
  | 0, _ => rfl
  | k + 1, h => by
    rw [lk1, lk1, lk1_snoc k (by omega)]
    have : (ls ++ [x]).getD k 0 = ls.getD k 0 := by
      simp only [List.getD_eq_getElem?_getD]
      rw [List.getElem?_append_left (by omega)]
    rw [this]
theorem lackL_succ (f : Nat → Bool) (n : Nat) : lackL f (n + 1) = lackL f n ++ (if f n = true then [((n : Nat) : Int)] else []) := by
  unfold lackL
  rw [List.range_succ, List.filter_append, List.map_append]
  congr 1
  cases h : f n <;> simp [h]
theorem lk1_sum {nt : Net} {f : Nat → Bool} : ∀ n, lk1 nt (lackL f n) (lackL f n).length = sumI (fun q => if f q = true then (nt.ports.getD q prt0).wants - (nt.ports.getD q prt0).has else 0) n
  | 0 => rfl
  | n + 1 => by
    have ih := lk1_sum (nt := nt) (f := f) n
    rw [lackL_succ, sumI, ← ih]
    cases h : f n with
    | false => simp
    | true =>
      rw [if_pos rfl, if_pos rfl, List.length_append, List.length_singleton, lk1, lk1_snoc _ (Nat.le_refl _)]
      have : (lackL f n ++ [((n : Nat) : Int)]).getD (lackL f n).length 0 = n := by simp [List.getD]
      rw [this, Int.toNat_natCast]
theorem lk2_sum {nt : Net} {f : Nat → Bool} : ∀ k, lk2 nt f k = sumI (fun q => if f q = true then (nt.ports.getD q prt0).wants - (nt.ports.getD q prt0).has else 0) nt.ports.length - sumI (fun j => if lkB nt f j = true then (nt.ways.getD j way0).room else 0) k
  | 0 => by rw [lk2, lk1_sum, sumI]; omega
  | k + 1 => by
    rw [lk2, lk2_sum k, sumI]
    split <;> omega
theorem lk2_lack {nt : Net} {f : Nat → Bool} : lk2 nt f nt.ways.length = lackS nt f := lk2_sum _
/-- what Lacks tells -/
theorem lacks_ok {nt : Net} {ls : List Int} {lack e : Int} (hv : netB nt = true) (h : LacksR nt ls lack e) : e = 0 ∧ 0 ≤ lack ∧ (∃ f : Nat → Bool, ls = lackL f nt.ports.length ∧ lack = lackS nt f ∧ ∀ g, lackS nt g ≤ lack ∧ (lackS nt g = lack → ∀ q, q < nt.ports.length → f q = true → g q = true)) ∧ (lack = 0 ↔ ∃ mv, aftErr nt mv = 0) ∧ (lack = 0 ↔ ls = []) := by
  rcases h with ⟨h1, _⟩ | ⟨_, h2, L, f, hF, hst, hf, h3, h4⟩
  · rw [hv] at h1; cases h1
  · have hl := lack_lk hv hst hF hf
    have hn : 0 ≤ sumI (defA nt L) nt.ports.length := sumI_nn fun q hq => (rest_nn hst hq).2
    rw [lk2_lack] at h4
    have hfe := full_feas hv hst hF
    have hall : ∀ g, lackS nt g ≤ lack ∧ (lackS nt g = lack → ∀ q, q < nt.ports.length → f q = true → g q = true) := fun g => ⟨by rw [h4, hl]; exact lack_le hv hst, fun e q hq hfq => (lack_all hv hst (by rw [e, h4, hl]) ((hf q).1 hfq)).2 hq⟩
    refine ⟨h2, by omega, ⟨f, h3, h4, hall⟩, ?_, ?_⟩
    · rw [h4, hl, ← hfe.2]
      exact hfe.1
    · constructor
      · intro h0
        have hz : lackS nt (fun _ => false) = 0 := by
          unfold lackS lkB
          simp only [Bool.false_and, Bool.false_eq_true, if_false]
          rw [sumI_zero (fun _ _ => rfl), sumI_zero (fun _ _ => rfl)]
          rfl
        have := (hall fun _ => false).2 (by rw [hz, h0])
        rw [h3]
        cases e : lackL f nt.ports.length with
        | nil => rfl
        | cons x l =>
          obtain ⟨v, h5, h6, _⟩ := lackL_mem.1 (show x ∈ lackL f nt.ports.length by rw [e]; exact List.mem_cons_self)
          exact absurd (this v h5 h6) (by decide)
      · intro h0
        rw [h3] at h0
        have hf0 : ∀ q, q < nt.ports.length → f q = false := fun q hq => by
          cases e : f q with
          | false => rfl
          | true =>
            have := lackL_mem.2 ⟨q, hq, e, rfl⟩
            rw [h0] at this
            cases this
        have h5 : lackS nt f ≤ 0 := by
          obtain ⟨_, _, _, hvw⟩ := netB_ok hv
          unfold lackS
          rw [sumI_zero (fun q hq => by rw [hf0 q hq, if_neg (by decide)])]
          have : 0 ≤ sumI (fun j => if lkB nt f j = true then (nt.ways.getD j way0).room else 0) nt.ways.length := sumI_nn fun j hj => by
            have := hvw j hj
            split <;> omega
          omega
        omega
end Go.Proofs.Ytabgmnmpdjnjoaa
set_option linter.unusedVariables false
set_option linter.unusedSimpArgs false
namespace Go.Proofs.Ytabgmnmpdjnjoaa
open Go Go.RowKit
theorem list_getD_ext {l m : List Int} (hl : l.length = m.length) (h : ∀ i, i < l.length → l.getD i 0 = m.getD i 0) : l = m := by
  apply List.ext_getElem hl
  intro i h1 h2
  have := h i h1
  rwa [getD_in h1, getD_in h2] at this
/-- moves with what each port has more than it wants -/
structure MoreAt (nt : Net) (mo ov : List Int) : Prop where
  len : mo.length = nt.ways.length
  eov : ov = extL nt mo
  ok : okTo nt mo nt.ways.length = true
  nn : ∀ q, q < nt.ports.length → 0 ≤ ov.getD q 0
section
variable {nt : Net} {mo ov : List Int}
theorem MoreAt.lov (h : MoreAt nt mo ov) : ov.length = nt.ports.length := by rw [h.eov]; exact extTo_len _
theorem MoreAt.room (h : MoreAt nt mo ov) {i : Nat} (hi : i < nt.ways.length) : 0 ≤ mo.getD i 0 ∧ mo.getD i 0 ≤ (nt.ways.getD i way0).room := okTo_at h.ok hi
theorem MoreAt.bd (hv : netB nt = true) (h : MoreAt nt mo ov) (q : Nat) : -400000 ≤ ov.getD q 0 ∧ ov.getD q 0 ≤ 400000 := by
  obtain ⟨_, hw, _⟩ := netB_ok hv
  have := ext_bd (nt := nt) (mv := mo) hv nt.ways.length (Nat.le_refl _) h.ok q
  rw [h.eov]
  unfold extL
  omega
theorem MoreAt.step (hv : netB nt = true) (h : MoreAt nt mo ov) {i : Nat} (hi : i < nt.ways.length) {d : Int} (h0 : 0 ≤ mo.getD i 0 + d) (h1 : mo.getD i 0 + d ≤ (nt.ways.getD i way0).room) (h2 : 0 ≤ ov.getD (nt.ways.getD i way0).fr.toNat 0 - d) (h3 : 0 ≤ ov.getD (nt.ways.getD i way0).to.toNat 0 + d) :
    MoreAt nt (mo.set i (mo.getD i 0 + d)) ((ov.set (nt.ways.getD i way0).fr.toNat (ov.getD (nt.ways.getD i way0).fr.toNat 0 - d)).set (nt.ways.getD i way0).to.toNat (ov.getD (nt.ways.getD i way0).to.toNat 0 + d)) := by
  obtain ⟨_, _, _, hvw⟩ := netB_ok hv
  obtain ⟨⟨wf0, wf1⟩, ⟨wt0, wt1⟩, wne, _⟩ := hvw i hi
  have hl := h.len
  have hlo := h.lov
  have hat : ∀ v, v < nt.ports.length → ((ov.set (nt.ways.getD i way0).fr.toNat (ov.getD (nt.ways.getD i way0).fr.toNat 0 - d)).set (nt.ways.getD i way0).to.toNat (ov.getD (nt.ways.getD i way0).to.toNat 0 + d)).getD v 0 = ov.getD v 0 + (if v = (nt.ways.getD i way0).to.toNat then d else 0) - (if v = (nt.ways.getD i way0).fr.toNat then d else 0) := fun v hp => by
    rw [getD_set0 (by rw [List.length_set]; omega)]
    by_cases a : v = (nt.ways.getD i way0).to.toNat
    · rw [if_pos a, if_pos a, if_neg (by omega), a]; omega
    · rw [if_neg a, if_neg a, getD_set0 (by omega)]
      by_cases b : v = (nt.ways.getD i way0).fr.toNat
      · rw [if_pos b, if_pos b, b]; omega
      · rw [if_neg b, if_neg b]; omega
  refine ⟨by rw [List.length_set]; exact hl, ?_, ?_, fun q hq => ?_⟩
  · refine list_getD_ext (by rw [List.length_set, List.length_set, hlo]; exact (extTo_len _).symm) fun v hv' => ?_
    rw [List.length_set, List.length_set, hlo] at hv'
    have e1 := ext_sum (mv := mo) hv hv' nt.ways.length (Nat.le_refl _)
    have e2 := ext_sum (mv := mo.set i (mo.getD i 0 + d)) hv hv' nt.ways.length (Nat.le_refl _)
    have e3 : sumI (fun j => (if v = (nt.ways.getD j way0).to.toNat then (mo.set i (mo.getD i 0 + d)).getD j 0 else 0) - (if v = (nt.ways.getD j way0).fr.toNat then (mo.set i (mo.getD i 0 + d)).getD j 0 else 0)) nt.ways.length = sumI (fun j => ((if v = (nt.ways.getD j way0).to.toNat then mo.getD j 0 else 0) - (if v = (nt.ways.getD j way0).fr.toNat then mo.getD j 0 else 0)) + (if j = i then (if v = (nt.ways.getD i way0).to.toNat then d else 0) - (if v = (nt.ways.getD i way0).fr.toNat then d else 0) else 0)) nt.ways.length := sumI_congr fun j hj => by
      rw [getD_set0 (by omega)]
      by_cases e : j = i
      · subst e
        rw [if_pos rfl, if_pos rfl]
        split <;> split <;> omega
      · rw [if_neg e, if_neg e]; omega
    rw [sumI_add, sumI_at, if_pos hi] at e3
    rw [hat v hv', h.eov]
    unfold extL
    rw [e1, e2, e3]
    omega
  · unfold okTo
    rw [List.all_eq_true]
    intro j hj
    have hj := List.mem_range.1 hj
    have := h.room hj
    unfold okMv
    rw [inB_iff, getD_set0 (by omega)]
    by_cases e : j = i
    · subst e; rw [if_pos rfl]; omega
    · rw [if_neg e]; omega
  · rw [hat q hq]
    have := h.nn q hq
    by_cases a : q = (nt.ways.getD i way0).to.toNat
    · rw [if_pos a, if_neg (by omega)]; rw [← a] at h3; omega
    · rw [if_neg a]
      by_cases b : q = (nt.ways.getD i way0).fr.toNat
      · rw [if_pos b]; rw [← b] at h2; omega
      · rw [if_neg b]; omega
theorem MoreAt.back (hv : netB nt = true) (h : MoreAt nt mo ov) {i : Nat} (hi : i < nt.ways.length) {k : Int} (h0 : 0 ≤ mo.getD i 0 - k) (h1 : mo.getD i 0 - k ≤ (nt.ways.getD i way0).room) (h2 : 0 ≤ ov.getD (nt.ways.getD i way0).fr.toNat 0 + k) (h3 : 0 ≤ ov.getD (nt.ways.getD i way0).to.toNat 0 - k) :
    MoreAt nt (mo.set i (mo.getD i 0 - k)) ((ov.set (nt.ways.getD i way0).fr.toNat (ov.getD (nt.ways.getD i way0).fr.toNat 0 + k)).set (nt.ways.getD i way0).to.toNat (ov.getD (nt.ways.getD i way0).to.toNat 0 - k)) := by
  have key := h.step hv hi (d := -k) (by omega) (by omega) (by omega) (by omega)
  rw [show mo.getD i 0 + -k = mo.getD i 0 - k by omega, show ov.getD (nt.ways.getD i way0).fr.toNat 0 - -k = ov.getD (nt.ways.getD i way0).fr.toNat 0 + k by omega, show ov.getD (nt.ways.getD i way0).to.toNat 0 + -k = ov.getD (nt.ways.getD i way0).to.toNat 0 - k by omega] at key
  exact key
end
section
variable {nt : Net} {i : Nat}
end
end Go.Proofs.Ytabgmnmpdjnjoaa
set_option linter.unusedVariables false
namespace Go.Proofs.Ytabgmnmpdjnjoaa
open Go Go.RowKit
/-- the block that a pointer or a slice points to -/
def blk0 : Value → Option Nat
  | .pointer (some a) => some a.block
  | .slice (some a) _ _ => some a.block
  | _ => none
section
variable {P : Program} {n : Nat} {σ : Sg} {w : World} {Q : Exit → Act → World → Prop} {L : List Oper}
/-- when some of the head have come up -/
structure HInvA (n : Nat) (L : List Oper) (cls : List (List Nat)) (m : Nat) (alc : List Nat) (σ : Sg) (w : World) (Φ : Nat → (Nat → Value) → World → Prop) (D : Array Bool) (val : Nat → Value) (a : Act) (w' : World) : Prop where
  below : Below w.heap.size w w'
  size : a.tmps.size = n
  defers : a.defers = []
  new : ∀ i d, i < m → D.getD i false = true → dstOf L i = some d → a.tmps[d]? = some (val i)
  old : ∀ t v, σ t = some v → (∀ k, k < m → D.getD k false = true → dstOf L k ≠ some t) → a.tmps[t]? = some v
  says : ∀ i, i < m → D.getD i false = true → Φ i (res val i (clsAt cls i)) w'
  down : ∀ i, D.getD i false = true → ∀ j ∈ clsAt cls i, D.getD j false = true
  alc1 : ∀ i ∈ alc, i < m → D.getD i false = true → ∃ g, blk0 (val i) = some g ∧ w.heap.size ≤ g ∧ g < w'.heap.size
  alc2 : ∀ i ∈ alc, ∀ j ∈ alc, i < m → j < m → D.getD i false = true → D.getD j false = true → i ≠ j → blk0 (val i) ≠ blk0 (val j)
  high : ∀ i, m ≤ i → D.getD i false = false
end
section
variable {P : Program} {n : Nat} {σ : Sg} {w : World} {L : List Oper} {cls : List (List Nat)} {alc : List Nat} {val : Nat → Value} {a : Act} {w1 : World} {i m : Nat} {Q : Exit → Act → World → Prop} {Φ : Nat → (Nat → Value) → World → Prop}
end
end Go.Proofs.Ytabgmnmpdjnjoaa
set_option linter.unusedVariables false
set_option linter.unusedSimpArgs false
namespace Go.Proofs.Ytabgmnmpdjnjoaa
open Go Go.RowKit
def bL (f : Nat → Bool) (n : Nat) : List Bool := (List.range n).map f
theorem bL_len (f : Nat → Bool) (n : Nat) : (bL f n).length = n := by simp [bL]
theorem bL_at {f : Nat → Bool} {n v : Nat} (h : v < n) : (bL f n).getD v false = f v := by simp [bL, List.getD, h]
theorem listB_ext {l m : List Bool} (hl : l.length = m.length) (h : ∀ i, i < l.length → l.getD i false = m.getD i false) : l = m := by
  apply List.ext_getElem hl
  intro i h1 h2
  have := h i h1
  rwa [getD_in h1, getD_in h2] at this
theorem getD_setB {l : List Bool} {v i : Nat} {x : Bool} (hi : i < l.length) : (l.set i x).getD v false = if v = i then x else l.getD v false := by
  simp only [List.getD_eq_getElem?_getD, List.getElem?_set]
  by_cases h : i = v
  · subst h; simp [hi]
  · rw [if_neg h, if_neg (Ne.symm h)]
/-- the ports that have been marked -/
structure InAt (ls : List Int) (n x : Nat) (b : List Bool) : Prop where
  len : b.length = n
  at_ : ∀ v, v < n → (b.getD v false = true ↔ ∃ j, j < x ∧ ls.getD j 0 = ((v : Nat) : Int))
theorem InAt.start (ls : List Int) (n : Nat) : InAt ls n 0 (List.replicate n false) := ⟨by simp, fun v hv => by
  constructor
  · intro h; simp [List.getD, hv] at h
  · rintro ⟨j, hj, _⟩; omega⟩
theorem InAt.step {ls : List Int} {n x v : Nat} {b : List Bool} (h : InAt ls n x b) (hv : v < n) (he : ls.getD x 0 = ((v : Nat) : Int)) : InAt ls n (x + 1) (b.set v true) := ⟨by rw [List.length_set]; exact h.len, fun u hu => by
  rw [getD_setB (by rw [h.len]; exact hv)]
  by_cases e : u = v
  · subst e
    rw [if_pos rfl]
    exact ⟨fun _ => ⟨x, by omega, he⟩, fun _ => rfl⟩
  · rw [if_neg e, h.at_ u hu]
    constructor
    · rintro ⟨j, hj, h2⟩; exact ⟨j, by omega, h2⟩
    · rintro ⟨j, hj, h2⟩
      by_cases e2 : j = x
      · subst e2; rw [he] at h2; omega
      · exact ⟨j, by omega, h2⟩⟩
theorem InAt.fin {f : Nat → Bool} {n : Nat} {b : List Bool} (h : InAt (lackL f n) n (lackL f n).length b) : b = bL f n := by
  refine listB_ext (by rw [h.len, bL_len]) fun v hv => ?_
  rw [h.len] at hv
  rw [bL_at hv]
  have key := h.at_ v hv
  cases e : f v with
  | true =>
    rw [key]
    obtain ⟨j, hj, e2⟩ := List.getElem_of_mem (lackL_mem.2 ⟨v, hv, e, rfl⟩)
    exact ⟨j, hj, by rw [getD_in hj]; exact e2⟩
  | false =>
    cases e3 : b.getD v false with
    | false => rfl
    | true =>
      obtain ⟨j, hj, h2⟩ := key.1 e3
      obtain ⟨u, _, h4, h5⟩ := lackL_at (f := f) (n := n) hj
      rw [h5] at h2
      have : u = v := by omega
      subst this
      rw [h4] at e
      cases e
/-! ### What a set lacks, in the order of the law -/
section
variable (nt : Net) (f : Nat → Bool)
def sumP (k : Nat) : Int := sumI (fun q => if f q = true then (nt.ports.getD q prt0).wants - (nt.ports.getD q prt0).has else 0) k
def sumW (k : Nat) : Int := sumP nt f nt.ports.length - sumI (fun j => if lkB nt f j = true then (nt.ways.getD j way0).room else 0) k
end
section
variable {nt : Net} {f : Nat → Bool}
theorem sumP_succ (k : Nat) : sumP nt f (k + 1) = sumP nt f k + (if f k = true then (nt.ports.getD k prt0).wants - (nt.ports.getD k prt0).has else 0) := rfl
theorem sumW_succ (k : Nat) : sumW nt f (k + 1) = sumW nt f k - (if lkB nt f k = true then (nt.ways.getD k way0).room else 0) := by
  unfold sumW
  rw [sumI]
  omega
theorem sumW_zero : sumW nt f 0 = sumP nt f nt.ports.length := by unfold sumW; rw [sumI]; omega
theorem sumP_bd (hv : netB nt = true) : ∀ k, k ≤ nt.ports.length → -(1000 * (k : Int)) ≤ sumP nt f k ∧ sumP nt f k ≤ 1000 * (k : Int)
  | 0, _ => by show _ ≤ (0 : Int) ∧ (0 : Int) ≤ _; omega
  | k + 1, hk => by
    obtain ⟨_, _, hvp, _⟩ := netB_ok hv
    have h1 := sumP_bd hv k (by omega)
    have h2 := hvp k (by omega)
    rw [sumP_succ]
    split <;> omega
theorem sumW_bd (hv : netB nt = true) : ∀ k, k ≤ nt.ways.length → -(60000 + 1000 * (k : Int)) ≤ sumW nt f k ∧ sumW nt f k ≤ 60000
  | 0, _ => by
    obtain ⟨⟨_, h60⟩, _⟩ := netB_ok hv
    have h1 := sumP_bd (f := f) hv _ (Nat.le_refl _)
    rw [sumW_zero]
    omega
  | k + 1, hk => by
    obtain ⟨_, _, _, hvw⟩ := netB_ok hv
    have h1 := sumW_bd hv k (by omega)
    have h2 := hvw k (by omega)
    rw [sumW_succ]
    split <;> omega
end
end Go.Proofs.Ytabgmnmpdjnjoaa
set_option linter.unusedVariables false
set_option linter.unusedSimpArgs false
namespace Go.Proofs.Ytabgmnmpdjnjoaa
open Go Go.RowKit
def setB (s : Nat) : Nat → Bool := fun v => s.testBit v
theorem sumI_if_congr {f g : Nat → Bool} {x : Nat → Int} {n : Nat} (h : ∀ q, q < n → f q = g q) : sumI (fun q => if f q = true then x q else 0) n = sumI (fun q => if g q = true then x q else 0) n := sumI_congr fun q hq => by rw [h q hq]
theorem lackS_congr {nt : Net} (hv : netB nt = true) {f g : Nat → Bool} (h : ∀ q, q < nt.ports.length → f q = g q) : lackS nt f = lackS nt g := by
  obtain ⟨_, _, _, hvw⟩ := netB_ok hv
  unfold lackS
  rw [sumI_if_congr h, sumI_if_congr (f := lkB nt f) (g := lkB nt g) fun j hj => by
    have := hvw j hj
    unfold lkB
    rw [h _ (by omega), h _ (by omega)]]
theorem lackL_congr {f g : Nat → Bool} : ∀ {n : Nat}, (∀ q, q < n → f q = g q) → lackL f n = lackL g n
  | 0, _ => rfl
  | n + 1, h => by rw [lackL_succ, lackL_succ, lackL_congr fun q hq => h q (by omega), h n (by omega)]
/-- each set has a number -/
theorem set_num (f : Nat → Bool) : ∀ n : Nat, ∃ t, t < 2 ^ n ∧ ∀ v, v < n → t.testBit v = f v
  | 0 => ⟨0, by simp, fun v h => absurd h (Nat.not_lt_zero _)⟩
  | n + 1 => by
    obtain ⟨t, h1, h2⟩ := set_num f n
    refine ⟨2 ^ n * (if f n = true then 1 else 0) + t, ?_, fun v hv => ?_⟩
    · rw [Nat.pow_succ]
      split <;> omega
    · rw [Nat.testBit_two_pow_mul_add _ h1]
      by_cases e : v < n
      · rw [if_pos e]; exact h2 v e
      · rw [if_neg e, show v = n by omega, Nat.sub_self]
        cases f n <;> rfl
/-- the greatest lack of the first sets, and the ports that are in all of them with it -/
structure LkAt (nt : Net) (s : Nat) (most : Int) (common : Nat) : Prop where
  le : ∀ t, t < s → lackS nt (setB t) ≤ most
  ex : ∃ t, t < s ∧ lackS nt (setB t) = most
  com : ∀ v, common.testBit v = true ↔ ∀ t, t < s → lackS nt (setB t) = most → t.testBit v = true
theorem lackS_none (nt : Net) : lackS nt (setB 0) = 0 := by
  have h : ∀ v, setB 0 v = false := fun v => Nat.zero_testBit v
  unfold lackS lkB
  simp only [h, Bool.false_and, Bool.false_eq_true, if_false]
  rw [sumI_zero (fun _ _ => rfl), sumI_zero (fun _ _ => rfl)]
  rfl
theorem LkAt.start (nt : Net) : LkAt nt 1 0 0 := by
  refine ⟨fun t ht => ?_, ⟨0, by omega, lackS_none nt⟩, fun v => ⟨fun h => ?_, fun h => h 0 (by omega) (lackS_none nt)⟩⟩
  · have e : t = 0 := by omega
    subst e
    exact Int.le_of_eq (lackS_none nt)
  · rw [Nat.zero_testBit] at h; cases h
section
variable {nt : Net} {s common : Nat} {most : Int}
theorem LkAt.more (h : LkAt nt s most common) (hm : most < lackS nt (setB s)) : LkAt nt (s + 1) (lackS nt (setB s)) s := by
  refine ⟨fun t ht => ?_, ⟨s, by omega, rfl⟩, fun v => ⟨fun hb t ht e => ?_, fun hb => hb s (by omega) rfl⟩⟩
  · by_cases e : t = s
    · subst e; exact Int.le_refl _
    · have := h.le t (by omega); omega
  · by_cases e2 : t = s
    · subst e2; exact hb
    · have := h.le t (by omega); omega
theorem LkAt.same (h : LkAt nt s most common) (hm : lackS nt (setB s) = most) : LkAt nt (s + 1) most (common &&& s) := by
  refine ⟨fun t ht => ?_, ⟨s, by omega, hm⟩, fun v => ?_⟩
  · by_cases e : t = s
    · subst e; exact Int.le_of_eq hm
    · exact h.le t (by omega)
  · rw [Nat.testBit_and, Bool.and_eq_true, h.com]
    constructor
    · rintro ⟨h1, h2⟩ t ht e
      by_cases e2 : t = s
      · subst e2; exact h2
      · exact h1 t (by omega) e
    · intro h1
      exact ⟨fun t ht e => h1 t (by omega) e, h1 s (by omega) hm⟩
theorem LkAt.less (h : LkAt nt s most common) (hm : lackS nt (setB s) < most) : LkAt nt (s + 1) most common := by
  refine ⟨fun t ht => ?_, ?_, fun v => ?_⟩
  · by_cases e : t = s
    · subst e; exact Int.le_of_lt hm
    · exact h.le t (by omega)
  · obtain ⟨t, h1, h2⟩ := h.ex
    exact ⟨t, by omega, h2⟩
  · rw [h.com]
    constructor
    · intro h1 t ht e
      by_cases e2 : t = s
      · subst e2; omega
      · exact h1 t (by omega) e
    · intro h1 t ht e
      exact h1 t (by omega) e
end
/-- both find the same -/
theorem lacks_same {nt : Net} {ls : List Int} {lack e most : Int} {common : Nat} (hv : netB nt = true) (h : LacksR nt ls lack e) (hk : LkAt nt (2 ^ nt.ports.length) most common) : lack = most ∧ ls = lackL (setB common) nt.ports.length := by
  obtain ⟨_, _, ⟨f, h1, h2, h3⟩, _⟩ := lacks_ok hv h
  obtain ⟨t, ht, hf⟩ := set_num f nt.ports.length
  have e1 : lackS nt (setB t) = lack := by rw [h2]; exact lackS_congr hv hf
  have e2 : lack = most := by
    obtain ⟨u, _, hu⟩ := hk.ex
    have := hk.le t ht
    have := (h3 (setB u)).1
    omega
  refine ⟨e2, ?_⟩
  rw [h1]
  refine lackL_congr fun v hvv => ?_
  have key := hk.com v
  cases e3 : f v with
  | true =>
    refine Eq.symm (key.2 fun u hu eu => ?_)
    exact (h3 (setB u)).2 (by rw [eu, e2]) v hvv e3
  | false =>
    cases e4 : setB common v with
    | false => rfl
    | true =>
      have := key.1 e4 t ht (by rw [e1, e2])
      rw [hf v hvv, e3] at this
      cases this
theorem shr_bit (s i : Nat) : (s / 2 ^ i) &&& 1 = if s.testBit i = true then 1 else 0 := by
  rw [Nat.and_one_is_mod]
  have : s.testBit i = decide (s / 2 ^ i % 2 = 1) := Nat.testBit_eq_decide_div_mod_eq
  rw [this]
  by_cases h : s / 2 ^ i % 2 = 1
  · rw [decide_eq_true h, if_pos rfl, h]
  · rw [decide_eq_false h, if_neg (by decide)]; omega
end Go.Proofs.Ytabgmnmpdjnjoaa
set_option linter.unusedVariables false
set_option linter.unusedSimpArgs false
namespace Go.Proofs.Ytabgmnmpdjnjoaa
open Go Go.RowKit
section
variable {n : Nat} {σ : Sg} {w : World} {dst : Option Tmp} {ty : TypeId} {pos : String} {af : Array Edge} {g : Option (Nat × Bool)} {x y z : Operand} {at' : Array TypeId}
theorem cv_3_92 {m : Int} (hx : evS σ x = some (.int .i64 m)) (hm : IntKind.u64.wrap m = m) : Gives Try.prog n σ w ⟨dst, .convert 3 92 x, ty, pos, af, g⟩ (.int .u64 m) := fun a ha => by
  simp only [execOp, ha.eval hx]
  simp [go_sem, hm]
theorem cl_51 {x0 x1 : Operand} {v0 v1 : Value} (h0 : evS σ x0 = some v0) (h1 : evS σ x1 = some v1) (a : Act) (ha : Env n σ a) : (execOp a.eval ⟨dst, .call { callee := .value (.func 51), args := #[x0, x1], argTypes := at' }, ty, pos, af, g⟩).run Try.prog w = .ok (.enter 51 #[v0, v1]) w := by
  simp only [execOp, resolve, List.map_toArray, List.map_cons, List.map_nil, ha.eval h0, ha.eval h1]
  simp [go_sem, Act.eval]
end
end Go.Proofs.Ytabgmnmpdjnjoaa
set_option linter.unusedVariables false
set_option linter.unusedSimpArgs false
namespace Go.Proofs.Ytabgmnmpdjnjoaa
open Go Go.RowKit
section
variable {P : Program} {n : Nat} {σ : Sg} {w : World} {dst : Option Tmp} {ty t t' : TypeId} {pos : String} {af : Array Edge} {g : Option (Nat × Bool)} {x y : Operand}
theorem bv_nat {m : Nat} (h : m < 2 ^ 63) : (BitVec.ofInt 64 (m : Int)).toNat = m := by
  rw [BitVec.toNat_ofInt]
  omega
theorem x_andN {m k : Nat} (hx : evS σ x = some (.int .i64 (m : Nat))) (hy : evS σ y = some (.int .i64 (k : Nat))) (hm : m < 2 ^ 63) (hk : k < 2 ^ 63) : Gives P n σ w ⟨dst, .binOp .and t x y t', ty, pos, af, g⟩ (.int .i64 ((m &&& k : Nat) : Int)) := fun a ha => by
  have hle : m &&& k ≤ m := Nat.and_le_left
  have h : IntKind.i64.wrap (((BitVec.ofInt 64 (m : Int)) &&& (BitVec.ofInt 64 (k : Int))).toNat : Int) = ((m &&& k : Nat) : Int) := by
    rw [BitVec.toNat_and, bv_nat hm, bv_nat hk]
    exact IntWalk.i64_in _ ⟨by omega, by omega⟩
  simp only [execOp, ha.eval hx, ha.eval hy]
  have h' : Result.ok (Next.value (Value.int .i64 (IntKind.i64.wrap (((BitVec.ofInt 64 (m : Int)) &&& (BitVec.ofInt 64 (k : Int))).toNat : Int)))) w = .ok (.value (.int .i64 ((m &&& k : Nat) : Int))) w := by rw [h]
  exact h'
theorem x_andN1 {m : Nat} {b : Bool} {r : Int} (hx : evS σ x = some (.int .i64 (m : Nat))) (hy : evS σ y = some (.int .i64 1)) (hm : m < 2 ^ 63) (hr : ((m &&& 1 : Nat) : Int) = r) : Gives P n σ w ⟨dst, .binOp .and t x y t', ty, pos, af, g⟩ (.int .i64 r) := hr ▸ x_andN (k := 1) hx hy hm (by decide)
theorem bit_of {s i : Nat} {b : Bool} (h : s.testBit i = b) : ((s / 2 ^ i &&& 1 : Nat) : Int) = if b = true then 1 else 0 := by
  rw [shr_bit, h]
  cases b <;> rfl
end
set_option maxHeartbeats 1000000 in
theorem rlack_any (nt : Net) (vp vw : Value) (w : World) (B : Nat) (hr : RdNet w B vp vw nt) (hB : B ≤ w.heap.size) (hv : netB nt = true) (st : Nat) (hst : st < 2 ^ 62) :
    Calls Try.prog 51 #[.agg #[vp, vw], .int .i64 (st : Nat)] w fun e w' => e = .returned (.int .i64 (lackS nt (setB st))) ∧ Below w.heap.size w w' := by
  obtain ⟨Ap, cp_, rfl, _⟩ := hr.ports.shape
  obtain ⟨Aw, cw_, rfl, _⟩ := hr.ways.shape
  obtain ⟨⟨hp1, hp60⟩, hw300, hvp, hvw⟩ := netB_ok hv
  have hbw := Below.refl w.heap.size w
  refine EC.enter 70 Try.func51 rfl rfl rfl ?_
  refine EC.seq ?_
  refine EC.region ?_
  refine EL.newP (bx_25 rfl) rfl ?_
  intro g1 w1 q1 hb1 hg1 hl1
  have bhbw_1 := Nat.le_trans hbw.size hg1
  replace hbw := Below.on hbw hb1 hbw.size
  clear hb1 hg1 hl1
  refine EL.val (x_assign rfl) rfl ?_
  refine EL.nil ?_
  refine EX.seq ?_
  refine EC.seq ?_
  refine EC.region ?_
  refine EL.val (x_assign rfl) rfl ?_
  refine EL.nil ?_
  refine EX.seq ?_
  refine EC.seq ?_
  refine EC.seq ?_
  refine EC.region ?_
  refine EL.val (x_assign rfl) rfl ?_
  refine EL.nil ?_
  refine EX.seq ?_
  refine EC.block ?_
  refine EC.loopD [5, 6, 9, 10, 11, 12, 13, 14, 15, 16, 17, 18, 19, 20, 21, 22, 23, 24, 25, 26, 27, 28, 29, 30, 31, 32, 33, 34, 35, 36] (fun x : Nat => [(5, .int .i64 (sumP nt (setB st) x)), (6, .int .i64 (x : Nat))]) (fun x W => x ≤ nt.ports.length ∧ Blk W g1 25 #[.slice Ap nt.ports.length cp_, .slice Aw nt.ways.length cw_] ∧ Below w.heap.size w W) (fun x => nt.ports.length - x) 0 ⟨Nat.zero_le _, q1, hbw⟩ ⟨rfl, rfl, trivial⟩ ?_
  clear q1 hbw
  rintro x wx ⟨hx, q2x, hbw⟩
  by_cases hlt : x < nt.ports.length
  ·
    obtain ⟨bp, op, e_, _, pc0, pc1⟩ := prts_cells nt.ports x hlt _ _ _ _ _ hr.ports
    subst e_
    obtain ⟨⟨ph0, ph1⟩, pw0, pw1⟩ := hvp x hlt
    have hb1 := sumP_bd (f := (setB st)) hv x hx
    have hsn := sumP_succ (nt := nt) (f := (setB st)) x
    obtain ⟨y, ey⟩ : ∃ z, z = nt.ports.getD x prt0 := ⟨_, rfl⟩
    rw [← ey] at pc0 pc1 ph0 ph1 pw0 pw1 hsn
    obtain ⟨sm, esm⟩ : ∃ z, z = (sumP nt (setB st) x) := ⟨_, rfl⟩
    rw [← esm] at hb1 hsn ⊢
    cases hbt : st.testBit x
    ·
      have hbt2 : setB st x = false := hbt
      rw [hbt2] at hsn
      simp only [Bool.false_eq_true, if_false, Int.add_zero] at hsn
      refine EC.seq ?_
      refine EC.seq ?_
      refine EC.region ?_
      refine EL.val (x_move rfl) rfl ?_
      refine EL.val (fa_25_0 rfl) rfl ?_
      refine EL.val (ld_22 rfl (q2x.at (j := 0) rfl)) rfl ?_
      refine EL.val (ln_22 rfl) rfl ?_
      refine EL.val (x_lss rfl rfl (decide_eq_true (show (((x : Nat) : Int) < ((nt.ports.length : Nat) : Int)) by omega))) rfl ?_
      refine EL.nil ?_
      refine EX.seq ?_
      refine EC.yes rfl ?_
      refine EC.skip ?_
      refine EX.seq ?_
      refine EC.seq ?_
      refine EC.block ?_
      refine EC.seq ?_
      refine EC.region ?_
      refine EL.val (x_move rfl) rfl ?_
      refine EL.val (x_move rfl) rfl ?_
      refine EL.val (cv_3_92 rfl (IntWalk.u64_in _ ⟨by omega, by omega⟩)) rfl ?_
      refine EL.val (x_shr rfl rfl (by omega)) rfl ?_
      refine EL.val (x_andN1 (b := true) rfl rfl (Nat.lt_of_le_of_lt (Nat.div_le_self _ _) (by first | omega | (simp only; omega))) (r := 0) (by rw [bit_of hbt]; rfl)) rfl ?_
      refine EL.val (x_eql (r := false) rfl rfl (by decide)) rfl ?_
      refine EL.nil ?_
      refine EX.seq ?_
      refine EC.no rfl ?_
      refine EC.skip ?_
      refine EX.blk ?_
      refine EX.seq ?_
      refine EC.region ?_
      refine EL.val (x_move rfl) rfl ?_
      refine EL.val (x_add rfl rfl (c := ((x + 1 : Nat) : Int)) ((IntWalk.i64_in _ ⟨by first | omega | (simp only; omega), by first | omega | (simp only; omega)⟩).trans (by first | omega | (simp only; omega)))) rfl ?_
      refine EL.val (x_assign rfl) rfl ?_
      refine EL.nil ?_
      refine EX.roundD (x + 1) ⟨agree_of (by rw [hsn]) rfl, rfl, trivial⟩ (by repeat first | with_reducible exact Sub.refl _ | refine sub_past rfl ?_ | exact Sub.refl _ | refine sub_del rfl ?_ | refine sub_insL_nil ?_) ⟨hlt, q2x, hbw⟩ (by omega)
    ·
      have hbt2 : setB st x = true := hbt
      rw [hbt2] at hsn
      refine EC.seq ?_
      refine EC.seq ?_
      refine EC.region ?_
      refine EL.val (x_move rfl) rfl ?_
      refine EL.val (fa_25_0 rfl) rfl ?_
      refine EL.val (ld_22 rfl (q2x.at (j := 0) rfl)) rfl ?_
      refine EL.val (ln_22 rfl) rfl ?_
      refine EL.val (x_lss rfl rfl (decide_eq_true (show (((x : Nat) : Int) < ((nt.ports.length : Nat) : Int)) by omega))) rfl ?_
      refine EL.nil ?_
      refine EX.seq ?_
      refine EC.yes rfl ?_
      refine EC.skip ?_
      refine EX.seq ?_
      refine EC.seq ?_
      refine EC.block ?_
      refine EC.seq ?_
      refine EC.region ?_
      refine EL.val (x_move rfl) rfl ?_
      refine EL.val (x_move rfl) rfl ?_
      refine EL.val (cv_3_92 rfl (IntWalk.u64_in _ ⟨by omega, by omega⟩)) rfl ?_
      refine EL.val (x_shr rfl rfl (by omega)) rfl ?_
      refine EL.val (x_andN1 (b := true) rfl rfl (Nat.lt_of_le_of_lt (Nat.div_le_self _ _) (by first | omega | (simp only; omega))) (r := 1) (by rw [bit_of hbt]; rfl)) rfl ?_
      refine EL.val (x_eql (r := true) rfl rfl (decide_eq_true rfl)) rfl ?_
      refine EL.nil ?_
      refine EX.seq ?_
      refine EC.yes rfl ?_
      refine EC.regionQ (by kernel_rfl) (by kernel_rfl) ?_
      refine EQ.val (fun _ hw => (x_move rfl)) rfl ?_
      refine EQ.val (fun _ hw => (fa_25_0 rfl)) rfl ?_
      refine EQ.val (fun _ hw => (ld_22 rfl (below_load hw (q2x.at (j := 0) rfl)))) rfl ?_
      refine EQ.val (fun _ hw => (x_move rfl)) rfl ?_
      refine EQ.val (fun _ hw => (ix_22 rfl rfl hlt)) rfl ?_
      refine EQ.val (fun _ hw => (fa_47_1 rfl)) rfl ?_
      refine EQ.val (fun _ hw => (ld_3 rfl (below_load hw (below_load hbw pc1)))) rfl ?_
      refine EQ.val (fun _ hw => (fa_25_0 rfl)) rfl ?_
      refine EQ.val (fun _ hw => (ld_22 rfl (below_load hw (q2x.at (j := 0) rfl)))) rfl ?_
      refine EQ.val (fun _ hw => (x_move rfl)) rfl ?_
      refine EQ.val (fun _ hw => (ix_22 rfl rfl hlt)) rfl ?_
      refine EQ.val (fun _ hw => (fa_47_0 rfl)) rfl ?_
      refine EQ.val (fun _ hw => (ld_3 rfl (below_load hw (below_load hbw pc0)))) rfl ?_
      refine EQ.val (fun _ hw => (x_sub rfl rfl (c := y.wants - y.has) (IntWalk.i64_in _ ⟨by omega, by omega⟩))) rfl ?_
      refine EQ.val (fun _ hw => (x_add rfl rfl (c := sm + (y.wants - y.has)) (IntWalk.i64_in _ ⟨by omega, by omega⟩))) rfl ?_
      refine EQ.val (fun _ hw => (x_assign rfl)) rfl ?_
      refine EQ.fin (fun w2 hw_ => ?_)
      replace q2x := q2x.below hw_ q2x.lt
      replace hbw := Below.on hbw hw_ hbw.size
      clear hw_
      refine EX.blk ?_
      refine EX.seq ?_
      refine EC.region ?_
      refine EL.val (x_move rfl) rfl ?_
      refine EL.val (x_add rfl rfl (c := ((x + 1 : Nat) : Int)) ((IntWalk.i64_in _ ⟨by first | omega | (simp only; omega), by first | omega | (simp only; omega)⟩).trans (by first | omega | (simp only; omega)))) rfl ?_
      refine EL.val (x_assign rfl) rfl ?_
      refine EL.nil ?_
      refine EX.roundD (x + 1) ⟨agree_of (by rw [hsn]; rfl) rfl, rfl, trivial⟩ (by repeat first | with_reducible exact Sub.refl _ | refine sub_past rfl ?_ | exact Sub.refl _ | refine sub_del rfl ?_ | refine sub_insL_nil ?_) ⟨hlt, q2x, hbw⟩ (by omega)
  ·
    have hxe : x = nt.ports.length := by omega
    subst hxe
    refine EC.seq ?_
    refine EC.seq ?_
    refine EC.region ?_
    refine EL.val (x_move rfl) rfl ?_
    refine EL.val (fa_25_0 rfl) rfl ?_
    refine EL.val (ld_22 rfl (q2x.at (j := 0) rfl)) rfl ?_
    refine EL.val (ln_22 rfl) rfl ?_
    refine EL.val (x_lss rfl rfl (decide_eq_false (show ¬(((nt.ports.length : Nat) : Int) < ((nt.ports.length : Nat) : Int)) by omega))) rfl ?_
    refine EL.nil ?_
    refine EX.seq ?_
    refine EC.no rfl ?_
    refine EC.exit ?_
    refine EX.seq_exit ?_
    refine EX.seq_exit ?_
    refine EX.blk_here ?_
    refine EX.seq ?_
    refine EC.seq ?_
    refine EC.seq ?_
    refine EC.region ?_
    refine EL.val (x_assign rfl) rfl ?_
    refine EL.nil ?_
    refine EX.seq ?_
    refine EC.block ?_
    refine EC.loopD [5, 7, 8, 37, 38, 39, 40, 41, 42, 43, 44, 45, 46, 47, 48, 49, 50, 51, 52, 53, 54, 55, 56, 57, 58, 59, 60, 61, 62, 63, 64, 65, 66, 67, 68] (fun x : Nat => [(5, .int .i64 (sumW nt (setB st) x)), (7, .int .i64 (x : Nat))]) (fun x W => x ≤ nt.ways.length ∧ Blk W g1 25 #[.slice Ap nt.ports.length cp_, .slice Aw nt.ways.length cw_] ∧ Below w.heap.size w W) (fun x => nt.ways.length - x) 0 ⟨Nat.zero_le _, q2x, hbw⟩ ⟨agree_of sumW_zero.symm rfl, rfl, trivial⟩ ?_
    clear q2x hbw
    rintro x wx ⟨hx, q2x, hbw⟩
    by_cases hlt : x < nt.ways.length
    ·
      obtain ⟨bw, ow, e_, _, wc⟩ := ways_cells nt.ways x hlt _ _ _ _ _ hr.ways
      subst e_
      obtain ⟨⟨wf0, wf1⟩, ⟨wt0, wt1⟩, wne, ⟨wc0, wc1⟩, wr0, wr1⟩ := hvw x hlt
      have hb1 := sumW_bd (f := (setB st)) hv x hx
      have hsn := sumW_succ (nt := nt) (f := (setB st)) x
      have hlb : lkB nt (setB st) x = (st.testBit (nt.ways.getD x way0).to.toNat && !st.testBit (nt.ways.getD x way0).fr.toNat) := rfl
      rw [hlb] at hsn
      obtain ⟨y, ey⟩ : ∃ z, z = nt.ways.getD x way0 := ⟨_, rfl⟩
      rw [← ey] at wc wf0 wf1 wt0 wt1 wne wc0 wc1 wr0 wr1 hsn
      clear ey hlb
      obtain ⟨yf, yt, yc, yr⟩ := y
      obtain ⟨wk0, wk1, wk2, wk3⟩ := wc
      dsimp only at wf0 wf1 wt0 wt1 wne wc0 wc1 wr0 wr1 wk0 wk1 wk2 wk3 hsn
      obtain ⟨f_, rfl⟩ := Int.eq_ofNat_of_zero_le wf0
      obtain ⟨t_, rfl⟩ := Int.eq_ofNat_of_zero_le wt0
      simp only [Int.toNat_natCast] at hsn
      obtain ⟨sm, esm⟩ : ∃ z, z = (sumW nt (setB st) x) := ⟨_, rfl⟩
      rw [← esm] at hb1 hsn ⊢
      cases hbf : st.testBit f_
      ·
        cases hbt : st.testBit t_
        ·
          simp only [hbf, hbt, Bool.not_false, Bool.and_true, Bool.false_eq_true, if_false, Int.sub_zero] at hsn
          refine EC.seq ?_
          refine EC.seq ?_
          refine EC.region ?_
          refine EL.val (x_move rfl) rfl ?_
          refine EL.val (fa_25_1 rfl) rfl ?_
          refine EL.val (ld_23 rfl (q2x.at (j := 1) rfl)) rfl ?_
          refine EL.val (ln_23 rfl) rfl ?_
          refine EL.val (x_lss rfl rfl (decide_eq_true (show (((x : Nat) : Int) < ((nt.ways.length : Nat) : Int)) by omega))) rfl ?_
          refine EL.nil ?_
          refine EX.seq ?_
          refine EC.yes rfl ?_
          refine EC.skip ?_
          refine EX.seq ?_
          refine EC.seq ?_
          refine EC.block ?_
          refine EC.seq ?_
          refine EC.region ?_
          refine EL.val (fa_25_1 rfl) rfl ?_
          refine EL.val (ld_23 rfl (q2x.at (j := 1) rfl)) rfl ?_
          refine EL.val (x_move rfl) rfl ?_
          refine EL.val (ix_23 rfl rfl hlt) rfl ?_
          refine EL.val (ld_56 rfl (below_load hbw wk0) (below_load hbw wk1) (below_load hbw wk2) (below_load hbw wk3)) rfl ?_
          refine EL.newP al_56 rfl ?_
          intro g3 w3 q3 hb3 hg3 hl3
          have n1_3 : g1 ≠ g3 := Nat.ne_of_lt (Nat.lt_of_lt_of_le q2x.lt hg3)
          have bhbw_3 := Nat.le_trans hbw.size hg3
          replace q2x := q2x.below hb3 q2x.lt
          replace hbw := Below.on hbw hb3 hbw.size
          clear hb3 hg3 hl3
          refine EL.store rfl rfl q3 sz_56 rfl rfl rfl rfl ?_
          intro w4 hq4 hg4
          replace q2x := q2x.grown hg4 (fun h => n1_3 (Option.some.inj h))
          replace hbw := below_store hbw hg4 bhbw_3
          replace q3 := hq4
          clear hg4 hq4
          refine EL.nil ?_
          refine EX.seq ?_
          refine EC.seq ?_
          refine EC.region ?_
          refine EL.val (x_move rfl) rfl ?_
          refine EL.val (fa_56_0 rfl) rfl ?_
          refine EL.val (ld_3 rfl (q3.at (j := 0) rfl)) rfl ?_
          refine EL.val (cv_3_92 rfl (IntWalk.u64_in _ ⟨by omega, by omega⟩)) rfl ?_
          refine EL.val (x_shr rfl rfl (by omega)) rfl ?_
          refine EL.val (x_andN1 (b := true) rfl rfl (Nat.lt_of_le_of_lt (Nat.div_le_self _ _) (by first | omega | (simp only; omega))) (r := 0) (by rw [bit_of hbf]; rfl)) rfl ?_
          refine EL.val (x_eql (r := true) rfl rfl (decide_eq_true rfl)) rfl ?_
          refine EL.val (x_move rfl) rfl ?_
          refine EL.valg rfl rfl (x_move rfl) rfl ?_
          refine EL.valg rfl rfl (fa_56_1 rfl) rfl ?_
          refine EL.valg rfl rfl (ld_3 rfl (q3.at (j := 1) rfl)) rfl ?_
          refine EL.valg rfl rfl (cv_3_92 rfl (IntWalk.u64_in _ ⟨by omega, by omega⟩)) rfl ?_
          refine EL.valg rfl rfl (x_shr rfl rfl (by omega)) rfl ?_
          refine EL.valg rfl rfl (x_andN1 (b := true) rfl rfl (Nat.lt_of_le_of_lt (Nat.div_le_self _ _) (by first | omega | (simp only; omega))) (r := 0) (by rw [bit_of hbt]; rfl)) rfl ?_
          refine EL.valg rfl rfl (x_eql (r := false) rfl rfl (by decide)) rfl ?_
          refine EL.val (x_pick_t rfl rfl) rfl ?_
          refine EL.nil ?_
          refine EX.seq ?_
          refine EC.no rfl ?_
          refine EC.skip ?_
          refine EX.blk ?_
          refine EX.seq ?_
          refine EC.region ?_
          refine EL.val (x_move rfl) rfl ?_
          refine EL.val (x_add rfl rfl (c := ((x + 1 : Nat) : Int)) ((IntWalk.i64_in _ ⟨by first | omega | (simp only; omega), by first | omega | (simp only; omega)⟩).trans (by first | omega | (simp only; omega)))) rfl ?_
          refine EL.val (x_assign rfl) rfl ?_
          refine EL.nil ?_
          refine EX.roundD (x + 1) ⟨agree_of hsn.symm rfl, rfl, trivial⟩ (by repeat first | with_reducible exact Sub.refl _ | refine sub_past rfl ?_ | exact Sub.refl _ | refine sub_del rfl ?_ | refine sub_insL_nil ?_) ⟨hlt, q2x, hbw⟩ (by omega)
        ·
          simp only [hbf, hbt, Bool.not_false, Bool.and_true, if_true] at hsn
          refine EC.seq ?_
          refine EC.seq ?_
          refine EC.region ?_
          refine EL.val (x_move rfl) rfl ?_
          refine EL.val (fa_25_1 rfl) rfl ?_
          refine EL.val (ld_23 rfl (q2x.at (j := 1) rfl)) rfl ?_
          refine EL.val (ln_23 rfl) rfl ?_
          refine EL.val (x_lss rfl rfl (decide_eq_true (show (((x : Nat) : Int) < ((nt.ways.length : Nat) : Int)) by omega))) rfl ?_
          refine EL.nil ?_
          refine EX.seq ?_
          refine EC.yes rfl ?_
          refine EC.skip ?_
          refine EX.seq ?_
          refine EC.seq ?_
          refine EC.block ?_
          refine EC.seq ?_
          refine EC.region ?_
          refine EL.val (fa_25_1 rfl) rfl ?_
          refine EL.val (ld_23 rfl (q2x.at (j := 1) rfl)) rfl ?_
          refine EL.val (x_move rfl) rfl ?_
          refine EL.val (ix_23 rfl rfl hlt) rfl ?_
          refine EL.val (ld_56 rfl (below_load hbw wk0) (below_load hbw wk1) (below_load hbw wk2) (below_load hbw wk3)) rfl ?_
          refine EL.newP al_56 rfl ?_
          intro g5 w5 q5 hb5 hg5 hl5
          have n1_5 : g1 ≠ g5 := Nat.ne_of_lt (Nat.lt_of_lt_of_le q2x.lt hg5)
          have bhbw_5 := Nat.le_trans hbw.size hg5
          replace q2x := q2x.below hb5 q2x.lt
          replace hbw := Below.on hbw hb5 hbw.size
          clear hb5 hg5 hl5
          refine EL.store rfl rfl q5 sz_56 rfl rfl rfl rfl ?_
          intro w6 hq6 hg6
          replace q2x := q2x.grown hg6 (fun h => n1_5 (Option.some.inj h))
          replace hbw := below_store hbw hg6 bhbw_5
          replace q5 := hq6
          clear hg6 hq6
          refine EL.nil ?_
          refine EX.seq ?_
          refine EC.seq ?_
          refine EC.region ?_
          refine EL.val (x_move rfl) rfl ?_
          refine EL.val (fa_56_0 rfl) rfl ?_
          refine EL.val (ld_3 rfl (q5.at (j := 0) rfl)) rfl ?_
          refine EL.val (cv_3_92 rfl (IntWalk.u64_in _ ⟨by omega, by omega⟩)) rfl ?_
          refine EL.val (x_shr rfl rfl (by omega)) rfl ?_
          refine EL.val (x_andN1 (b := true) rfl rfl (Nat.lt_of_le_of_lt (Nat.div_le_self _ _) (by first | omega | (simp only; omega))) (r := 0) (by rw [bit_of hbf]; rfl)) rfl ?_
          refine EL.val (x_eql (r := true) rfl rfl (decide_eq_true rfl)) rfl ?_
          refine EL.val (x_move rfl) rfl ?_
          refine EL.valg rfl rfl (x_move rfl) rfl ?_
          refine EL.valg rfl rfl (fa_56_1 rfl) rfl ?_
          refine EL.valg rfl rfl (ld_3 rfl (q5.at (j := 1) rfl)) rfl ?_
          refine EL.valg rfl rfl (cv_3_92 rfl (IntWalk.u64_in _ ⟨by omega, by omega⟩)) rfl ?_
          refine EL.valg rfl rfl (x_shr rfl rfl (by omega)) rfl ?_
          refine EL.valg rfl rfl (x_andN1 (b := true) rfl rfl (Nat.lt_of_le_of_lt (Nat.div_le_self _ _) (by first | omega | (simp only; omega))) (r := 1) (by rw [bit_of hbt]; rfl)) rfl ?_
          refine EL.valg rfl rfl (x_eql (r := true) rfl rfl (decide_eq_true rfl)) rfl ?_
          refine EL.val (x_pick_t rfl rfl) rfl ?_
          refine EL.nil ?_
          refine EX.seq ?_
          refine EC.yes rfl ?_
          refine EC.region ?_
          refine EL.val (x_move rfl) rfl ?_
          refine EL.val (fa_56_3 rfl) rfl ?_
          refine EL.val (ld_3 rfl (q5.at (j := 3) rfl)) rfl ?_
          refine EL.val (x_sub rfl rfl (c := sm - yr) (IntWalk.i64_in _ ⟨by omega, by omega⟩)) rfl ?_
          refine EL.val (x_assign rfl) rfl ?_
          refine EL.nil ?_
          refine EX.blk ?_
          refine EX.seq ?_
          refine EC.region ?_
          refine EL.val (x_move rfl) rfl ?_
          refine EL.val (x_add rfl rfl (c := ((x + 1 : Nat) : Int)) ((IntWalk.i64_in _ ⟨by first | omega | (simp only; omega), by first | omega | (simp only; omega)⟩).trans (by first | omega | (simp only; omega)))) rfl ?_
          refine EL.val (x_assign rfl) rfl ?_
          refine EL.nil ?_
          refine EX.roundD (x + 1) ⟨agree_of hsn.symm rfl, rfl, trivial⟩ (by repeat first | with_reducible exact Sub.refl _ | refine sub_past rfl ?_ | exact Sub.refl _ | refine sub_del rfl ?_ | refine sub_insL_nil ?_) ⟨hlt, q2x, hbw⟩ (by omega)
      ·
        simp only [hbf, Bool.not_true, Bool.and_false, Bool.false_eq_true, if_false, Int.sub_zero] at hsn
        refine EC.seq ?_
        refine EC.seq ?_
        refine EC.region ?_
        refine EL.val (x_move rfl) rfl ?_
        refine EL.val (fa_25_1 rfl) rfl ?_
        refine EL.val (ld_23 rfl (q2x.at (j := 1) rfl)) rfl ?_
        refine EL.val (ln_23 rfl) rfl ?_
        refine EL.val (x_lss rfl rfl (decide_eq_true (show (((x : Nat) : Int) < ((nt.ways.length : Nat) : Int)) by omega))) rfl ?_
        refine EL.nil ?_
        refine EX.seq ?_
        refine EC.yes rfl ?_
        refine EC.skip ?_
        refine EX.seq ?_
        refine EC.seq ?_
        refine EC.block ?_
        refine EC.seq ?_
        refine EC.region ?_
        refine EL.val (fa_25_1 rfl) rfl ?_
        refine EL.val (ld_23 rfl (q2x.at (j := 1) rfl)) rfl ?_
        refine EL.val (x_move rfl) rfl ?_
        refine EL.val (ix_23 rfl rfl hlt) rfl ?_
        refine EL.val (ld_56 rfl (below_load hbw wk0) (below_load hbw wk1) (below_load hbw wk2) (below_load hbw wk3)) rfl ?_
        refine EL.newP al_56 rfl ?_
        intro g7 w7 q7 hb7 hg7 hl7
        have n1_7 : g1 ≠ g7 := Nat.ne_of_lt (Nat.lt_of_lt_of_le q2x.lt hg7)
        have bhbw_7 := Nat.le_trans hbw.size hg7
        replace q2x := q2x.below hb7 q2x.lt
        replace hbw := Below.on hbw hb7 hbw.size
        clear hb7 hg7 hl7
        refine EL.store rfl rfl q7 sz_56 rfl rfl rfl rfl ?_
        intro w8 hq8 hg8
        replace q2x := q2x.grown hg8 (fun h => n1_7 (Option.some.inj h))
        replace hbw := below_store hbw hg8 bhbw_7
        replace q7 := hq8
        clear hg8 hq8
        refine EL.nil ?_
        refine EX.seq ?_
        refine EC.seq ?_
        refine EC.region ?_
        refine EL.val (x_move rfl) rfl ?_
        refine EL.val (fa_56_0 rfl) rfl ?_
        refine EL.val (ld_3 rfl (q7.at (j := 0) rfl)) rfl ?_
        refine EL.val (cv_3_92 rfl (IntWalk.u64_in _ ⟨by omega, by omega⟩)) rfl ?_
        refine EL.val (x_shr rfl rfl (by omega)) rfl ?_
        refine EL.val (x_andN1 (b := true) rfl rfl (Nat.lt_of_le_of_lt (Nat.div_le_self _ _) (by first | omega | (simp only; omega))) (r := 1) (by rw [bit_of hbf]; rfl)) rfl ?_
        refine EL.val (x_eql (r := false) rfl rfl (by decide)) rfl ?_
        refine EL.val (x_move rfl) rfl ?_
        refine EL.skip rfl rfl rfl rfl ?_
        refine EL.skip rfl rfl rfl rfl ?_
        refine EL.skip rfl rfl rfl rfl ?_
        refine EL.skip rfl rfl rfl rfl ?_
        refine EL.skip rfl rfl rfl rfl ?_
        refine EL.skip rfl rfl rfl rfl ?_
        refine EL.skip rfl rfl rfl rfl ?_
        refine EL.val (x_pick_f rfl rfl) rfl ?_
        refine EL.nil ?_
        refine EX.seq ?_
        refine EC.no rfl ?_
        refine EC.skip ?_
        refine EX.blk ?_
        refine EX.seq ?_
        refine EC.region ?_
        refine EL.val (x_move rfl) rfl ?_
        refine EL.val (x_add rfl rfl (c := ((x + 1 : Nat) : Int)) ((IntWalk.i64_in _ ⟨by first | omega | (simp only; omega), by first | omega | (simp only; omega)⟩).trans (by first | omega | (simp only; omega)))) rfl ?_
        refine EL.val (x_assign rfl) rfl ?_
        refine EL.nil ?_
        refine EX.roundD (x + 1) ⟨agree_of hsn.symm rfl, rfl, trivial⟩ (by repeat first | with_reducible exact Sub.refl _ | refine sub_past rfl ?_ | exact Sub.refl _ | refine sub_del rfl ?_ | refine sub_insL_nil ?_) ⟨hlt, q2x, hbw⟩ (by omega)
    ·
      have hxe : x = nt.ways.length := by omega
      subst hxe
      refine EC.seq ?_
      refine EC.seq ?_
      refine EC.region ?_
      refine EL.val (x_move rfl) rfl ?_
      refine EL.val (fa_25_1 rfl) rfl ?_
      refine EL.val (ld_23 rfl (q2x.at (j := 1) rfl)) rfl ?_
      refine EL.val (ln_23 rfl) rfl ?_
      refine EL.val (x_lss rfl rfl (decide_eq_false (show ¬(((nt.ways.length : Nat) : Int) < ((nt.ways.length : Nat) : Int)) by omega))) rfl ?_
      refine EL.nil ?_
      refine EX.seq ?_
      refine EC.no rfl ?_
      refine EC.exit ?_
      refine EX.seq_exit ?_
      refine EX.seq_exit ?_
      refine EX.blk_here ?_
      refine EX.seq ?_
      refine EC.seq ?_
      refine EC.region ?_
      refine EL.val (x_move rfl) rfl ?_
      refine EL.val (x_assign rfl) rfl ?_
      refine EL.nil ?_
      refine EX.seq ?_
      refine EC.ret ?_
      exact EX.done (res1 rfl rfl) ⟨rfl, hbw⟩
set_option maxHeartbeats 1000000 in
theorem rlacks_any (nt : Net) (vp vw : Value) (w : World) (B : Nat) (hr : RdNet w B vp vw nt) (hB : B ≤ w.heap.size) (hv : netB nt = true) :
    Calls Try.prog 24 #[.agg #[vp, vw]] w fun e w' => (∃ v most com, e = .returned (.tuple #[v, .int .i64 most]) ∧ LkAt nt (2 ^ nt.ports.length) most com ∧ w'.ownsRow w.heap.size 3 1 v (lackL (setB com) nt.ports.length).length (ints (lackL (setB com) nt.ports.length))) ∧ Below w.heap.size w w' := by
  obtain ⟨Ap, cp_, rfl, _⟩ := hr.ports.shape
  obtain ⟨Aw, cw_, rfl, _⟩ := hr.ways.shape
  obtain ⟨⟨hp1, hp60⟩, hw300, hvp, hvw⟩ := netB_ok hv
  have hp2 : 2 ^ nt.ports.length ≤ 2 ^ 60 := Nat.pow_le_pow_right (by omega) hp60
  have hbw := Below.refl w.heap.size w
  refine EC.enter 53 Try.func24 rfl rfl rfl ?_
  refine EC.seq ?_
  refine EC.region ?_
  refine EL.newP (bx_25 rfl) rfl ?_
  intro g1 w1 q1 hb1 hg1 hl1
  have bhbw_1 := Nat.le_trans hbw.size hg1
  replace hbw := Below.on hbw hb1 hbw.size
  clear hb1 hg1 hl1
  refine EL.val (x_assign rfl) rfl ?_
  refine EL.val (x_assign rfl) rfl ?_
  refine EL.nil ?_
  refine EX.seq ?_
  refine EC.seq ?_
  refine EC.region ?_
  refine EL.val (x_assign rfl) rfl ?_
  refine EL.val (x_assign rfl) rfl ?_
  refine EL.nil ?_
  refine EX.seq ?_
  refine EC.seq ?_
  refine EC.seq ?_
  refine EC.region ?_
  refine EL.val (x_assign rfl) rfl ?_
  refine EL.nil ?_
  refine EX.seq ?_
  refine EC.block ?_
  refine EC.loopD [4, 5, 6, 7, 10, 11, 12, 13, 14, 15, 16, 17, 18, 19, 20, 21, 22, 23, 24, 25, 26, 27, 28, 29, 30, 31, 32] (fun x : Nat × Int × Nat => [(4, .int .i64 x.2.1), (5, .int .i64 (x.2.2 : Nat)), (6, .int .i64 (x.1 : Nat))]) (fun x W => x.1 ≤ 2 ^ nt.ports.length ∧ LkAt nt x.1 x.2.1 x.2.2 ∧ x.2.2 < 2 ^ nt.ports.length ∧ Blk W g1 25 #[.slice Ap nt.ports.length cp_, .slice Aw nt.ways.length cw_] ∧ Below w.heap.size w W) (fun x => 2 ^ nt.ports.length - x.1) (1, 0, 0) ⟨Nat.pos_of_neZero _, LkAt.start nt, Nat.pos_of_neZero _, q1, hbw⟩ ⟨rfl, rfl, rfl, trivial⟩ ?_
  clear q1 hbw
  rintro ⟨x, most, com⟩ wx ⟨hx, hlk, hcm, q2x, hbw⟩
  dsimp only at hx hlk hcm
  by_cases hlt : x < 2 ^ nt.ports.length
  ·
    obtain ⟨lx, elx⟩ : ∃ z, z = lackS nt (setB x) := ⟨_, rfl⟩
    rcases Int.lt_trichotomy most lx with hc | hc | hc
    ·
      have hn := hlk.more (by rw [← elx]; exact hc)
      refine EC.seq ?_
      refine EC.seq ?_
      refine EC.region ?_
      refine EL.val (x_move rfl) rfl ?_
      refine EL.val (fa_25_0 rfl) rfl ?_
      refine EL.val (ld_22 rfl (q2x.at (j := 0) rfl)) rfl ?_
      refine EL.val (ln_22 rfl) rfl ?_
      refine EL.val (cv_3_92 rfl (IntWalk.u64_in _ ⟨by omega, by omega⟩)) rfl ?_
      refine EL.val (x_shl1 rfl rfl (by omega)) rfl ?_
      refine EL.val (x_lss rfl rfl (decide_eq_true (show (((x : Nat) : Int) < ((2 ^ nt.ports.length : Nat) : Int)) by omega))) rfl ?_
      refine EL.nil ?_
      refine EX.seq ?_
      refine EC.yes rfl ?_
      refine EC.skip ?_
      refine EX.seq ?_
      refine EC.seq ?_
      refine EC.block ?_
      refine EC.seq ?_
      refine EC.region ?_
      refine EL.val (ld_25 rfl (q2x.at (j := 0) rfl) (q2x.at (j := 1) rfl)) rfl ?_
      refine EL.val (x_move rfl) rfl ?_
      refine EL.call (cl_51 rfl rfl) rfl ((by rw [elx]; exact rlack_any nt _ _ _ B (hr.below (hbw.mono hB)) (Nat.le_trans hB hbw.size) hv x (by omega) : Calls Try.prog 51 _ _ fun e w' => e = .returned (.int .i64 lx) ∧ _)) ?_
      rintro e w2 ⟨rfl, hc2⟩
      refine ⟨_, rfl, ?_⟩
      replace q2x := q2x.below hc2 q2x.lt
      replace hbw := Below.on hbw hc2 hbw.size
      clear hc2
      refine EL.val (x_assign rfl) rfl ?_
      refine EL.nil ?_
      refine EX.seq ?_
      refine EC.seq ?_
      refine EC.region ?_
      refine EL.val (x_move rfl) rfl ?_
      refine EL.val (x_move rfl) rfl ?_
      refine EL.val (x_gtr (r := true) rfl rfl (decide_eq_true (by first | omega | (simp only; omega)))) rfl ?_
      refine EL.nil ?_
      refine EX.seq ?_
      refine EC.yes rfl ?_
      refine EC.region ?_
      refine EL.val (x_move rfl) rfl ?_
      refine EL.val (x_move rfl) rfl ?_
      refine EL.val (x_assign rfl) rfl ?_
      refine EL.val (x_assign rfl) rfl ?_
      refine EL.nil ?_
      refine EX.blk ?_
      refine EX.seq ?_
      refine EC.region ?_
      refine EL.val (x_move rfl) rfl ?_
      refine EL.val (x_add rfl rfl (c := ((x + 1 : Nat) : Int)) ((IntWalk.i64_in _ ⟨by first | omega | (simp only; omega), by first | omega | (simp only; omega)⟩).trans (by first | omega | (simp only; omega)))) rfl ?_
      refine EL.val (x_assign rfl) rfl ?_
      refine EL.nil ?_
      refine EX.roundD (x + 1, lx, x) ⟨rfl, rfl, rfl, trivial⟩ (by repeat first | with_reducible exact Sub.refl _ | refine sub_past rfl ?_ | exact Sub.refl _ | refine sub_del rfl ?_ | refine sub_insL_nil ?_) ⟨hlt, by rw [elx]; exact hn, by simp only; omega, q2x, hbw⟩ (by simp only; omega)
    ·
      have hn := hlk.same (by rw [← elx]; exact hc.symm)
      have hcm2 : com &&& x ≤ com := Nat.and_le_left
      refine EC.seq ?_
      refine EC.seq ?_
      refine EC.region ?_
      refine EL.val (x_move rfl) rfl ?_
      refine EL.val (fa_25_0 rfl) rfl ?_
      refine EL.val (ld_22 rfl (q2x.at (j := 0) rfl)) rfl ?_
      refine EL.val (ln_22 rfl) rfl ?_
      refine EL.val (cv_3_92 rfl (IntWalk.u64_in _ ⟨by omega, by omega⟩)) rfl ?_
      refine EL.val (x_shl1 rfl rfl (by omega)) rfl ?_
      refine EL.val (x_lss rfl rfl (decide_eq_true (show (((x : Nat) : Int) < ((2 ^ nt.ports.length : Nat) : Int)) by omega))) rfl ?_
      refine EL.nil ?_
      refine EX.seq ?_
      refine EC.yes rfl ?_
      refine EC.skip ?_
      refine EX.seq ?_
      refine EC.seq ?_
      refine EC.block ?_
      refine EC.seq ?_
      refine EC.region ?_
      refine EL.val (ld_25 rfl (q2x.at (j := 0) rfl) (q2x.at (j := 1) rfl)) rfl ?_
      refine EL.val (x_move rfl) rfl ?_
      refine EL.call (cl_51 rfl rfl) rfl ((by rw [elx]; exact rlack_any nt _ _ _ B (hr.below (hbw.mono hB)) (Nat.le_trans hB hbw.size) hv x (by omega) : Calls Try.prog 51 _ _ fun e w' => e = .returned (.int .i64 lx) ∧ _)) ?_
      rintro e w3 ⟨rfl, hc3⟩
      refine ⟨_, rfl, ?_⟩
      replace q2x := q2x.below hc3 q2x.lt
      replace hbw := Below.on hbw hc3 hbw.size
      clear hc3
      refine EL.val (x_assign rfl) rfl ?_
      refine EL.nil ?_
      refine EX.seq ?_
      refine EC.seq ?_
      refine EC.region ?_
      refine EL.val (x_move rfl) rfl ?_
      refine EL.val (x_move rfl) rfl ?_
      refine EL.val (x_gtr (r := false) rfl rfl (decide_eq_false (by first | omega | (simp only; omega)))) rfl ?_
      refine EL.nil ?_
      refine EX.seq ?_
      refine EC.no rfl ?_
      refine EC.seq ?_
      refine EC.region ?_
      refine EL.val (x_move rfl) rfl ?_
      refine EL.val (x_move rfl) rfl ?_
      refine EL.val (x_eql (r := true) rfl rfl (decide_eq_true (by first | omega | (simp only; omega)))) rfl ?_
      refine EL.nil ?_
      refine EX.seq ?_
      refine EC.yes rfl ?_
      refine EC.region ?_
      refine EL.val (x_move rfl) rfl ?_
      refine EL.val (x_move rfl) rfl ?_
      refine EL.val (x_andN rfl rfl (by first | omega | (simp only; omega)) (by first | omega | (simp only; omega))) rfl ?_
      refine EL.val (x_assign rfl) rfl ?_
      refine EL.nil ?_
      refine EX.blk ?_
      refine EX.seq ?_
      refine EC.region ?_
      refine EL.val (x_move rfl) rfl ?_
      refine EL.val (x_add rfl rfl (c := ((x + 1 : Nat) : Int)) ((IntWalk.i64_in _ ⟨by first | omega | (simp only; omega), by first | omega | (simp only; omega)⟩).trans (by first | omega | (simp only; omega)))) rfl ?_
      refine EL.val (x_assign rfl) rfl ?_
      refine EL.nil ?_
      refine EX.roundD (x + 1, most, com &&& x) ⟨rfl, rfl, rfl, trivial⟩ (by repeat first | with_reducible exact Sub.refl _ | refine sub_past rfl ?_ | exact Sub.refl _ | refine sub_del rfl ?_ | refine sub_insL_nil ?_) ⟨hlt, hn, by simp only; omega, q2x, hbw⟩ (by simp only; omega)
    ·
      have hn := hlk.less (by rw [← elx]; exact hc)
      refine EC.seq ?_
      refine EC.seq ?_
      refine EC.region ?_
      refine EL.val (x_move rfl) rfl ?_
      refine EL.val (fa_25_0 rfl) rfl ?_
      refine EL.val (ld_22 rfl (q2x.at (j := 0) rfl)) rfl ?_
      refine EL.val (ln_22 rfl) rfl ?_
      refine EL.val (cv_3_92 rfl (IntWalk.u64_in _ ⟨by omega, by omega⟩)) rfl ?_
      refine EL.val (x_shl1 rfl rfl (by omega)) rfl ?_
      refine EL.val (x_lss rfl rfl (decide_eq_true (show (((x : Nat) : Int) < ((2 ^ nt.ports.length : Nat) : Int)) by omega))) rfl ?_
      refine EL.nil ?_
      refine EX.seq ?_
      refine EC.yes rfl ?_
      refine EC.skip ?_
      refine EX.seq ?_
      refine EC.seq ?_
      refine EC.block ?_
      refine EC.seq ?_
      refine EC.region ?_
      refine EL.val (ld_25 rfl (q2x.at (j := 0) rfl) (q2x.at (j := 1) rfl)) rfl ?_
      refine EL.val (x_move rfl) rfl ?_
      refine EL.call (cl_51 rfl rfl) rfl ((by rw [elx]; exact rlack_any nt _ _ _ B (hr.below (hbw.mono hB)) (Nat.le_trans hB hbw.size) hv x (by omega) : Calls Try.prog 51 _ _ fun e w' => e = .returned (.int .i64 lx) ∧ _)) ?_
      rintro e w4 ⟨rfl, hc4⟩
      refine ⟨_, rfl, ?_⟩
      replace q2x := q2x.below hc4 q2x.lt
      replace hbw := Below.on hbw hc4 hbw.size
      clear hc4
      refine EL.val (x_assign rfl) rfl ?_
      refine EL.nil ?_
      refine EX.seq ?_
      refine EC.seq ?_
      refine EC.region ?_
      refine EL.val (x_move rfl) rfl ?_
      refine EL.val (x_move rfl) rfl ?_
      refine EL.val (x_gtr (r := false) rfl rfl (decide_eq_false (by first | omega | (simp only; omega)))) rfl ?_
      refine EL.nil ?_
      refine EX.seq ?_
      refine EC.no rfl ?_
      refine EC.seq ?_
      refine EC.region ?_
      refine EL.val (x_move rfl) rfl ?_
      refine EL.val (x_move rfl) rfl ?_
      refine EL.val (x_eql (r := false) rfl rfl (decide_eq_false (by first | omega | (simp only; omega)))) rfl ?_
      refine EL.nil ?_
      refine EX.seq ?_
      refine EC.no rfl ?_
      refine EC.skip ?_
      refine EX.blk ?_
      refine EX.seq ?_
      refine EC.region ?_
      refine EL.val (x_move rfl) rfl ?_
      refine EL.val (x_add rfl rfl (c := ((x + 1 : Nat) : Int)) ((IntWalk.i64_in _ ⟨by first | omega | (simp only; omega), by first | omega | (simp only; omega)⟩).trans (by first | omega | (simp only; omega)))) rfl ?_
      refine EL.val (x_assign rfl) rfl ?_
      refine EL.nil ?_
      refine EX.roundD (x + 1, most, com) ⟨rfl, rfl, rfl, trivial⟩ (by repeat first | with_reducible exact Sub.refl _ | refine sub_past rfl ?_ | exact Sub.refl _ | refine sub_del rfl ?_ | refine sub_insL_nil ?_) ⟨hlt, hn, by simp only; omega, q2x, hbw⟩ (by simp only; omega)
  ·
    have hxe : x = 2 ^ nt.ports.length := by omega
    subst hxe
    refine EC.seq ?_
    refine EC.seq ?_
    refine EC.region ?_
    refine EL.val (x_move rfl) rfl ?_
    refine EL.val (fa_25_0 rfl) rfl ?_
    refine EL.val (ld_22 rfl (q2x.at (j := 0) rfl)) rfl ?_
    refine EL.val (ln_22 rfl) rfl ?_
    refine EL.val (cv_3_92 rfl (IntWalk.u64_in _ ⟨by omega, by omega⟩)) rfl ?_
    refine EL.val (x_shl1 rfl rfl (by omega)) rfl ?_
    refine EL.val (x_lss rfl rfl (decide_eq_false (show ¬(((2 ^ nt.ports.length : Nat) : Int) < ((2 ^ nt.ports.length : Nat) : Int)) by omega))) rfl ?_
    refine EL.nil ?_
    refine EX.seq ?_
    refine EC.no rfl ?_
    refine EC.exit ?_
    refine EX.seq_exit ?_
    refine EX.seq_exit ?_
    refine EX.blk_here ?_
    refine EX.seq ?_
    refine EC.seq ?_
    refine EC.region ?_
    refine EL.newS bs_29_0 rfl ?_
    intro g5 w5 q5 hb5 hg5 hl5
    have n1_5 : g1 ≠ g5 := Nat.ne_of_lt (Nat.lt_of_lt_of_le q2x.lt hg5)
    have bhbw_5 := Nat.le_trans hbw.size hg5
    replace q2x := q2x.below hb5 q2x.lt
    replace hbw := Below.on hbw hb5 hbw.size
    clear hb5 hl5
    have ho : World.ownsRow w5 w.heap.size 3 1 (.slice (some ⟨g5, 0, none⟩) 0 0) 0 [] := own_empty 1 q5 (by have := hbw.size; first | exact bhbw_5 | omega)
    refine EL.val (x_assign rfl) rfl ?_
    refine EL.nil ?_
    refine EX.seq ?_
    refine EC.seq ?_
    refine EC.seq ?_
    refine EC.region ?_
    refine EL.val (x_assign rfl) rfl ?_
    refine EL.nil ?_
    refine EX.seq ?_
    refine EC.block ?_
    refine EC.loopD [8, 9, 34, 35, 36, 37, 38, 39, 40, 41, 42, 43, 44, 45, 46, 47, 48, 49, 50] (fun x : Nat × Value => [(8, x.2), (9, .int .i64 (x.1 : Nat))]) (fun x W => x.1 ≤ nt.ports.length ∧ W.ownsRow w.heap.size 3 1 x.2 (lackL (setB com) x.1).length (ints (lackL (setB com) x.1)) ∧ Blk W g1 25 #[.slice Ap nt.ports.length cp_, .slice Aw nt.ways.length cw_] ∧ Below w.heap.size w W) (fun x => nt.ports.length - x.1) (0, .slice (some ⟨g5, 0, none⟩) 0 0) ⟨Nat.zero_le _, ho, q2x, hbw⟩ ⟨rfl, rfl, trivial⟩ ?_
    clear q2x ho hbw
    rintro ⟨x, vl⟩ wx ⟨hx, ho, q2x, hbw⟩
    dsimp only at hx ho
    obtain ⟨Al, cl, rfl, _⟩ := (Rd.of_own ho).shape
    by_cases hlt : x < nt.ports.length
    ·
      have hsl := lackL_succ (setB com) x
      have hll := lackL_len (setB com) x
      cases hbt : com.testBit x
      ·
        have hbt2 : setB com x = false := hbt
        rw [hbt2] at hsl
        simp only [Bool.false_eq_true, if_false, List.append_nil] at hsl
        refine EC.seq ?_
        refine EC.seq ?_
        refine EC.region ?_
        refine EL.val (x_move rfl) rfl ?_
        refine EL.val (fa_25_0 rfl) rfl ?_
        refine EL.val (ld_22 rfl (q2x.at (j := 0) rfl)) rfl ?_
        refine EL.val (ln_22 rfl) rfl ?_
        refine EL.val (x_lss rfl rfl (decide_eq_true (show (((x : Nat) : Int) < ((nt.ports.length : Nat) : Int)) by omega))) rfl ?_
        refine EL.nil ?_
        refine EX.seq ?_
        refine EC.yes rfl ?_
        refine EC.skip ?_
        refine EX.seq ?_
        refine EC.seq ?_
        refine EC.block ?_
        refine EC.seq ?_
        refine EC.region ?_
        refine EL.val (x_move rfl) rfl ?_
        refine EL.val (x_move rfl) rfl ?_
        refine EL.val (cv_3_92 rfl (IntWalk.u64_in _ ⟨by omega, by omega⟩)) rfl ?_
        refine EL.val (x_shr rfl rfl (by omega)) rfl ?_
        refine EL.val (x_andN1 (b := true) rfl rfl (Nat.lt_of_le_of_lt (Nat.div_le_self _ _) (by first | omega | (simp only; omega))) (r := 0) (by rw [bit_of hbt]; rfl)) rfl ?_
        refine EL.val (x_eql (r := false) rfl rfl (by decide)) rfl ?_
        refine EL.nil ?_
        refine EX.seq ?_
        refine EC.no rfl ?_
        refine EC.skip ?_
        refine EX.blk ?_
        refine EX.seq ?_
        refine EC.region ?_
        refine EL.val (x_move rfl) rfl ?_
        refine EL.val (x_add rfl rfl (c := ((x + 1 : Nat) : Int)) ((IntWalk.i64_in _ ⟨by first | omega | (simp only; omega), by first | omega | (simp only; omega)⟩).trans (by first | omega | (simp only; omega)))) rfl ?_
        refine EL.val (x_assign rfl) rfl ?_
        refine EL.nil ?_
        refine EX.roundD (x + 1, _) ⟨rfl, rfl, trivial⟩ (by repeat first | with_reducible exact Sub.refl _ | refine sub_past rfl ?_ | exact Sub.refl _ | refine sub_del rfl ?_ | refine sub_insL_nil ?_) ⟨hlt, by show World.ownsRow _ _ _ _ _ (lackL _ (x + 1)).length (ints (lackL _ (x + 1))); rw [hsl]; exact ho, q2x, hbw⟩ (by simp only; omega)
      ·
        have hbt2 : setB com x = true := hbt
        rw [hbt2] at hsl
        rw [if_pos rfl] at hsl
        refine EC.seq ?_
        refine EC.seq ?_
        refine EC.region ?_
        refine EL.val (x_move rfl) rfl ?_
        refine EL.val (fa_25_0 rfl) rfl ?_
        refine EL.val (ld_22 rfl (q2x.at (j := 0) rfl)) rfl ?_
        refine EL.val (ln_22 rfl) rfl ?_
        refine EL.val (x_lss rfl rfl (decide_eq_true (show (((x : Nat) : Int) < ((nt.ports.length : Nat) : Int)) by omega))) rfl ?_
        refine EL.nil ?_
        refine EX.seq ?_
        refine EC.yes rfl ?_
        refine EC.skip ?_
        refine EX.seq ?_
        refine EC.seq ?_
        refine EC.block ?_
        refine EC.seq ?_
        refine EC.region ?_
        refine EL.val (x_move rfl) rfl ?_
        refine EL.val (x_move rfl) rfl ?_
        refine EL.val (cv_3_92 rfl (IntWalk.u64_in _ ⟨by omega, by omega⟩)) rfl ?_
        refine EL.val (x_shr rfl rfl (by omega)) rfl ?_
        refine EL.val (x_andN1 (b := true) rfl rfl (Nat.lt_of_le_of_lt (Nat.div_le_self _ _) (by first | omega | (simp only; omega))) (r := 1) (by rw [bit_of hbt]; rfl)) rfl ?_
        refine EL.val (x_eql (r := true) rfl rfl (decide_eq_true rfl)) rfl ?_
        refine EL.nil ?_
        refine EX.seq ?_
        refine EC.yes rfl ?_
        refine EC.region ?_
        refine EL.val (x_move rfl) rfl ?_
        refine EL.val (x_move rfl) rfl ?_
        refine EL.newS (bs_29_1 rfl) rfl ?_
        intro g6 w6 q6 hb6 hg6 hl6
        have n1_6 : g1 ≠ g6 := Nat.ne_of_lt (Nat.lt_of_lt_of_le q2x.lt hg6)
        have bhbw_6 := Nat.le_trans hbw.size hg6
        replace q2x := q2x.below hb6 q2x.lt
        replace ho := own_below ho hb6 (Nat.le_refl _)
        replace hbw := Below.on hbw hb6 hbw.size
        clear hb6 hg6 hl6
        refine EL.push i64_elem rfl rfl ho (rd_one (l := [.int .i64 (x : Nat)]) q6 rfl) (by intro u hu; rw [List.mem_singleton.1 hu]; rfl) (by omega) rfl hbw.size rfl ?_
        intro v7 w7 ho2 hgr hb_ hat
        replace q2x := blk_grown q2x ho rfl hgr
        replace hbw := hbw.trans hb_
        clear ho hgr hb_ hat
        refine EL.val (x_assign rfl) rfl ?_
        refine EL.nil ?_
        refine EX.blk ?_
        refine EX.seq ?_
        refine EC.region ?_
        refine EL.val (x_move rfl) rfl ?_
        refine EL.val (x_add rfl rfl (c := ((x + 1 : Nat) : Int)) ((IntWalk.i64_in _ ⟨by first | omega | (simp only; omega), by first | omega | (simp only; omega)⟩).trans (by first | omega | (simp only; omega)))) rfl ?_
        refine EL.val (x_assign rfl) rfl ?_
        refine EL.nil ?_
        refine EX.roundD (x + 1, _) ⟨rfl, rfl, trivial⟩ (by repeat first | with_reducible exact Sub.refl _ | refine sub_past rfl ?_ | exact Sub.refl _ | refine sub_del rfl ?_ | refine sub_insL_nil ?_) ⟨hlt, by show World.ownsRow _ _ _ _ _ (lackL _ (x + 1)).length (ints (lackL _ (x + 1))); rw [hsl, ints_app, List.length_append]; exact ho2, q2x, hbw⟩ (by simp only; omega)
    ·
      have hxe : x = nt.ports.length := by omega
      subst hxe
      refine EC.seq ?_
      refine EC.seq ?_
      refine EC.region ?_
      refine EL.val (x_move rfl) rfl ?_
      refine EL.val (fa_25_0 rfl) rfl ?_
      refine EL.val (ld_22 rfl (q2x.at (j := 0) rfl)) rfl ?_
      refine EL.val (ln_22 rfl) rfl ?_
      refine EL.val (x_lss rfl rfl (decide_eq_false (show ¬(((nt.ports.length : Nat) : Int) < ((nt.ports.length : Nat) : Int)) by omega))) rfl ?_
      refine EL.nil ?_
      refine EX.seq ?_
      refine EC.no rfl ?_
      refine EC.exit ?_
      refine EX.seq_exit ?_
      refine EX.seq_exit ?_
      refine EX.blk_here ?_
      refine EX.seq ?_
      refine EC.seq ?_
      refine EC.region ?_
      refine EL.val (x_move rfl) rfl ?_
      refine EL.val (x_move rfl) rfl ?_
      refine EL.val (x_assign rfl) rfl ?_
      refine EL.val (x_assign rfl) rfl ?_
      refine EL.nil ?_
      refine EX.seq ?_
      refine EC.ret ?_
      exact EX.done (res2 rfl rfl rfl) ⟨⟨_, most, com, rfl, hlk, ho⟩, hbw⟩
theorem rnet_wide {nt : Net} {b : Bool} (h : netB nt = b) (vp vw : Value) (w : World) (B : Nat) (hr : RdNet w B vp vw nt) (hB : B ≤ w.heap.size) (hn1 : nt.ports.length ≤ 9223372036854775807) (hn2 : nt.ways.length ≤ 9223372036854775807) :
    Calls Try.prog 17 #[.agg #[vp, vw]] w fun e w' => e = .returned (.bool b) ∧ Below w.heap.size w w' := by
  subst h
  by_cases hsm : nt.ports.length ≤ 60 ∧ nt.ways.length ≤ 300
  · exact rnet_any nt vp vw w B hr hB (by omega) (by omega)
  obtain ⟨Ap, cp_, rfl, _⟩ := hr.ports.shape
  obtain ⟨Aw, cw_, rfl, _⟩ := hr.ways.shape
  have hbw := Below.refl w.heap.size w
  refine EC.enter 47 Try.func17 rfl rfl rfl ?_
  refine EC.seq ?_
  refine EC.region ?_
  refine EL.newP (bx_25 rfl) rfl ?_
  intro g1 w1 q1 hb1 hg1 hl1
  have bhbw_1 := Nat.le_trans hbw.size hg1
  replace hbw := Below.on hbw hb1 hbw.size
  clear hb1 hg1 hl1
  refine EL.val (x_assign rfl) rfl ?_
  refine EL.nil ?_
  refine EX.seq ?_
  refine EC.seq ?_
  refine EC.seq ?_
  refine EC.region ?_
  refine EL.val (fa_25_0 rfl) rfl ?_
  refine EL.val (ld_22 rfl (q1.at (j := 0) rfl)) rfl ?_
  refine EL.val (ln_22 rfl) rfl ?_
  cases h1 : inB 1 60 ((nt.ports.length : Nat) : Int)
  ·
    refine EL.call (cl_42 rfl rfl rfl) rfl (rin_any _ h1) ?_
    rintro e w2 ⟨rfl, hc2⟩
    refine ⟨_, rfl, ?_⟩
    replace q1 := q1.below hc2 q1.lt
    replace hbw := Below.on hbw hc2 hbw.size
    clear hc2
    refine EL.val (x_not rfl) rfl ?_
    refine EL.val (x_move rfl) rfl ?_
    refine EL.skip rfl rfl rfl rfl ?_
    refine EL.skip rfl rfl rfl rfl ?_
    refine EL.skip rfl rfl rfl rfl ?_
    refine EL.skip rfl rfl rfl rfl ?_
    refine EL.val (x_pick_t rfl rfl) rfl ?_
    refine EL.nil ?_
    refine EX.seq ?_
    refine EC.yes rfl ?_
    refine EC.seq ?_
    refine EC.region ?_
    refine EL.val (x_assign rfl) rfl ?_
    refine EL.nil ?_
    refine EX.seq ?_
    refine EC.ret ?_
    refine EX.seq_ret ?_
    exact EX.done (res1 rfl rfl) ⟨by rw [net_a h1], hbw⟩
  ·
    refine EL.call (cl_42 rfl rfl rfl) rfl (rin_any _ h1) ?_
    rintro e w3 ⟨rfl, hc3⟩
    refine ⟨_, rfl, ?_⟩
    replace q1 := q1.below hc3 q1.lt
    replace hbw := Below.on hbw hc3 hbw.size
    clear hc3
    refine EL.val (x_not rfl) rfl ?_
    refine EL.val (x_move rfl) rfl ?_
    refine EL.valg rfl rfl (fa_25_1 rfl) rfl ?_
    refine EL.valg rfl rfl (ld_23 rfl (q1.at (j := 1) rfl)) rfl ?_
    refine EL.valg rfl rfl (ln_23 rfl) rfl ?_
    by_cases h2 : 300 < nt.ways.length
    ·
      refine EL.valg rfl rfl (x_gtr (r := true) rfl rfl (decide_eq_true (by first | omega | (simp only; omega)))) rfl ?_
      refine EL.val (x_pick_f rfl rfl) rfl ?_
      refine EL.nil ?_
      refine EX.seq ?_
      refine EC.yes rfl ?_
      refine EC.seq ?_
      refine EC.region ?_
      refine EL.val (x_assign rfl) rfl ?_
      refine EL.nil ?_
      refine EX.seq ?_
      refine EC.ret ?_
      refine EX.seq_ret ?_
      exact EX.done (res1 rfl rfl) ⟨by rw [net_b h2], hbw⟩
    ·
      have h1_ := inB_iff.1 h1
      exact absurd ⟨show nt.ports.length ≤ 60 by omega, show nt.ways.length ≤ 300 by omega⟩ hsm
def heavyB (nt : Net) : Bool := if netB nt = true then decide (8 < nt.ports.length) || (decide (16 < nt.ways.length) || decide (40 < sumI (fun q => (nt.ports.getD q prt0).wants) nt.ports.length)) else largeB nt
theorem wants_bd {nt : Net} (hv : netB nt = true) : ∀ k, k ≤ nt.ports.length → 0 ≤ sumI (fun q => (nt.ports.getD q prt0).wants) k ∧ sumI (fun q => (nt.ports.getD q prt0).wants) k ≤ 1000 * (k : Int)
  | 0, _ => by show (0 : Int) ≤ 0 ∧ (0 : Int) ≤ _; omega
  | k + 1, hk => by
    obtain ⟨_, _, hvp, _⟩ := netB_ok hv
    have h1 := wants_bd hv k (by omega)
    have h2 := hvp k (by omega)
    rw [sumI]
    omega
theorem heavy_small {nt : Net} (h : heavyB nt = false) : nt.ports.length ≤ 70 ∧ nt.ways.length ≤ 320 := by
  unfold heavyB at h
  split at h
  · simp only [Bool.or_eq_false_iff, decide_eq_false_iff_not] at h
    omega
  · exact largeB_no h
set_option maxHeartbeats 1000000 in
theorem heavy_to {b : Bool} (nt : Net) (vp vw : Value) (w : World) (B : Nat) (hr : RdNet w B vp vw nt) (hB : B ≤ w.heap.size) (hm1 : nt.ports.length ≤ 9223372036854775807) (hm2 : nt.ways.length ≤ 9223372036854775807) (hb : heavyB nt = b) :
    Calls Try.prog 12 #[.agg #[vp, vw]] w fun e w' => e = .returned (.bool b) ∧ Below w.heap.size w w' := by
  subst hb
  obtain ⟨Ap, cp_, rfl, _⟩ := hr.ports.shape
  obtain ⟨Aw, cw_, rfl, _⟩ := hr.ways.shape
  have hbw := Below.refl w.heap.size w
  refine EC.enter 39 Try.func12 rfl rfl rfl ?_
  refine EC.seq ?_
  refine EC.region ?_
  refine EL.newP (bx_25 rfl) rfl ?_
  intro g1 w1 q1 hb1 hg1 hl1
  have bhbw_1 := Nat.le_trans hbw.size hg1
  replace hbw := Below.on hbw hb1 hbw.size
  clear hb1 hg1 hl1
  refine EL.val (x_assign rfl) rfl ?_
  refine EL.nil ?_
  refine EX.seq ?_
  refine EC.seq ?_
  refine EC.seq ?_
  refine EC.region ?_
  refine EL.val (ld_25 rfl (q1.at (j := 0) rfl) (q1.at (j := 1) rfl)) rfl ?_
  cases hv : netB nt
  ·
    refine EL.call (cl_17 rfl) rfl (rnet_wide (b := false) hv _ _ _ B (hr.below (hbw.mono hB)) (Nat.le_trans hB hbw.size) (by omega) (by omega)) ?_
    rintro e w2 ⟨rfl, hc2⟩
    refine ⟨_, rfl, ?_⟩
    replace q1 := q1.below hc2 q1.lt
    replace hbw := Below.on hbw hc2 hbw.size
    clear hc2
    refine EL.val (x_not rfl) rfl ?_
    refine EL.nil ?_
    refine EX.seq ?_
    refine EC.yes rfl ?_
    refine EC.seq ?_
    refine EC.region ?_
    refine EL.val (ld_25 rfl (q1.at (j := 0) rfl) (q1.at (j := 1) rfl)) rfl ?_
    refine EL.call (cl_29 rfl) rfl (large_to rfl _ _ _ B (hr.below (hbw.mono hB))) ?_
    rintro e w3 ⟨rfl, hc3⟩
    refine ⟨_, rfl, ?_⟩
    replace q1 := q1.below hc3 q1.lt
    replace hbw := Below.on hbw hc3 hbw.size
    clear hc3
    refine EL.val (x_assign rfl) rfl ?_
    refine EL.nil ?_
    refine EX.seq ?_
    refine EC.ret ?_
    refine EX.seq_ret ?_
    exact EX.done (res1 rfl rfl) ⟨by rw [heavyB, if_neg (by rw [hv]; decide)], hbw⟩
  ·
    obtain ⟨⟨hp1, hp60⟩, hw300, hvp, hvw⟩ := netB_ok hv
    refine EL.call (cl_17 rfl) rfl (rnet_wide (b := true) hv _ _ _ B (hr.below (hbw.mono hB)) (Nat.le_trans hB hbw.size) (by omega) (by omega)) ?_
    rintro e w4 ⟨rfl, hc4⟩
    refine ⟨_, rfl, ?_⟩
    replace q1 := q1.below hc4 q1.lt
    replace hbw := Below.on hbw hc4 hbw.size
    clear hc4
    refine EL.val (x_not rfl) rfl ?_
    refine EL.nil ?_
    refine EX.seq ?_
    refine EC.no rfl ?_
    refine EC.skip ?_
    refine EX.seq ?_
    refine EC.seq ?_
    refine EC.region ?_
    refine EL.val (x_assign rfl) rfl ?_
    refine EL.nil ?_
    refine EX.seq ?_
    refine EC.seq ?_
    refine EC.seq ?_
    refine EC.region ?_
    refine EL.val (x_assign rfl) rfl ?_
    refine EL.nil ?_
    refine EX.seq ?_
    refine EC.block ?_
    refine EC.loopD [3, 4, 10, 11, 12, 13, 14, 15, 16, 17, 18, 19, 20, 21, 22, 23, 24] (fun x : Nat => [(3, .int .i64 (sumI (fun q => (nt.ports.getD q prt0).wants) x)), (4, .int .i64 (x : Nat))]) (fun x W => x ≤ nt.ports.length ∧ Blk W g1 25 #[.slice Ap nt.ports.length cp_, .slice Aw nt.ways.length cw_] ∧ Below w.heap.size w W) (fun x => nt.ports.length - x) 0 ⟨Nat.zero_le _, q1, hbw⟩ ⟨rfl, rfl, trivial⟩ ?_
    clear q1 hbw
    rintro x wx ⟨hx, q2x, hbw⟩
    by_cases hlt : x < nt.ports.length
    ·
      obtain ⟨bp, op, e_, _, pc0, pc1⟩ := prts_cells nt.ports x hlt _ _ _ _ _ hr.ports
      subst e_
      obtain ⟨⟨ph0, ph1⟩, pw0, pw1⟩ := hvp x hlt
      have hb1 := wants_bd hv x hx
      have hsn : (sumI (fun q => (nt.ports.getD q prt0).wants) (x + 1)) = (sumI (fun q => (nt.ports.getD q prt0).wants) x) + (nt.ports.getD x prt0).wants := rfl
      obtain ⟨y, ey⟩ : ∃ z, z = nt.ports.getD x prt0 := ⟨_, rfl⟩
      rw [← ey] at pc0 pc1 ph0 ph1 pw0 pw1 hsn
      obtain ⟨sm, esm⟩ : ∃ z, z = (sumI (fun q => (nt.ports.getD q prt0).wants) x) := ⟨_, rfl⟩
      rw [← esm] at hb1 hsn ⊢
      refine EC.seq ?_
      refine EC.seq ?_
      refine EC.region ?_
      refine EL.val (x_move rfl) rfl ?_
      refine EL.val (fa_25_0 rfl) rfl ?_
      refine EL.val (ld_22 rfl (q2x.at (j := 0) rfl)) rfl ?_
      refine EL.val (ln_22 rfl) rfl ?_
      refine EL.val (x_lss rfl rfl (decide_eq_true (show (((x : Nat) : Int) < ((nt.ports.length : Nat) : Int)) by omega))) rfl ?_
      refine EL.nil ?_
      refine EX.seq ?_
      refine EC.yes rfl ?_
      refine EC.skip ?_
      refine EX.seq ?_
      refine EC.seq ?_
      refine EC.block ?_
      refine EC.region ?_
      refine EL.val (x_move rfl) rfl ?_
      refine EL.val (fa_25_0 rfl) rfl ?_
      refine EL.val (ld_22 rfl (q2x.at (j := 0) rfl)) rfl ?_
      refine EL.val (x_move rfl) rfl ?_
      refine EL.val (ix_22 rfl rfl hlt) rfl ?_
      refine EL.val (fa_47_1 rfl) rfl ?_
      refine EL.val (ld_3 rfl (below_load hbw pc1)) rfl ?_
      refine EL.val (x_add rfl rfl (c := sm + y.wants) (IntWalk.i64_in _ ⟨by omega, by omega⟩)) rfl ?_
      refine EL.val (x_assign rfl) rfl ?_
      refine EL.nil ?_
      refine EX.blk ?_
      refine EX.seq ?_
      refine EC.region ?_
      refine EL.val (x_move rfl) rfl ?_
      refine EL.val (x_add rfl rfl (c := ((x + 1 : Nat) : Int)) ((IntWalk.i64_in _ ⟨by first | omega | (simp only; omega), by first | omega | (simp only; omega)⟩).trans (by first | omega | (simp only; omega)))) rfl ?_
      refine EL.val (x_assign rfl) rfl ?_
      refine EL.nil ?_
      refine EX.roundD (x + 1) ⟨agree_of hsn.symm rfl, rfl, trivial⟩ (by repeat first | with_reducible exact Sub.refl _ | refine sub_past rfl ?_ | exact Sub.refl _ | refine sub_del rfl ?_ | refine sub_insL_nil ?_) ⟨hlt, q2x, hbw⟩ (by omega)
    ·
      have hxe : x = nt.ports.length := by omega
      subst hxe
      refine EC.seq ?_
      refine EC.seq ?_
      refine EC.region ?_
      refine EL.val (x_move rfl) rfl ?_
      refine EL.val (fa_25_0 rfl) rfl ?_
      refine EL.val (ld_22 rfl (q2x.at (j := 0) rfl)) rfl ?_
      refine EL.val (ln_22 rfl) rfl ?_
      refine EL.val (x_lss rfl rfl (decide_eq_false (show ¬(((nt.ports.length : Nat) : Int) < ((nt.ports.length : Nat) : Int)) by omega))) rfl ?_
      refine EL.nil ?_
      refine EX.seq ?_
      refine EC.no rfl ?_
      refine EC.exit ?_
      refine EX.seq_exit ?_
      refine EX.seq_exit ?_
      refine EX.blk_here ?_
      refine EX.seq ?_
      refine EC.seq ?_
      refine EC.region ?_
      refine EL.val (fa_25_0 rfl) rfl ?_
      refine EL.val (ld_22 rfl (q2x.at (j := 0) rfl)) rfl ?_
      refine EL.val (ln_22 rfl) rfl ?_
      by_cases hv1 : 8 < nt.ports.length
      ·
        refine EL.val (x_gtr (r := true) rfl rfl (decide_eq_true (by first | omega | (simp only; omega)))) rfl ?_
        refine EL.val (x_move rfl) rfl ?_
        refine EL.skip rfl rfl rfl rfl ?_
        refine EL.skip rfl rfl rfl rfl ?_
        refine EL.skip rfl rfl rfl rfl ?_
        refine EL.skip rfl rfl rfl rfl ?_
        refine EL.val (x_pick_t rfl rfl) rfl ?_
        refine EL.val (x_move rfl) rfl ?_
        refine EL.skip rfl rfl rfl rfl ?_
        refine EL.skip rfl rfl rfl rfl ?_
        refine EL.val (x_pick_t rfl rfl) rfl ?_
        refine EL.val (x_assign rfl) rfl ?_
        refine EL.nil ?_
        refine EX.seq ?_
        refine EC.ret ?_
        exact EX.done (res1 rfl rfl) ⟨by rw [heavyB, if_pos hv]; simp only [decide_eq_true hv1, Bool.true_or] <;> rfl, hbw⟩
      ·
        refine EL.val (x_gtr (r := false) rfl rfl (decide_eq_false (by first | omega | (simp only; omega)))) rfl ?_
        refine EL.val (x_move rfl) rfl ?_
        refine EL.valg rfl rfl (fa_25_1 rfl) rfl ?_
        refine EL.valg rfl rfl (ld_23 rfl (q2x.at (j := 1) rfl)) rfl ?_
        refine EL.valg rfl rfl (ln_23 rfl) rfl ?_
        by_cases hv2 : 16 < nt.ways.length
        ·
          refine EL.valg rfl rfl (x_gtr (r := true) rfl rfl (decide_eq_true (by first | omega | (simp only; omega)))) rfl ?_
          refine EL.val (x_pick_f rfl rfl) rfl ?_
          refine EL.val (x_move rfl) rfl ?_
          refine EL.skip rfl rfl rfl rfl ?_
          refine EL.skip rfl rfl rfl rfl ?_
          refine EL.val (x_pick_t rfl rfl) rfl ?_
          refine EL.val (x_assign rfl) rfl ?_
          refine EL.nil ?_
          refine EX.seq ?_
          refine EC.ret ?_
          exact EX.done (res1 rfl rfl) ⟨by rw [heavyB, if_pos hv]; simp only [decide_eq_false hv1, decide_eq_true hv2, Bool.true_or, Bool.or_true] <;> rfl, hbw⟩
        ·
          refine EL.valg rfl rfl (x_gtr (r := false) rfl rfl (decide_eq_false (by first | omega | (simp only; omega)))) rfl ?_
          refine EL.val (x_pick_f rfl rfl) rfl ?_
          refine EL.val (x_move rfl) rfl ?_
          refine EL.valg rfl rfl (x_move rfl) rfl ?_
          by_cases hv3 : 40 < (sumI (fun q => (nt.ports.getD q prt0).wants) nt.ports.length)
          ·
            refine EL.valg rfl rfl (x_gtr (r := true) rfl rfl (decide_eq_true (by first | omega | (simp only; omega)))) rfl ?_
            refine EL.val (x_pick_f rfl rfl) rfl ?_
            refine EL.val (x_assign rfl) rfl ?_
            refine EL.nil ?_
            refine EX.seq ?_
            refine EC.ret ?_
            exact EX.done (res1 rfl rfl) ⟨by rw [heavyB, if_pos hv]; simp only [decide_eq_false hv1, decide_eq_false hv2, decide_eq_true hv3, Bool.or_true] <;> rfl, hbw⟩
          ·
            refine EL.valg rfl rfl (x_gtr (r := false) rfl rfl (decide_eq_false (by first | omega | (simp only; omega)))) rfl ?_
            refine EL.val (x_pick_f rfl rfl) rfl ?_
            refine EL.val (x_assign rfl) rfl ?_
            refine EL.nil ?_
            refine EX.seq ?_
            refine EC.ret ?_
            exact EX.done (res1 rfl rfl) ⟨by rw [heavyB, if_pos hv]; simp only [decide_eq_false hv1, decide_eq_false hv2, decide_eq_false hv3, Bool.or_false] <;> rfl, hbw⟩
end Go.Proofs.Ytabgmnmpdjnjoaa
set_option linter.unusedVariables false
set_option linter.unusedSimpArgs false
namespace Go.Proofs.Ytabgmnmpdjnjoaa
open Go Go.RowKit
section
variable {n : Nat} {σ : Sg} {w : World} {dst : Option Tmp} {ty : TypeId} {pos : String} {af : Array Edge} {g : Option (Nat × Bool)} {x y z : Operand} {at' : Array TypeId}
theorem cl_12 {x0 : Operand} {v0 : Value} (h0 : evS σ x0 = some v0) (a : Act) (ha : Env n σ a) : (execOp a.eval ⟨dst, .call { callee := .value (.func 12), args := #[x0], argTypes := at' }, ty, pos, af, g⟩).run Try.prog w = .ok (.enter 12 #[v0]) w := by
  simp only [execOp, resolve, List.map_toArray, List.map_cons, List.map_nil, ha.eval h0]
  simp [go_sem, Act.eval]
theorem cl_24 {x0 : Operand} {v0 : Value} (h0 : evS σ x0 = some v0) (a : Act) (ha : Env n σ a) : (execOp a.eval ⟨dst, .call { callee := .value (.func 24), args := #[x0], argTypes := at' }, ty, pos, af, g⟩).run Try.prog w = .ok (.enter 24 #[v0]) w := by
  simp only [execOp, resolve, List.map_toArray, List.map_cons, List.map_nil, ha.eval h0]
  simp [go_sem, Act.eval]
end
end Go.Proofs.Ytabgmnmpdjnjoaa
set_option linter.unusedVariables false
set_option linter.unusedSimpArgs false
namespace Go.Proofs.Ytabgmnmpdjnjoaa
open Go Go.RowKit
set_option maxHeartbeats 1000000 in
set_option maxRecDepth 100000 in
theorem lacks_law (nt : Net) (vp vw : Value) (w : World) (B : Nat) (hr : RdNet w B vp vw nt) (hB : B ≤ w.heap.size) (hm1 : nt.ports.length ≤ 9223372036854775807) (hm2 : nt.ways.length ≤ 9223372036854775807) :
    Calls Try.prog 4 #[.agg #[vp, vw]] w fun e w' => e = .returned (.bool true) ∧ Below w.heap.size w w' := by
  obtain ⟨Ap, cp_, rfl, _⟩ := hr.ports.shape
  obtain ⟨Aw, cw_, rfl, _⟩ := hr.ways.shape
  have hbw := Below.refl w.heap.size w
  refine EC.enter 55 Try.func4 rfl rfl rfl ?_
  refine EC.seq ?_
  refine EC.region ?_
  refine EL.newP (bx_25 rfl) rfl ?_
  intro g1 w1 q1 hb1 hg1 hl1
  have bhbw_1 := Nat.le_trans hbw.size hg1
  replace hbw := Below.on hbw hb1 hbw.size
  clear hb1 hg1 hl1
  refine EL.val (x_assign rfl) rfl ?_
  refine EL.nil ?_
  refine EX.seq ?_
  refine EC.seq ?_
  refine EC.seq ?_
  refine EC.region ?_
  refine EL.val (ld_25 rfl (q1.at (j := 0) rfl) (q1.at (j := 1) rfl)) rfl ?_
  cases hhe : heavyB nt
  ·
    obtain ⟨hn1, hn2⟩ := heavy_small hhe
    refine EL.call (cl_12 rfl) rfl (heavy_to nt _ _ _ B (hr.below (hbw.mono hB)) (Nat.le_trans hB hbw.size) hm1 hm2 hhe) ?_
    rintro e w2 ⟨rfl, hc2⟩
    refine ⟨_, rfl, ?_⟩
    replace q1 := q1.below hc2 q1.lt
    replace hbw := Below.on hbw hc2 hbw.size
    clear hc2
    refine EL.nil ?_
    refine EX.seq ?_
    refine EC.no rfl ?_
    refine EC.skip ?_
    refine EX.seq ?_
    refine EC.seq ?_
    refine EC.region ?_
    refine EL.val (ld_25 rfl (q1.at (j := 0) rfl) (q1.at (j := 1) rfl)) rfl ?_
    refine EL.call (cl_14 rfl) rfl (copied_any nt _ _ _ B (hr.below (hbw.mono hB)) (Nat.le_trans hB hbw.size) (by omega) (by omega)) ?_
    rintro e w3 ⟨⟨vp3, vw3, rfl, hoc⟩, hc3⟩
    refine ⟨_, rfl, ?_⟩
    replace q1 := q1.below hc3 q1.lt
    replace hbw := Below.on hbw hc3 hbw.size
    clear hc3
    obtain ⟨Bp3, dp3, rfl, _⟩ := (Rd.of_own hoc.ports).shape
    obtain ⟨Bw3, dw3, rfl, _⟩ := (Rd.of_own hoc.ways).shape
    refine EL.call (cl_23 rfl) rfl (lacks_any nt _ _ _ _ hoc.rd (Nat.le_refl _) (by omega) (by omega)) ?_
    rintro e w4 ⟨⟨vl, ls, lack, e_, rfl, hlr, hrl⟩, hc4⟩
    refine ⟨_, rfl, ?_⟩
    replace q1 := q1.below hc4 q1.lt
    replace hbw := Below.on hbw hc4 hbw.size
    clear hc4
    obtain ⟨Al, cl_, rfl, _⟩ := hrl.shape
    have hbL := Below.refl w4.heap.size w4
    refine EL.val (x_move rfl) rfl ?_
    refine EL.val (x_extract rfl rfl) rfl ?_
    refine EL.val (x_extract rfl rfl) rfl ?_
    refine EL.val (x_extract rfl rfl) rfl ?_
    refine EL.val (x_assign rfl) rfl ?_
    refine EL.val (x_assign rfl) rfl ?_
    refine EL.val (x_assign rfl) rfl ?_
    refine EL.nil ?_
    refine EX.seq ?_
    refine EC.seq ?_
    refine EC.seq ?_
    refine EC.region ?_
    refine EL.val (ld_25 rfl (q1.at (j := 0) rfl) (q1.at (j := 1) rfl)) rfl ?_
    cases hv : netB nt
    ·
      obtain ⟨rfl, rfl, rfl⟩ : e_ = 2 ∧ lack = 0 ∧ ls = [] := by rcases hlr with ⟨_, h1, h2, h3⟩ | ⟨h1, _⟩; exact ⟨h1, h2, h3⟩; rw [hv] at h1; cases h1
      refine EL.call (cl_17 rfl) rfl (rnet_to (b := false) hv _ _ _ B (hr.below (hbw.mono hB)) (Nat.le_trans hB hbw.size) (by omega) (by omega)) ?_
      rintro e w5 ⟨rfl, hc5⟩
      refine ⟨_, rfl, ?_⟩
      replace q1 := q1.below hc5 q1.lt
      replace hbw := Below.on hbw hc5 hbw.size
      replace hbL := Below.on hbL hc5 hbL.size
      clear hc5
      refine EL.val (x_not rfl) rfl ?_
      refine EL.nil ?_
      refine EX.seq ?_
      refine EC.yes rfl ?_
      refine EC.seq ?_
      refine EC.region ?_
      refine EL.val (x_move rfl) rfl ?_
      refine EL.val (x_eql (r := true) rfl rfl (decide_eq_true rfl)) rfl ?_
      refine EL.val (x_move rfl) rfl ?_
      refine EL.valg rfl rfl (x_move rfl) rfl ?_
      refine EL.valg rfl rfl (ln_29 rfl) rfl ?_
      refine EL.valg rfl rfl (x_eql (r := true) rfl rfl (decide_eq_true rfl)) rfl ?_
      refine EL.val (x_pick_t rfl rfl) rfl ?_
      refine EL.val (x_move rfl) rfl ?_
      refine EL.valg rfl rfl (x_move rfl) rfl ?_
      refine EL.valg rfl rfl (x_eql (r := true) rfl rfl (decide_eq_true rfl)) rfl ?_
      refine EL.val (x_pick_t rfl rfl) rfl ?_
      refine EL.val (x_move rfl) rfl ?_
      refine EL.callg rfl rfl cl_13 rfl (known_any _) ?_
      rintro e w6 ⟨rfl, hc6⟩
      refine ⟨_, rfl, ?_⟩
      replace q1 := q1.below hc6 q1.lt
      replace hbw := Below.on hbw hc6 hbw.size
      replace hbL := Below.on hbL hc6 hbL.size
      clear hc6
      refine EL.val (x_pick_t rfl rfl) rfl ?_
      refine EL.val (x_assign rfl) rfl ?_
      refine EL.nil ?_
      refine EX.seq ?_
      refine EC.ret ?_
      refine EX.seq_ret ?_
      exact EX.done (res1 rfl rfl) ⟨rfl, hbw⟩
    ·
      obtain ⟨rfl, _⟩ := lacks_ok hv hlr
      refine EL.call (cl_17 rfl) rfl (rnet_to (b := true) hv _ _ _ B (hr.below (hbw.mono hB)) (Nat.le_trans hB hbw.size) (by omega) (by omega)) ?_
      rintro e w7 ⟨rfl, hc7⟩
      refine ⟨_, rfl, ?_⟩
      replace q1 := q1.below hc7 q1.lt
      replace hbw := Below.on hbw hc7 hbw.size
      replace hbL := Below.on hbL hc7 hbL.size
      clear hc7
      refine EL.val (x_not rfl) rfl ?_
      refine EL.nil ?_
      refine EX.seq ?_
      refine EC.no rfl ?_
      refine EC.skip ?_
      refine EX.seq ?_
      refine EC.seq ?_
      refine EC.region ?_
      refine EL.val (ld_25 rfl (q1.at (j := 0) rfl) (q1.at (j := 1) rfl)) rfl ?_
      refine EL.call (cl_24 rfl) rfl (rlacks_any nt _ _ _ B (hr.below (hbw.mono hB)) (Nat.le_trans hB hbw.size) hv) ?_
      rintro e w8 ⟨⟨v, most, com, rfl, hlk, hol⟩, hc8⟩
      refine ⟨_, rfl, ?_⟩
      replace q1 := q1.below hc8 q1.lt
      replace hbw := Below.on hbw hc8 hbw.size
      replace hbL := Below.on hbL hc8 hbL.size
      clear hc8
      obtain ⟨rfl, els⟩ := lacks_same hv hlr hlk
      rw [← els] at hol
      have hll := lackL_len (setB com) nt.ports.length
      rw [← els] at hll
      obtain ⟨Ao, co_, rfl, _⟩ := (Rd.of_own hol).shape
      refine EL.val (x_move rfl) rfl ?_
      refine EL.val (x_extract rfl rfl) rfl ?_
      refine EL.val (x_extract rfl rfl) rfl ?_
      refine EL.val (x_assign rfl) rfl ?_
      refine EL.val (x_assign rfl) rfl ?_
      refine EL.nil ?_
      refine EX.seq ?_
      refine EC.seq ?_
      refine EC.region ?_
      refine EL.val (x_move rfl) rfl ?_
      refine EL.val (x_eql (r := true) rfl rfl (decide_eq_true rfl)) rfl ?_
      refine EL.val (x_move rfl) rfl ?_
      refine EL.valg rfl rfl (x_move rfl) rfl ?_
      refine EL.valg rfl rfl (x_move rfl) rfl ?_
      refine EL.callg rfl rfl (cl_25 rfl rfl) rfl (equal_same ls _ _ _ _ ((hrl.below hbL).more hbL.size) (Rd.of_own hol) (Nat.le_refl _) (by omega)) ?_
      rintro e w9 ⟨rfl, hc9⟩
      refine ⟨_, rfl, ?_⟩
      replace q1 := q1.below hc9 q1.lt
      replace hol := own_below hol hc9 (Nat.le_refl _)
      replace hbw := Below.on hbw hc9 hbw.size
      replace hbL := Below.on hbL hc9 hbL.size
      clear hc9
      refine EL.val (x_pick_t rfl rfl) rfl ?_
      refine EL.val (x_move rfl) rfl ?_
      refine EL.valg rfl rfl (x_move rfl) rfl ?_
      refine EL.valg rfl rfl (x_move rfl) rfl ?_
      refine EL.valg rfl rfl (x_eql (r := true) rfl rfl (decide_eq_true rfl)) rfl ?_
      refine EL.val (x_pick_t rfl rfl) rfl ?_
      refine EL.val (x_move rfl) rfl ?_
      refine EL.callg rfl rfl cl_13 rfl (known_any _) ?_
      rintro e w10 ⟨rfl, hc10⟩
      refine ⟨_, rfl, ?_⟩
      replace q1 := q1.below hc10 q1.lt
      replace hol := own_below hol hc10 (Nat.le_refl _)
      replace hbw := Below.on hbw hc10 hbw.size
      replace hbL := Below.on hbL hc10 hbL.size
      clear hc10
      refine EL.val (x_pick_t rfl rfl) rfl ?_
      refine EL.val (x_assign rfl) rfl ?_
      refine EL.nil ?_
      refine EX.seq ?_
      refine EC.ret ?_
      exact EX.done (res1 rfl rfl) ⟨rfl, hbw⟩
  ·
    refine EL.call (cl_12 rfl) rfl (heavy_to nt _ _ _ B (hr.below (hbw.mono hB)) (Nat.le_trans hB hbw.size) hm1 hm2 hhe) ?_
    rintro e w11 ⟨rfl, hc11⟩
    refine ⟨_, rfl, ?_⟩
    replace q1 := q1.below hc11 q1.lt
    replace hbw := Below.on hbw hc11 hbw.size
    clear hc11
    refine EL.nil ?_
    refine EX.seq ?_
    refine EC.yes rfl ?_
    refine EC.seq ?_
    refine EC.region ?_
    refine EL.call cl_13 rfl (known_any _) ?_
    rintro e w12 ⟨rfl, hc12⟩
    refine ⟨_, rfl, ?_⟩
    replace q1 := q1.below hc12 q1.lt
    replace hbw := Below.on hbw hc12 hbw.size
    clear hc12
    refine EL.val (x_assign rfl) rfl ?_
    refine EL.nil ?_
    refine EX.seq ?_
    refine EC.ret ?_
    refine EX.seq_ret ?_
    exact EX.done (res1 rfl rfl) ⟨rfl, hbw⟩
end Go.Proofs.Ytabgmnmpdjnjoaa
