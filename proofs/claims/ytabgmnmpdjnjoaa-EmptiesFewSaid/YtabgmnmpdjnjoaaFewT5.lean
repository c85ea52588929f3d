/- X21: what EmptiesFewProof needs of them (merged by trimpack.py). -/
import Derived.Test.YtabgmnmpdjnjoaaFewT4
set_option linter.unusedVariables false
set_option linter.unusedSimpArgs false
namespace Go.Proofs.Ytabgmnmpdjnjoaa
open Go Go.RowKit
theorem bool_info : (Try.prog.info? 4).map (fun i => (i.zero, i.size, i.bytes)) = some (some (.bool false), 1, 1) := by kernel_rfl
section
variable {n : Nat} {σ : Sg} {w : World} {dst : Option Tmp} {ty : TypeId} {t' : TypeId} {pos : String} {af : Array Edge} {g : Option (Nat × Bool)} {x y z : Operand}
theorem neq_bool {p q r : Bool} (hx : evS σ x = some (.bool p)) (hy : evS σ y = some (.bool q)) (hr : (p != q) = r) : Gives Try.prog n σ w ⟨dst, .binOp .neq 4 x y t', ty, pos, af, g⟩ (.bool r) := fun a ha => by
  simp only [execOp, ha.eval hx, ha.eval hy]
  subst hr
  cases p <;> cases q <;> simp [go_sem]
theorem ixs_0 {A1 A2 : Option Addr} {m1 c1 m2 c2 : Nat} (hx : evS σ x = some (.agg #[.slice A1 m1 c1, .slice A2 m2 c2])) (hy : evS σ y = some (.int .i64 ((0 : Nat) : Int))) : Gives Try.prog n σ w ⟨dst, .index 54 x y, ty, pos, af, g⟩ (.slice A1 m1 c1) := fun a ha => by
  simp only [execOp, ha.eval hx, ha.eval hy, Sem.run_bind]
  have h : Sem.run Try.prog (Instr.index 54 (.agg #[.slice A1 m1 c1, .slice A2 m2 c2]) (.int .i64 ((0 : Nat) : Int))) w = .ok (.slice A1 m1 c1) w := by kernel_rfl
  rw [h]
  rfl
theorem ixs_1 {A1 A2 : Option Addr} {m1 c1 m2 c2 : Nat} (hx : evS σ x = some (.agg #[.slice A1 m1 c1, .slice A2 m2 c2])) (hy : evS σ y = some (.int .i64 ((1 : Nat) : Int))) : Gives Try.prog n σ w ⟨dst, .index 54 x y, ty, pos, af, g⟩ (.slice A2 m2 c2) := fun a ha => by
  simp only [execOp, ha.eval hx, ha.eval hy, Sem.run_bind]
  have h : Sem.run Try.prog (Instr.index 54 (.agg #[.slice A1 m1 c1, .slice A2 m2 c2]) (.int .i64 ((1 : Nat) : Int))) w = .ok (.slice A2 m2 c2) w := by kernel_rfl
  rw [h]
  rfl
theorem bds_two {A1 A2 : Option Addr} {m1 c1 m2 c2 : Nat} (hx : evS σ x = some (.slice A1 m1 c1)) (hy : evS σ y = some (.slice A2 m2 c2)) : Gives Try.prog n σ w ⟨dst, .build 54 #[(0, x), (1, y)], ty, pos, af, g⟩ (.agg #[.slice A1 m1 c1, .slice A2 m2 c2]) := fun a ha => by
  simp only [execOp, List.map_toArray, List.map_cons, List.map_nil, ha.eval hx, ha.eval hy]
  go_simp
end
set_option maxHeartbeats 4000000 in
set_option maxRecDepth 100000 in
theorem few_law (nt : Net) (vp vw : Value) (w : World) (B : Nat) (hr : RdNet w B vp vw nt) (hB : B ≤ w.heap.size) (hm1 : nt.ports.length ≤ 9223372036854775807) (hm2 : nt.ways.length ≤ 9223372036854775807) (xs : List Int) (vx : Value) (hrx : Rd w B 1 vx xs.length (u8s xs)) (hbx : byteL xs) (hlx : xs.length ≤ 9223372036854775807) :
    Calls Try.prog 6 #[.agg #[vp, vw], vx] w fun e w' => e = .returned (.bool true) ∧ Below w.heap.size w w' := by
  obtain ⟨Ap, cp_, rfl, _⟩ := hr.ports.shape
  obtain ⟨Aw, cw_, rfl, _⟩ := hr.ways.shape
  obtain ⟨Ax, cx, rfl, _⟩ := hrx.shape
  have hbw := Below.refl w.heap.size w
  refine EC.enter 280 Try.func6 rfl rfl rfl ?_
  refine EC.seq ?_
  refine EC.region ?_
  refine EL.newP (bx_25 rfl) rfl ?_
  intro g1 w1 q1 hb1 hg1 hl1
  have bhbw_1 := Nat.le_trans hbw.size hg1
  replace hbw := Below.on hbw hb1 hbw.size
  clear hb1 hg1 hl1
  refine EL.val (x_assign rfl) rfl ?_
  refine EL.nil ?_
  refine EX.seq ?_
  refine EC.seq ?_
  refine EC.seq ?_
  refine EC.region ?_
  refine EL.val (fa_25_0 rfl) rfl ?_
  refine EL.val (ld_22 rfl (q1.at (j := 0) rfl)) rfl ?_
  refine EL.val (ln_22 rfl) rfl ?_
  by_cases lm1 : 30 < nt.ports.length
  ·
    refine EL.val (x_gtr (r := true) rfl rfl (decide_eq_true (by omega))) rfl ?_
    refine EL.val (x_move rfl) rfl ?_
    refine EL.skip rfl rfl rfl rfl ?_
    refine EL.skip rfl rfl rfl rfl ?_
    refine EL.skip rfl rfl rfl rfl ?_
    refine EL.skip rfl rfl rfl rfl ?_
    refine EL.val (x_pick_t rfl rfl) rfl ?_
    refine EL.val (x_move rfl) rfl ?_
    refine EL.skip rfl rfl rfl rfl ?_
    refine EL.skip rfl rfl rfl rfl ?_
    refine EL.skip rfl rfl rfl rfl ?_
    refine EL.skip rfl rfl rfl rfl ?_
    refine EL.val (x_pick_t rfl rfl) rfl ?_
    refine EL.nil ?_
    refine EX.seq ?_
    refine EC.yes rfl ?_
    refine EC.seq ?_
    refine EC.region ?_
    refine EL.call cl_13 rfl (known_any _) ?_
    rintro e w2 ⟨rfl, hc2⟩
    refine ⟨_, rfl, ?_⟩
    replace q1 := q1.below hc2 q1.lt
    replace hbw := Below.on hbw hc2 hbw.size
    clear hc2
    refine EL.val (x_assign rfl) rfl ?_
    refine EL.nil ?_
    refine EX.seq ?_
    refine EC.ret ?_
    refine EX.seq_ret ?_
    exact EX.done (res1 rfl rfl) ⟨rfl, hbw⟩
  ·
    refine EL.val (x_gtr (r := false) rfl rfl (decide_eq_false (by omega))) rfl ?_
    refine EL.val (x_move rfl) rfl ?_
    refine EL.valg rfl rfl (fa_25_1 rfl) rfl ?_
    refine EL.valg rfl rfl (ld_23 rfl (q1.at (j := 1) rfl)) rfl ?_
    refine EL.valg rfl rfl (ln_23 rfl) rfl ?_
    by_cases lm2 : 100 < nt.ways.length
    ·
      refine EL.valg rfl rfl (x_gtr (r := true) rfl rfl (decide_eq_true (by omega))) rfl ?_
      refine EL.val (x_pick_f rfl rfl) rfl ?_
      refine EL.val (x_move rfl) rfl ?_
      refine EL.skip rfl rfl rfl rfl ?_
      refine EL.skip rfl rfl rfl rfl ?_
      refine EL.skip rfl rfl rfl rfl ?_
      refine EL.skip rfl rfl rfl rfl ?_
      refine EL.val (x_pick_t rfl rfl) rfl ?_
      refine EL.nil ?_
      refine EX.seq ?_
      refine EC.yes rfl ?_
      refine EC.seq ?_
      refine EC.region ?_
      refine EL.call cl_13 rfl (known_any _) ?_
      rintro e w3 ⟨rfl, hc3⟩
      refine ⟨_, rfl, ?_⟩
      replace q1 := q1.below hc3 q1.lt
      replace hbw := Below.on hbw hc3 hbw.size
      clear hc3
      refine EL.val (x_assign rfl) rfl ?_
      refine EL.nil ?_
      refine EX.seq ?_
      refine EC.ret ?_
      refine EX.seq_ret ?_
      exact EX.done (res1 rfl rfl) ⟨rfl, hbw⟩
    ·
      refine EL.valg rfl rfl (x_gtr (r := false) rfl rfl (decide_eq_false (by omega))) rfl ?_
      refine EL.val (x_pick_f rfl rfl) rfl ?_
      refine EL.val (x_move rfl) rfl ?_
      refine EL.valg rfl rfl (ld_25 rfl (q1.at (j := 0) rfl) (q1.at (j := 1) rfl)) rfl ?_
      refine EL.callg rfl rfl (cl_14 rfl) rfl (copied_any nt _ _ _ B (hr.below (hbw.mono hB)) (Nat.le_trans hB hbw.size) (by omega) (by omega)) ?_
      rintro e w4 ⟨⟨vp4, vw4, rfl, ho1⟩, hc4⟩
      refine ⟨_, rfl, ?_⟩
      replace q1 := q1.below hc4 q1.lt
      replace hbw := Below.on hbw hc4 hbw.size
      clear hc4
      obtain ⟨Bp4, dp4, rfl, _⟩ := (Rd.of_own ho1.ports).shape
      obtain ⟨Bw4, dw4, rfl, _⟩ := (Rd.of_own ho1.ways).shape
      by_cases hv : netB nt = true
      ·
        obtain ⟨⟨hp1, hp60⟩, hw300, hvp, hvw⟩ := netB_ok hv
        refine EL.callg rfl rfl (cl_27 rfl) rfl (check_to (e0 := 0) (by rw [netE, if_pos hv]) _ _ _ _ ho1.rd (Nat.le_refl _) (by omega) (by omega)) ?_
        rintro e w5 ⟨rfl, hc5⟩
        refine ⟨_, rfl, ?_⟩
        replace q1 := q1.below hc5 q1.lt
        replace hbw := Below.on hbw hc5 hbw.size
        clear hc5
        refine EL.valg rfl rfl (x_neq (r := false) rfl rfl (decide_eq_false (fun h => h rfl))) rfl ?_
        refine EL.val (x_pick_f rfl rfl) rfl ?_
        refine EL.nil ?_
        refine EX.seq ?_
        refine EC.no rfl ?_
        refine EC.skip ?_
        refine EX.seq ?_
        refine EC.seq ?_
        refine EC.region ?_
        refine EL.val (ld_25 rfl (q1.at (j := 0) rfl) (q1.at (j := 1) rfl)) rfl ?_
        refine EL.call (cl_14 rfl) rfl (copied_any nt _ _ _ B (hr.below (hbw.mono hB)) (Nat.le_trans hB hbw.size) (by omega) (by omega)) ?_
        rintro e w6 ⟨⟨vp6, vw6, rfl, ho3⟩, hc6⟩
        refine ⟨_, rfl, ?_⟩
        replace q1 := q1.below hc6 q1.lt
        replace hbw := Below.on hbw hc6 hbw.size
        clear hc6
        obtain ⟨Bp6, dp6, rfl, _⟩ := (Rd.of_own ho3.ports).shape
        obtain ⟨Bw6, dw6, rfl, _⟩ := (Rd.of_own ho3.ways).shape
        refine EL.call (cl_23 rfl) rfl (lacks_any nt _ _ _ _ ho3.rd (Nat.le_refl _) (by omega) (by omega)) ?_
        rintro e w7 ⟨⟨vl, ls, lack, e_, rfl, hlr, hrl⟩, hc7⟩
        refine ⟨_, rfl, ?_⟩
        obtain ⟨rfl, hl0, ⟨f, els, ell, hall⟩, hlf, hle⟩ := lacks_ok hv hlr
        replace q1 := q1.below hc7 q1.lt
        replace hbw := Below.on hbw hc7 hbw.size
        clear hc7
        obtain ⟨Al, cl_, rfl, _⟩ := hrl.shape
        have hwL := hbw.size
        have hbL := Below.refl w7.heap.size w7
        refine EL.val (x_move rfl) rfl ?_
        refine EL.val (x_extract rfl rfl) rfl ?_
        refine EL.val (x_extract rfl rfl) rfl ?_
        refine EL.val (x_extract rfl rfl) rfl ?_
        refine EL.val (x_assign rfl) rfl ?_
        refine EL.val (x_assign rfl) rfl ?_
        refine EL.val (x_assign rfl) rfl ?_
        refine EL.nil ?_
        refine EX.seq ?_
        refine EC.seq ?_
        refine EC.region ?_
        refine EL.val (ld_25 rfl (q1.at (j := 0) rfl) (q1.at (j := 1) rfl)) rfl ?_
        refine EL.call (cl_14 rfl) rfl (copied_any nt _ _ _ B (hr.below (hbw.mono hB)) (Nat.le_trans hB hbw.size) (by omega) (by omega)) ?_
        rintro e w8 ⟨⟨vp8, vw8, rfl, ho4⟩, hc8⟩
        refine ⟨_, rfl, ?_⟩
        replace q1 := q1.below hc8 q1.lt
        replace hbw := Below.on hbw hc8 hbw.size
        replace hbL := Below.on hbL hc8 hbL.size
        clear hc8
        obtain ⟨Bp8, dp8, rfl, _⟩ := (Rd.of_own ho4.ports).shape
        obtain ⟨Bw8, dw8, rfl, _⟩ := (Rd.of_own ho4.ways).shape
        refine EL.call (cl_15 rfl) rfl (move_any nt _ _ _ _ ho4.rd (Nat.le_refl _) (by omega) (by omega)) ?_
        rintro e w9 ⟨⟨vm, vr, ml, c9, pr, er, rfl, hm, _, _⟩, hc9⟩
        refine ⟨_, rfl, ?_⟩
        replace q1 := q1.below hc9 q1.lt
        replace hbw := Below.on hbw hc9 hbw.size
        replace hbL := Below.on hbL hc9 hbL.size
        clear hc9
        refine EL.val (x_move rfl) rfl ?_
        refine EL.val (x_extract rfl rfl) rfl ?_
        refine EL.val (x_extract rfl rfl) rfl ?_
        refine EL.val (x_extract rfl rfl) rfl ?_
        refine EL.val (x_extract rfl rfl) rfl ?_
        refine EL.val (x_assign rfl) rfl ?_
        refine EL.val (x_assign rfl) rfl ?_
        refine EL.val (x_assign rfl) rfl ?_
        refine EL.val (x_assign rfl) rfl ?_
        refine EL.nil ?_
        refine EX.seq ?_
        refine EC.seq ?_
        refine EC.cutD [55, 56, 57, 58, 59, 60, 61, 62, 63, 64, 65, 66, 67, 68, 69, 70, 71, 72, 73, 74, 75, 76, 77, 78, 79, 80, 81, 82, 83] (fun _ : Unit => [(83, .bool false)]) (fun _ W => Blk W g1 25 #[.slice Ap nt.ports.length cp_, .slice Aw nt.ways.length cw_] ∧ Below w7.heap.size w7 W ∧ Below w.heap.size w W) ?_ ?_
        ·
          rcases move_err hv hm with ⟨rfl, hfe⟩ | ⟨rfl, _, _, _, hfe⟩
          ·
            have hl00 : lack = 0 := hlf.2 hfe
            have hls0 : ls.length = 0 := by rw [hle.1 hl00]; rfl
            refine EC.region ?_
            refine EL.val (x_move rfl) rfl ?_
            refine EL.val (x_neq (r := false) rfl rfl (decide_eq_false (fun h => h rfl))) rfl ?_
            refine EL.val (x_move rfl) rfl ?_
            refine EL.valg rfl rfl (x_move rfl) rfl ?_
            refine EL.valg rfl rfl (x_lss (r := false) rfl rfl (decide_eq_false (by omega))) rfl ?_
            refine EL.val (x_pick_f rfl rfl) rfl ?_
            refine EL.val (x_move rfl) rfl ?_
            refine EL.valg rfl rfl (x_move rfl) rfl ?_
            refine EL.valg rfl rfl (x_neq (r := false) rfl rfl (decide_eq_false (fun h => h rfl))) rfl ?_
            refine EL.valg rfl rfl (x_move rfl) rfl ?_
            refine EL.skip rfl rfl rfl rfl ?_
            refine EL.skip rfl rfl rfl rfl ?_
            refine EL.valg rfl rfl (x_pick_f rfl rfl) rfl ?_
            refine EL.val (x_pick_f rfl rfl) rfl ?_
            refine EL.val (x_move rfl) rfl ?_
            refine EL.valg rfl rfl (x_move rfl) rfl ?_
            refine EL.valg rfl rfl (x_eql (r := true) rfl rfl (decide_eq_true rfl)) rfl ?_
            refine EL.valg rfl rfl (x_move rfl) rfl ?_
            refine EL.valg rfl rfl (x_eql (r := true) rfl rfl (decide_eq_true (by omega))) rfl ?_
            refine EL.valg rfl rfl (neq_bool (r := false) rfl rfl rfl) rfl ?_
            refine EL.val (x_pick_f rfl rfl) rfl ?_
            refine EL.val (x_move rfl) rfl ?_
            refine EL.valg rfl rfl (x_move rfl) rfl ?_
            refine EL.valg rfl rfl (x_eql (r := true) rfl rfl (decide_eq_true (by omega))) rfl ?_
            refine EL.valg rfl rfl (x_move rfl) rfl ?_
            refine EL.valg rfl rfl (ln_29 rfl) rfl ?_
            refine EL.valg rfl rfl (x_eql (r := true) rfl rfl (decide_eq_true (by omega))) rfl ?_
            refine EL.valg rfl rfl (neq_bool (r := false) rfl rfl rfl) rfl ?_
            refine EL.val (x_pick_f rfl rfl) rfl ?_
            refine EL.nil ?_
            refine EX.cutE () ⟨rfl, trivial⟩ (by repeat first | with_reducible exact (Sub.refl _).del _ | refine sub_past rfl ?_ | exact (Sub.refl _).del _ | refine sub_del rfl ?_ | refine sub_insL_nil ?_) ⟨q1, hbL, hbw⟩
          ·
            have hl00 : lack ≠ 0 := fun h => (hlf.1 h).elim fun mv ha => hfe mv ha
            have hls0 : ls.length ≠ 0 := fun h => hl00 (hle.2 (List.eq_nil_of_length_eq_zero h))
            refine EC.region ?_
            refine EL.val (x_move rfl) rfl ?_
            refine EL.val (x_neq (r := false) rfl rfl (decide_eq_false (fun h => h rfl))) rfl ?_
            refine EL.val (x_move rfl) rfl ?_
            refine EL.valg rfl rfl (x_move rfl) rfl ?_
            refine EL.valg rfl rfl (x_lss (r := false) rfl rfl (decide_eq_false (by omega))) rfl ?_
            refine EL.val (x_pick_f rfl rfl) rfl ?_
            refine EL.val (x_move rfl) rfl ?_
            refine EL.valg rfl rfl (x_move rfl) rfl ?_
            refine EL.valg rfl rfl (x_neq (r := true) rfl rfl (by decide)) rfl ?_
            refine EL.valg rfl rfl (x_move rfl) rfl ?_
            refine EL.valg rfl rfl (x_move rfl) rfl ?_
            refine EL.valg rfl rfl (x_neq (r := false) rfl rfl (decide_eq_false (fun h => h rfl))) rfl ?_
            refine EL.valg rfl rfl (x_pick_t rfl rfl) rfl ?_
            refine EL.val (x_pick_f rfl rfl) rfl ?_
            refine EL.val (x_move rfl) rfl ?_
            refine EL.valg rfl rfl (x_move rfl) rfl ?_
            refine EL.valg rfl rfl (x_eql (r := false) rfl rfl (by decide)) rfl ?_
            refine EL.valg rfl rfl (x_move rfl) rfl ?_
            refine EL.valg rfl rfl (x_eql (r := false) rfl rfl (decide_eq_false (by omega))) rfl ?_
            refine EL.valg rfl rfl (neq_bool (r := false) rfl rfl rfl) rfl ?_
            refine EL.val (x_pick_f rfl rfl) rfl ?_
            refine EL.val (x_move rfl) rfl ?_
            refine EL.valg rfl rfl (x_move rfl) rfl ?_
            refine EL.valg rfl rfl (x_eql (r := false) rfl rfl (decide_eq_false (by omega))) rfl ?_
            refine EL.valg rfl rfl (x_move rfl) rfl ?_
            refine EL.valg rfl rfl (ln_29 rfl) rfl ?_
            refine EL.valg rfl rfl (x_eql (r := false) rfl rfl (decide_eq_false (by omega))) rfl ?_
            refine EL.valg rfl rfl (neq_bool (r := false) rfl rfl rfl) rfl ?_
            refine EL.val (x_pick_f rfl rfl) rfl ?_
            refine EL.nil ?_
            refine EX.cutE () ⟨rfl, trivial⟩ (by repeat first | with_reducible exact (Sub.refl _).del _ | refine sub_past rfl ?_ | exact (Sub.refl _).del _ | refine sub_del rfl ?_ | refine sub_insL_nil ?_) ⟨q1, hbL, hbw⟩
        ·
          clear q1 hbL hbw
          rintro _ wc5 ⟨q2c, hbL, hbw⟩
          refine EC.no rfl ?_
          refine EC.skip ?_
          refine EX.seq ?_
          refine EC.seq ?_
          have hszL := hbL.size
          have lt_1 := q2c.lt
          refine EC.regionPA [[], [0], [0, 1], [0, 1, 2], [], [4], [4, 5], [4, 5, 6], [0, 1, 2, 3], [0, 1, 2, 3, 4, 5, 6, 7, 8]] 9 [3, 7] (phi (fun i_ r => match i_ with | 0 => r 0 = .pointer (some ⟨g1, 0, none⟩) | 1 => r 1 = .slice Ap nt.ports.length cp_ | 2 => r 2 = .int .i64 (nt.ports.length : Nat) | 4 => r 4 = .pointer (some ⟨g1, 0, none⟩) | 5 => r 5 = .slice Ap nt.ports.length cp_ | 6 => r 6 = .int .i64 (nt.ports.length : Nat) | _ => True) [(3, fun r w_ => ∃ g_, r 3 = .slice (some ⟨g_, 0, none⟩) nt.ports.length nt.ports.length ∧ w_.ownsRow w7.heap.size 4 1 (.slice (some ⟨g_, 0, none⟩) nt.ports.length nt.ports.length) nt.ports.length (List.replicate nt.ports.length (.bool false))), (7, fun r w_ => ∃ g_, r 7 = .slice (some ⟨g_, 0, none⟩) nt.ports.length nt.ports.length ∧ w_.ownsRow w7.heap.size 4 1 (.slice (some ⟨g_, 0, none⟩) nt.ports.length nt.ports.length) nt.ports.length (List.replicate nt.ports.length (.bool false))), (8, fun r w_ => ∃ g_, r 8 = .slice (some ⟨g_, 0, none⟩) nt.ports.length nt.ports.length ∧ r 3 = .slice (some ⟨g_, 0, none⟩) nt.ports.length nt.ports.length)]) (by kernel_rfl) rfl rfl (phi_cons mono_mk (phi_cons mono_mk (phi_cons mono_mv (phi_nil)))) (fun i_ hi_ => ?_) ?_
          · match i_, hi_ with
            | 0, _ =>
              intro val w1 a hb ha hd
              refine hka ?_
              have ha := ha.sub (Sub.ins (d := 2) (Sub.nil _) rfl)
              exact hs_val ha rfl rfl (fa_25_0 rfl) rfl rfl
            | 1, _ =>
              intro val w1 a hb ha hd
              refine hka ?_
              have e0 : val 0 = .pointer (some ⟨g1, 0, none⟩) := hd 0 (memB_mem.1 rfl)
              have ha := ha.sub (Sub.ins (d := 84) (Sub.nil _) (dep_get rfl e0))
              exact hs_val ha rfl rfl (ld_22 rfl ((q2c.below hb q2c.lt).at (j := 0) rfl)) rfl rfl
            | 2, _ =>
              intro val w1 a hb ha hd
              refine hka ?_
              have e1 : val 1 = .slice Ap nt.ports.length cp_ := hd 1 (memB_mem.1 rfl)
              have ha := ha.sub (Sub.ins (d := 85) (Sub.nil _) (dep_get rfl e1))
              exact hs_val ha rfl rfl (ln_22 rfl) rfl rfl
            | 3, _ =>
              intro val w1 a hb ha hd
              have e2 : val 2 = .int .i64 (nt.ports.length : Nat) := hd 2 (memB_mem.1 rfl)
              have ha := ha.sub (Sub.ins (d := 86) (Sub.nil _) (dep_get rfl e2))
              exact hsa_make1 (base := w7.heap.size) (z := .bool false) Try.underlying51 bool_info rfl ha rfl rfl (by omega) rfl (Nat.le_trans hszL hb.size) (fun g w' ho => ⟨g, rfl, ho⟩)
            | 4, _ =>
              intro val w1 a hb ha hd
              refine hka ?_
              have ha := ha.sub (Sub.ins (d := 2) (Sub.nil _) rfl)
              exact hs_val ha rfl rfl (fa_25_0 rfl) rfl rfl
            | 5, _ =>
              intro val w1 a hb ha hd
              refine hka ?_
              have e4 : val 4 = .pointer (some ⟨g1, 0, none⟩) := hd 4 (memB_mem.1 rfl)
              have ha := ha.sub (Sub.ins (d := 88) (Sub.nil _) (dep_get rfl e4))
              exact hs_val ha rfl rfl (ld_22 rfl ((q2c.below hb q2c.lt).at (j := 0) rfl)) rfl rfl
            | 6, _ =>
              intro val w1 a hb ha hd
              refine hka ?_
              have e5 : val 5 = .slice Ap nt.ports.length cp_ := hd 5 (memB_mem.1 rfl)
              have ha := ha.sub (Sub.ins (d := 89) (Sub.nil _) (dep_get rfl e5))
              exact hs_val ha rfl rfl (ln_22 rfl) rfl rfl
            | 7, _ =>
              intro val w1 a hb ha hd
              have e6 : val 6 = .int .i64 (nt.ports.length : Nat) := hd 6 (memB_mem.1 rfl)
              have ha := ha.sub (Sub.ins (d := 90) (Sub.nil _) (dep_get rfl e6))
              exact hsa_make1 (base := w7.heap.size) (z := .bool false) Try.underlying51 bool_info rfl ha rfl rfl (by omega) rfl (Nat.le_trans hszL hb.size) (fun g w' ho => ⟨g, rfl, ho⟩)
            | 8, _ =>
              intro val w1 a hb ha hd
              refine hka ?_
              obtain ⟨ga3_, e3, q3_⟩ := hd 3 (memB_mem.1 rfl)
              have ha := ha.sub (Sub.ins (d := 87) (Sub.nil _) (dep_get rfl e3))
              exact hs_val ha rfl rfl (x_assign rfl) ⟨_, rfl, e3⟩ rfl
            | k + 9, h => exact absurd h (by omega)
          · intro val wR7 hb halc hd
            have e0 : val 0 = .pointer (some ⟨g1, 0, none⟩) := hd 0 (by omega)
            have e1 : val 1 = .slice Ap nt.ports.length cp_ := hd 1 (by omega)
            have e2 : val 2 = .int .i64 (nt.ports.length : Nat) := hd 2 (by omega)
            obtain ⟨ga3_, e3, q3_⟩ := hd 3 (by omega)
            have e4 : val 4 = .pointer (some ⟨g1, 0, none⟩) := hd 4 (by omega)
            have e5 : val 5 = .slice Ap nt.ports.length cp_ := hd 5 (by omega)
            have e6 : val 6 = .int .i64 (nt.ports.length : Nat) := hd 6 (by omega)
            obtain ⟨ga7_, e7, q7_⟩ := hd 7 (by omega)
            obtain ⟨ga8_, e8, f8_⟩ := hd 8 (by omega)
            refine EL.ends (cs := [.pointer (some ⟨g1, 0, none⟩), .slice Ap nt.ports.length cp_, .int .i64 (nt.ports.length : Nat), .slice (some ⟨ga3_, 0, none⟩) nt.ports.length nt.ports.length, .pointer (some ⟨g1, 0, none⟩), .slice Ap nt.ports.length cp_, .int .i64 (nt.ports.length : Nat), .slice (some ⟨ga7_, 0, none⟩) nt.ports.length nt.ports.length, .slice (some ⟨ga8_, 0, none⟩) nt.ports.length nt.ports.length]) ⟨e0, e1, e2, e3, e4, e5, e6, e7, e8, trivial⟩ rfl ?_
            replace q2c := q2c.below hb q2c.lt
            replace hbw := Below.on hbw hb hbw.size
            replace hbL := Below.on hbL hb hbL.size
            clear hb
            have hgn0 := alcA_ne halc (i := 3) (j := 7) rfl rfl rfl rfl rfl e3 rfl e7 rfl
            have f8b := e3.symm.trans f8_
            injection f8b with f8b
            injection f8b with f8b
            injection f8b with f8b
            subst f8b
            obtain ⟨gi, egi⟩ : ∃ z, z = ga3_ := ⟨_, rfl⟩
            obtain ⟨go, ego⟩ : ∃ z, z = ga7_ := ⟨_, rfl⟩
            rw [← egi] at hgn0 q3_ ⊢
            rw [← ego] at hgn0 q7_ ⊢
            have hin := q3_
            have hot := q7_
            rw [← bools_rep] at hin hot
            clear q3_ q7_
            refine EL.val (x_assign rfl) rfl ?_
            refine EL.nil ?_
            refine EX.seq ?_
            refine EC.seq ?_
            refine EC.seq ?_
            refine EC.region ?_
            refine EL.val (x_assign rfl) rfl ?_
            refine EL.nil ?_
            refine EX.seq ?_
            refine EC.block ?_
            refine EC.loopD [4, 14, 92, 93, 94, 95, 96, 97, 98, 99, 100, 101, 102, 103, 104, 105, 106, 107, 108, 109, 110, 111, 112, 113, 114, 115, 116, 117, 118, 119, 120, 121, 122, 123, 124, 125, 126, 127, 128, 129, 130, 131, 132, 133] (fun x : Nat × List Bool => [(14, .int .i64 (x.1 : Nat))]) (fun x W => x.1 ≤ ls.length ∧ InAt ls nt.ports.length x.1 x.2 ∧ Blk W g1 25 #[.slice Ap nt.ports.length cp_, .slice Aw nt.ways.length cw_] ∧ W.ownsRow w7.heap.size 4 1 (.slice (some ⟨gi, 0, none⟩) nt.ports.length nt.ports.length) nt.ports.length (bools x.2) ∧ W.ownsRow w7.heap.size 4 1 (.slice (some ⟨go, 0, none⟩) nt.ports.length nt.ports.length) nt.ports.length (bools (List.replicate nt.ports.length false)) ∧ Below w7.heap.size w7 W ∧ Below w.heap.size w W) (fun x => ls.length - x.1) (0, List.replicate nt.ports.length false) ⟨Nat.zero_le _, InAt.start _ _, q2c, hin, hot, hbL, hbw⟩ ⟨rfl, trivial⟩ ?_
            clear q2c hin hot hbL hbw
            rintro ⟨x, bb⟩ wx ⟨hx, hia, q2x, hin, hot, hbL, hbw⟩
            dsimp only at hx hia hin
            by_cases hlt : x < ls.length
            ·
              obtain ⟨pv, hpv, _, hpe⟩ := lackL_at (f := f) (n := nt.ports.length) (k := x) (by rw [← els]; exact hlt)
              rw [← els] at hpe
              obtain ⟨bl, ol, e_, _, lc⟩ := ints_cells ls x hlt _ _ _ _ _ hrl
              subst e_
              have hlen9 := lackL_len f nt.ports.length
              rw [← els] at hlen9
              have hbl := hia.len
              have hstp := hia.step hpv hpe
              rw [hpe] at lc
              by_cases hx0 : 0 < x
              ·
                obtain ⟨bl2, ol2, e2_, _, lc2⟩ := ints_cells ls (x - 1) (by omega) _ _ _ _ _ hrl
                injection e2_ with e2_
                injection e2_ with e3_ e4_
                subst e3_
                subst e4_
                have hlt2 := lackL_lt (f := f) (n := nt.ports.length) (j := x - 1) (k := x) (by omega) (by rw [← els]; exact hlt)
                rw [← els, hpe] at hlt2
                refine EC.seq ?_
                refine EC.seq ?_
                refine EC.region ?_
                refine EL.val (x_move rfl) rfl ?_
                refine EL.val (x_move rfl) rfl ?_
                refine EL.val (ln_29 rfl) rfl ?_
                refine EL.val (x_lss rfl rfl (decide_eq_true (show (((x : Nat) : Int) < ((ls.length : Nat) : Int)) by omega))) rfl ?_
                refine EL.nil ?_
                refine EX.seq ?_
                refine EC.yes rfl ?_
                refine EC.skip ?_
                refine EX.seq ?_
                refine EC.seq ?_
                refine EC.block ?_
                refine EC.seq ?_
                refine EC.seq ?_
                refine EC.regionQ (by kernel_rfl) (by kernel_rfl) ?_
                refine EQ.val (fun _ hw => (x_move rfl)) rfl ?_
                refine EQ.val (fun _ hw => (x_move rfl)) rfl ?_
                refine EQ.val (fun _ hw => (ix_29 rfl rfl hlt)) rfl ?_
                refine EQ.val (fun _ hw => (ld_3 rfl (below_load hw (below_load hbL lc)))) rfl ?_
                refine EQ.val (fun _ hw => (x_lss (r := false) rfl rfl (decide_eq_false (by omega)))) rfl ?_
                refine EQ.val (fun _ hw => (x_move rfl)) rfl ?_
                refine EQ.valg rfl rfl (fun _ hw => (x_move rfl)) rfl ?_
                refine EQ.valg rfl rfl (fun _ hw => (x_move rfl)) rfl ?_
                refine EQ.valg rfl rfl (fun _ hw => (ix_29 rfl rfl hlt)) rfl ?_
                refine EQ.valg rfl rfl (fun _ hw => (ld_3 rfl (below_load hw (below_load hbL lc)))) rfl ?_
                refine EQ.valg rfl rfl (fun _ hw => (x_move rfl)) rfl ?_
                refine EQ.valg rfl rfl (fun _ hw => (ln_51 rfl)) rfl ?_
                refine EQ.valg rfl rfl (fun _ hw => (x_geq (r := false) rfl rfl (decide_eq_false (by omega)))) rfl ?_
                refine EQ.val (fun _ hw => (x_pick_f rfl rfl)) rfl ?_
                refine EQ.val (fun _ hw => (x_move rfl)) rfl ?_
                refine EQ.valg rfl rfl (fun _ hw => (x_move rfl)) rfl ?_
                refine EQ.valg rfl rfl (fun _ hw => (x_gtr (r := true) rfl rfl (decide_eq_true (by omega)))) rfl ?_
                refine EQ.valg rfl rfl (fun _ hw => (x_move rfl)) rfl ?_
                refine EQ.valg rfl rfl (fun _ hw => (x_move rfl)) rfl ?_
                refine EQ.valg rfl rfl (fun _ hw => (x_move rfl)) rfl ?_
                refine EQ.valg rfl rfl (fun _ hw => (ix_29 rfl rfl hlt)) rfl ?_
                refine EQ.valg rfl rfl (fun _ hw => (ld_3 rfl (below_load hw (below_load hbL lc)))) rfl ?_
                refine EQ.valg rfl rfl (fun _ hw => (x_move rfl)) rfl ?_
                refine EQ.valg rfl rfl (fun _ hw => (x_move rfl)) rfl ?_
                refine EQ.valg rfl rfl (fun _ hw => (x_sub rfl rfl (c := (((x - 1 : Nat) : Nat) : Int)) ((IntWalk.i64_in _ ⟨by omega, by omega⟩).trans (by omega)))) rfl ?_
                refine EQ.valg rfl rfl (fun _ hw => (ix_29 rfl rfl (show x - 1 < ls.length by omega))) rfl ?_
                refine EQ.valg rfl rfl (fun _ hw => (ld_3 rfl (below_load hw (below_load hbL lc2)))) rfl ?_
                refine EQ.valg rfl rfl (fun _ hw => (x_leq (r := false) rfl rfl (decide_eq_false (by omega)))) rfl ?_
                refine EQ.valg rfl rfl (fun _ hw => (x_pick_t rfl rfl)) rfl ?_
                refine EQ.val (fun _ hw => (x_pick_f rfl rfl)) rfl ?_
                refine EQ.fin (fun w10 hw_ => ?_)
                replace q2x := q2x.below hw_ q2x.lt
                replace hin := own_below hin hw_ (Nat.le_refl _)
                replace hot := own_below hot hw_ (Nat.le_refl _)
                replace hbw := Below.on hbw hw_ hbw.size
                replace hbL := Below.on hbL hw_ hbL.size
                clear hw_
                refine EX.seq ?_
                refine EC.no rfl ?_
                refine EC.skip ?_
                refine EX.seq ?_
                refine EC.region ?_
                refine EL.val (x_move rfl) rfl ?_
                refine EL.val (x_move rfl) rfl ?_
                refine EL.val (x_move rfl) rfl ?_
                refine EL.val (ix_29 rfl rfl hlt) rfl ?_
                refine EL.val (ld_3 rfl (below_load hbL lc)) rfl ?_
                refine EL.val (ix_51 rfl rfl hpv) rfl ?_
                refine EL.storeRow (l' := [.bool true]) rfl rfl hin sz_4 rfl rfl (by rw [bools_len, Nat.zero_add]; omega) rfl ?_
                intro w11 ho2 hgr
                rw [Nat.zero_add, spl_bools (by omega)] at ho2
                replace q2x := blk_grown q2x hin rfl hgr
                replace hbw := hbw.trans (below_row (own_less hin hwL) hgr hbw.size)
                replace hbL := hbL.trans (below_row (own_less hin (Nat.le_refl _)) hgr hbL.size)
                replace hot := own_ne hot hgr hgn0.symm
                clear hin hgr
                have hin := ho2
                clear ho2
                refine EL.nil ?_
                refine EX.blk ?_
                refine EX.seq ?_
                refine EC.region ?_
                refine EL.val (x_move rfl) rfl ?_
                refine EL.val (x_add rfl rfl (c := ((x + 1 : Nat) : Int)) ((IntWalk.i64_in _ ⟨by first | omega | (simp only; omega), by first | omega | (simp only; omega)⟩).trans (by first | omega | (simp only; omega)))) rfl ?_
                refine EL.val (x_assign rfl) rfl ?_
                refine EL.nil ?_
                refine EX.roundD (x + 1, bb.set pv true) ⟨rfl, trivial⟩ (by repeat first | with_reducible exact Sub.refl _ | refine sub_past rfl ?_ | exact Sub.refl _ | refine sub_del rfl ?_ | refine sub_insL_nil ?_) ⟨hlt, hstp, q2x, hin, hot, hbL, hbw⟩ (by simp only; omega)
              ·
                refine EC.seq ?_
                refine EC.seq ?_
                refine EC.region ?_
                refine EL.val (x_move rfl) rfl ?_
                refine EL.val (x_move rfl) rfl ?_
                refine EL.val (ln_29 rfl) rfl ?_
                refine EL.val (x_lss rfl rfl (decide_eq_true (show (((x : Nat) : Int) < ((ls.length : Nat) : Int)) by omega))) rfl ?_
                refine EL.nil ?_
                refine EX.seq ?_
                refine EC.yes rfl ?_
                refine EC.skip ?_
                refine EX.seq ?_
                refine EC.seq ?_
                refine EC.block ?_
                refine EC.seq ?_
                refine EC.seq ?_
                refine EC.regionQ (by kernel_rfl) (by kernel_rfl) ?_
                refine EQ.val (fun _ hw => (x_move rfl)) rfl ?_
                refine EQ.val (fun _ hw => (x_move rfl)) rfl ?_
                refine EQ.val (fun _ hw => (ix_29 rfl rfl hlt)) rfl ?_
                refine EQ.val (fun _ hw => (ld_3 rfl (below_load hw (below_load hbL lc)))) rfl ?_
                refine EQ.val (fun _ hw => (x_lss (r := false) rfl rfl (decide_eq_false (by omega)))) rfl ?_
                refine EQ.val (fun _ hw => (x_move rfl)) rfl ?_
                refine EQ.valg rfl rfl (fun _ hw => (x_move rfl)) rfl ?_
                refine EQ.valg rfl rfl (fun _ hw => (x_move rfl)) rfl ?_
                refine EQ.valg rfl rfl (fun _ hw => (ix_29 rfl rfl hlt)) rfl ?_
                refine EQ.valg rfl rfl (fun _ hw => (ld_3 rfl (below_load hw (below_load hbL lc)))) rfl ?_
                refine EQ.valg rfl rfl (fun _ hw => (x_move rfl)) rfl ?_
                refine EQ.valg rfl rfl (fun _ hw => (ln_51 rfl)) rfl ?_
                refine EQ.valg rfl rfl (fun _ hw => (x_geq (r := false) rfl rfl (decide_eq_false (by omega)))) rfl ?_
                refine EQ.val (fun _ hw => (x_pick_f rfl rfl)) rfl ?_
                refine EQ.val (fun _ hw => (x_move rfl)) rfl ?_
                refine EQ.valg rfl rfl (fun _ hw => (x_move rfl)) rfl ?_
                refine EQ.valg rfl rfl (fun _ hw => (x_gtr (r := false) rfl rfl (decide_eq_false (by omega)))) rfl ?_
                refine EQ.valg rfl rfl (fun _ hw => (x_move rfl)) rfl ?_
                refine EQ.skip rfl rfl rfl rfl ?_
                refine EQ.skip rfl rfl rfl rfl ?_
                refine EQ.skip rfl rfl rfl rfl ?_
                refine EQ.skip rfl rfl rfl rfl ?_
                refine EQ.skip rfl rfl rfl rfl ?_
                refine EQ.skip rfl rfl rfl rfl ?_
                refine EQ.skip rfl rfl rfl rfl ?_
                refine EQ.skip rfl rfl rfl rfl ?_
                refine EQ.skip rfl rfl rfl rfl ?_
                refine EQ.skip rfl rfl rfl rfl ?_
                refine EQ.valg rfl rfl (fun _ hw => (x_pick_f rfl rfl)) rfl ?_
                refine EQ.val (fun _ hw => (x_pick_f rfl rfl)) rfl ?_
                refine EQ.fin (fun w12 hw_ => ?_)
                replace q2x := q2x.below hw_ q2x.lt
                replace hin := own_below hin hw_ (Nat.le_refl _)
                replace hot := own_below hot hw_ (Nat.le_refl _)
                replace hbw := Below.on hbw hw_ hbw.size
                replace hbL := Below.on hbL hw_ hbL.size
                clear hw_
                refine EX.seq ?_
                refine EC.no rfl ?_
                refine EC.skip ?_
                refine EX.seq ?_
                refine EC.region ?_
                refine EL.val (x_move rfl) rfl ?_
                refine EL.val (x_move rfl) rfl ?_
                refine EL.val (x_move rfl) rfl ?_
                refine EL.val (ix_29 rfl rfl hlt) rfl ?_
                refine EL.val (ld_3 rfl (below_load hbL lc)) rfl ?_
                refine EL.val (ix_51 rfl rfl hpv) rfl ?_
                refine EL.storeRow (l' := [.bool true]) rfl rfl hin sz_4 rfl rfl (by rw [bools_len, Nat.zero_add]; omega) rfl ?_
                intro w13 ho2 hgr
                rw [Nat.zero_add, spl_bools (by omega)] at ho2
                replace q2x := blk_grown q2x hin rfl hgr
                replace hbw := hbw.trans (below_row (own_less hin hwL) hgr hbw.size)
                replace hbL := hbL.trans (below_row (own_less hin (Nat.le_refl _)) hgr hbL.size)
                replace hot := own_ne hot hgr hgn0.symm
                clear hin hgr
                have hin := ho2
                clear ho2
                refine EL.nil ?_
                refine EX.blk ?_
                refine EX.seq ?_
                refine EC.region ?_
                refine EL.val (x_move rfl) rfl ?_
                refine EL.val (x_add rfl rfl (c := ((x + 1 : Nat) : Int)) ((IntWalk.i64_in _ ⟨by first | omega | (simp only; omega), by first | omega | (simp only; omega)⟩).trans (by first | omega | (simp only; omega)))) rfl ?_
                refine EL.val (x_assign rfl) rfl ?_
                refine EL.nil ?_
                refine EX.roundD (x + 1, bb.set pv true) ⟨rfl, trivial⟩ (by repeat first | with_reducible exact Sub.refl _ | refine sub_past rfl ?_ | exact Sub.refl _ | refine sub_del rfl ?_ | refine sub_insL_nil ?_) ⟨hlt, hstp, q2x, hin, hot, hbL, hbw⟩ (by simp only; omega)
            ·
              have hxe : x = ls.length := by omega
              subst hxe
              have hbf : bb = bL f nt.ports.length := InAt.fin (by rw [← els]; exact hia)
              rw [hbf] at hin
              refine EC.seq ?_
              refine EC.seq ?_
              refine EC.region ?_
              refine EL.val (x_move rfl) rfl ?_
              refine EL.val (x_move rfl) rfl ?_
              refine EL.val (ln_29 rfl) rfl ?_
              refine EL.val (x_lss rfl rfl (decide_eq_false (show ¬(((ls.length : Nat) : Int) < ((ls.length : Nat) : Int)) by omega))) rfl ?_
              refine EL.nil ?_
              refine EX.seq ?_
              refine EC.no rfl ?_
              refine EC.exit ?_
              refine EX.seq_exit ?_
              refine EX.seq_exit ?_
              refine EX.blk_here ?_
              refine EX.seq ?_
              refine EC.seq ?_
              refine EC.seq ?_
              refine EC.region ?_
              refine EL.val (x_assign rfl) rfl ?_
              refine EL.nil ?_
              refine EX.seq ?_
              refine EC.block ?_
              refine EC.loopD [15, 134, 135, 136, 137, 138, 139, 140, 141, 142, 143, 144, 145, 146, 147, 148, 149, 150, 151, 152] (fun x : Nat => [(15, .int .i64 (x : Nat))]) (fun x W => x ≤ nt.ports.length ∧ Blk W g1 25 #[.slice Ap nt.ports.length cp_, .slice Aw nt.ways.length cw_] ∧ W.ownsRow w7.heap.size 4 1 (.slice (some ⟨gi, 0, none⟩) nt.ports.length nt.ports.length) nt.ports.length (bools (bL f nt.ports.length)) ∧ W.ownsRow w7.heap.size 4 1 (.slice (some ⟨go, 0, none⟩) nt.ports.length nt.ports.length) nt.ports.length (bools (bT (othB f xs) nt.ports.length x)) ∧ Below w7.heap.size w7 W ∧ Below w.heap.size w W) (fun x => nt.ports.length - x) 0 ⟨Nat.zero_le _, q2x, hin, (by rw [bT_zero]; exact hot), hbL, hbw⟩ ⟨rfl, trivial⟩ ?_
              clear q2x hin hot hbL hbw
              rintro x wx ⟨hx, q2x, hin, hot, hbL, hbw⟩
              by_cases hlt : x < nt.ports.length
              ·
                have hbl := bL_len f nt.ports.length
                have hbt := bT_len (othB f xs) nt.ports.length x
                have hbs := bT_succ (f := othB f xs) hlt
                have px := part_bd hbx x
                have rc := own_bool_cell hin (k := x) (by omega)
                rw [bL_at hlt] at rc
                obtain ⟨bo, ebo⟩ : ∃ z, z = bT (othB f xs) nt.ports.length x := ⟨_, rfl⟩
                rw [← ebo] at hot hbt hbs
                refine EC.seq ?_
                refine EC.seq ?_
                refine EC.region ?_
                refine EL.val (x_move rfl) rfl ?_
                refine EL.val (x_move rfl) rfl ?_
                refine EL.val (ln_51 rfl) rfl ?_
                refine EL.val (x_lss rfl rfl (decide_eq_true (show (((x : Nat) : Int) < ((nt.ports.length : Nat) : Int)) by omega))) rfl ?_
                refine EL.nil ?_
                refine EX.seq ?_
                refine EC.yes rfl ?_
                refine EC.skip ?_
                refine EX.seq ?_
                refine EC.seq ?_
                refine EC.block ?_
                have lt_1 := q2x.lt
                refine EC.regionP [[], [], [], [], [2, 3], [2, 3, 4], [], [], [6, 7], [6, 7, 8], [6, 7, 8, 9], [2, 3, 4, 5, 6, 7, 8, 9, 10], [0, 1, 2, 3, 4, 5, 6, 7, 8, 9, 10, 11], [0, 1, 2, 3, 4, 5, 6, 7, 8, 9, 10, 11, 12]] 12 [] (phi (fun i_ r => match i_ with | 0 => r 0 = .slice (some ⟨go, 0, none⟩) nt.ports.length nt.ports.length | 1 => r 1 = .int .i64 (x : Nat) | 2 => r 2 = .slice (some ⟨gi, 0, none⟩) nt.ports.length nt.ports.length | 3 => r 3 = .int .i64 (x : Nat) | 4 => r 4 = .pointer (some ⟨gi, 0 + x, none⟩) | 5 => r 5 = .bool (f x) | 6 => r 6 = .slice Ax xs.length cx | 7 => r 7 = .int .i64 (x : Nat) | 8 => r 8 = .int .u8 (partI xs x) | 9 => r 9 = .int .u8 ((partI xs x).tmod 3) | 10 => r 10 = .bool (decide ((partI xs x).tmod 3 = 0)) | 11 => r 11 = .bool (othB f xs x) | _ => True) []) (by kernel_rfl) rfl rfl (phi_nil) (fun i_ hi_ => ?_) ?_
                · match i_, hi_ with
                  | 0, _ =>
                    intro val w1 a hb ha hd
                    have ha := ha.sub (Sub.ins (d := 13) (Sub.nil _) rfl)
                    exact hs_val ha rfl rfl (x_move rfl) rfl rfl
                  | 1, _ =>
                    intro val w1 a hb ha hd
                    have ha := ha.sub (Sub.ins (d := 15) (Sub.nil _) rfl)
                    exact hs_val ha rfl rfl (x_move rfl) rfl rfl
                  | 2, _ =>
                    intro val w1 a hb ha hd
                    have ha := ha.sub (Sub.ins (d := 12) (Sub.nil _) rfl)
                    exact hs_val ha rfl rfl (x_move rfl) rfl rfl
                  | 3, _ =>
                    intro val w1 a hb ha hd
                    have ha := ha.sub (Sub.ins (d := 15) (Sub.nil _) rfl)
                    exact hs_val ha rfl rfl (x_move rfl) rfl rfl
                  | 4, _ =>
                    intro val w1 a hb ha hd
                    have e2 : val 2 = .slice (some ⟨gi, 0, none⟩) nt.ports.length nt.ports.length := hd 2 (memB_mem.1 rfl)
                    have e3 : val 3 = .int .i64 (x : Nat) := hd 3 (memB_mem.1 rfl)
                    have ha := ha.sub (Sub.ins (d := 143) (Sub.ins (d := 142) (Sub.nil _) (dep_get rfl e2)) (dep_get rfl e3))
                    exact hs_val ha rfl rfl (ix_51 rfl rfl hlt) rfl rfl
                  | 5, _ =>
                    intro val w1 a hb ha hd
                    have e4 : val 4 = .pointer (some ⟨gi, 0 + x, none⟩) := hd 4 (memB_mem.1 rfl)
                    have ha := ha.sub (Sub.ins (d := 144) (Sub.nil _) (dep_get rfl e4))
                    exact hs_val ha rfl rfl (ld_4 rfl (below_load hb rc)) rfl rfl
                  | 6, _ =>
                    intro val w1 a hb ha hd
                    have ha := ha.sub (Sub.ins (d := 1) (Sub.nil _) rfl)
                    exact hs_val ha rfl rfl (x_move rfl) rfl rfl
                  | 7, _ =>
                    intro val w1 a hb ha hd
                    have ha := ha.sub (Sub.ins (d := 15) (Sub.nil _) rfl)
                    exact hs_val ha rfl rfl (x_move rfl) rfl rfl
                  | 8, _ =>
                    intro val w1 a hb ha hd
                    have e6 : val 6 = .slice Ax xs.length cx := hd 6 (memB_mem.1 rfl)
                    have e7 : val 7 = .int .i64 (x : Nat) := hd 7 (memB_mem.1 rfl)
                    have ha := ha.sub (Sub.ins (d := 147) (Sub.ins (d := 146) (Sub.nil _) (dep_get rfl e6)) (dep_get rfl e7))
                    refine hs_call ha rfl rfl (cl_28 rfl rfl) (part_any xs _ x w1 B (hrx.below ((hbw.trans (hb.mono hbw.size)).mono hB)) hlx) rfl ?_
                    rintro e w' ⟨rfl, hb'⟩
                    exact ⟨_, rfl, hb', rfl⟩
                  | 9, _ =>
                    intro val w1 a hb ha hd
                    have e8 : val 8 = .int .u8 (partI xs x) := hd 8 (memB_mem.1 rfl)
                    have ha := ha.sub (Sub.ins (d := 148) (Sub.nil _) (dep_get rfl e8))
                    exact hs_val ha rfl rfl (x_rem rfl rfl (c := (partI xs x).tmod 3) (by decide) rfl) rfl rfl
                  | 10, _ =>
                    intro val w1 a hb ha hd
                    have e9 : val 9 = .int .u8 ((partI xs x).tmod 3) := hd 9 (memB_mem.1 rfl)
                    have ha := ha.sub (Sub.ins (d := 149) (Sub.nil _) (dep_get rfl e9))
                    exact hs_val ha rfl rfl (x_eql (r := decide ((partI xs x).tmod 3 = 0)) rfl rfl rfl) rfl rfl
                  | 11, _ =>
                    intro val w1 a hb ha hd
                    have e5 : val 5 = .bool (f x) := hd 5 (memB_mem.1 rfl)
                    have e10 : val 10 = .bool (decide ((partI xs x).tmod 3 = 0)) := hd 10 (memB_mem.1 rfl)
                    have ha := ha.sub (Sub.ins (d := 150) (Sub.ins (d := 145) (Sub.nil _) (dep_get rfl e5)) (dep_get rfl e10))
                    exact hs_val ha rfl rfl (neq_bool (r := othB f xs x) rfl rfl rfl) rfl rfl
                  | k + 12, h => exact absurd h (by omega)
                · intro val wR17 hb halc hd
                  have e0 : val 0 = .slice (some ⟨go, 0, none⟩) nt.ports.length nt.ports.length := hd 0 (by omega)
                  have e1 : val 1 = .int .i64 (x : Nat) := hd 1 (by omega)
                  have e2 : val 2 = .slice (some ⟨gi, 0, none⟩) nt.ports.length nt.ports.length := hd 2 (by omega)
                  have e3 : val 3 = .int .i64 (x : Nat) := hd 3 (by omega)
                  have e4 : val 4 = .pointer (some ⟨gi, 0 + x, none⟩) := hd 4 (by omega)
                  have e5 : val 5 = .bool (f x) := hd 5 (by omega)
                  have e6 : val 6 = .slice Ax xs.length cx := hd 6 (by omega)
                  have e7 : val 7 = .int .i64 (x : Nat) := hd 7 (by omega)
                  have e8 : val 8 = .int .u8 (partI xs x) := hd 8 (by omega)
                  have e9 : val 9 = .int .u8 ((partI xs x).tmod 3) := hd 9 (by omega)
                  have e10 : val 10 = .bool (decide ((partI xs x).tmod 3 = 0)) := hd 10 (by omega)
                  have e11 : val 11 = .bool (othB f xs x) := hd 11 (by omega)
                  refine EL.ends (cs := [.slice (some ⟨go, 0, none⟩) nt.ports.length nt.ports.length, .int .i64 (x : Nat), .slice (some ⟨gi, 0, none⟩) nt.ports.length nt.ports.length, .int .i64 (x : Nat), .pointer (some ⟨gi, 0 + x, none⟩), .bool (f x), .slice Ax xs.length cx, .int .i64 (x : Nat), .int .u8 (partI xs x), .int .u8 ((partI xs x).tmod 3), .bool (decide ((partI xs x).tmod 3 = 0)), .bool (othB f xs x)]) ⟨e0, e1, e2, e3, e4, e5, e6, e7, e8, e9, e10, e11, trivial⟩ rfl ?_
                  replace q2x := q2x.below hb q2x.lt
                  replace hin := own_below hin hb (Nat.le_refl _)
                  replace hot := own_below hot hb (Nat.le_refl _)
                  replace hbw := Below.on hbw hb hbw.size
                  replace hbL := Below.on hbL hb hbL.size
                  clear hb
                  refine EL.val (ix_51 rfl rfl hlt) rfl ?_
                  refine EL.storeRow (l' := [.bool (othB f xs x)]) rfl rfl hot sz_4 rfl rfl (by rw [bools_len, Nat.zero_add]; omega) rfl ?_
                  intro w14 ho2 hgr
                  rw [Nat.zero_add, spl_bools (by omega)] at ho2
                  replace q2x := blk_grown q2x hot rfl hgr
                  replace hbw := hbw.trans (below_row (own_less hot hwL) hgr hbw.size)
                  replace hbL := hbL.trans (below_row (own_less hot (Nat.le_refl _)) hgr hbL.size)
                  replace hin := own_ne hin hgr hgn0
                  clear hot hgr
                  have hot := ho2
                  clear ho2
                  refine EL.nil ?_
                  refine EX.blk ?_
                  refine EX.seq ?_
                  refine EC.region ?_
                  refine EL.val (x_move rfl) rfl ?_
                  refine EL.val (x_add rfl rfl (c := ((x + 1 : Nat) : Int)) ((IntWalk.i64_in _ ⟨by first | omega | (simp only; omega), by first | omega | (simp only; omega)⟩).trans (by first | omega | (simp only; omega)))) rfl ?_
                  refine EL.val (x_assign rfl) rfl ?_
                  refine EL.nil ?_
                  refine EX.roundD (x + 1) ⟨rfl, trivial⟩ (by repeat first | with_reducible exact Sub.refl _ | refine sub_past rfl ?_ | exact Sub.refl _ | refine sub_del rfl ?_ | refine sub_insL_nil ?_) ⟨hlt, q2x, hin, (by rw [hbs]; exact hot), hbL, hbw⟩ (by omega)
              ·
                have hxe : x = nt.ports.length := by omega
                subst hxe
                rw [bT_all] at hot
                refine EC.seq ?_
                refine EC.seq ?_
                refine EC.region ?_
                refine EL.val (x_move rfl) rfl ?_
                refine EL.val (x_move rfl) rfl ?_
                refine EL.val (ln_51 rfl) rfl ?_
                refine EL.val (x_lss rfl rfl (decide_eq_false (show ¬(((nt.ports.length : Nat) : Int) < ((nt.ports.length : Nat) : Int)) by omega))) rfl ?_
                refine EL.nil ?_
                refine EX.seq ?_
                refine EC.no rfl ?_
                refine EC.exit ?_
                refine EX.seq_exit ?_
                refine EX.seq_exit ?_
                refine EX.blk_here ?_
                refine EX.seq ?_
                refine EC.seq ?_
                refine EC.region ?_
                refine EL.val (bd_53_) rfl ?_
                refine EL.newP al_53 rfl ?_
                intro g15 w15 q15 hb15 hg15 hl15
                have n1_15 : g1 ≠ g15 := Nat.ne_of_lt (Nat.lt_of_lt_of_le q2x.lt hg15)
                have bhbw_15 := Nat.le_trans hbw.size hg15
                have bhbL_15 := Nat.le_trans hbL.size hg15
                replace q2x := q2x.below hb15 q2x.lt
                replace hin := own_below hin hb15 (Nat.le_refl _)
                replace hot := own_below hot hb15 (Nat.le_refl _)
                replace hbw := Below.on hbw hb15 hbw.size
                replace hbL := Below.on hbL hb15 hbL.size
                clear hb15 hg15 hl15
                refine EL.store rfl rfl q15 sz_53 rfl rfl rfl rfl ?_
                intro w16 hq16 hg16
                replace q2x := q2x.grown hg16 (fun h => n1_15 (Option.some.inj h))
                replace hin := own_type hin q15 rfl hg16
                replace hot := own_type hot q15 rfl hg16
                replace hbw := below_store hbw hg16 bhbw_15
                replace hbL := below_store hbL hg16 bhbL_15
                replace q15 := hq16
                clear hg16 hq16
                refine EL.nil ?_
                refine EX.seq ?_
                refine EC.seq ?_
                refine EC.seq ?_
                refine EC.region ?_
                refine EL.val (x_assign rfl) rfl ?_
                refine EL.nil ?_
                refine EX.seq ?_
                refine EC.block ?_
                refine EC.loopD [4, 17, 18, 19, 20, 21, 154, 155, 156, 157, 158, 159, 160, 161, 162, 163, 164, 165, 166, 167, 168, 169, 170, 171, 172, 173, 174, 175, 176, 177, 178, 179, 180, 181, 182, 183, 184, 185, 186, 187, 188, 189, 190, 191, 192, 193, 194, 195, 196, 197, 198, 199, 200, 201, 202, 203, 204, 205, 206, 207, 208, 209, 210, 211, 212, 213, 214, 215, 216, 217, 218, 219, 220, 221, 222, 223, 224, 225, 226, 227, 228, 229, 230, 231, 232, 233, 234, 235, 236, 237, 238, 239, 240, 241, 242, 243, 244, 245] (fun x : Nat => [(17, .int .i64 (x : Nat))]) (fun x W => x ≤ 2 ∧ Blk W g15 53 #[.int .i64 (if 0 < x then lackS nt f else 0), .int .i64 (if 1 < x then lackS nt (othB f xs) else 0)] ∧ Blk W g1 25 #[.slice Ap nt.ports.length cp_, .slice Aw nt.ways.length cw_] ∧ W.ownsRow w7.heap.size 4 1 (.slice (some ⟨gi, 0, none⟩) nt.ports.length nt.ports.length) nt.ports.length (bools (bL f nt.ports.length)) ∧ W.ownsRow w7.heap.size 4 1 (.slice (some ⟨go, 0, none⟩) nt.ports.length nt.ports.length) nt.ports.length (bools (bL (othB f xs) nt.ports.length)) ∧ Below w7.heap.size w7 W ∧ Below w.heap.size w W) (fun x => 2 - x) 0 ⟨Nat.zero_le _, q15, q2x, hin, hot, hbL, hbw⟩ ⟨rfl, trivial⟩ ?_
                clear q15 q2x hin hot hbL hbw
                rintro x wx ⟨hx, q16x, q2x, hin, hot, hbL, hbw⟩
                rcases (show x = 0 ∨ x = 1 ∨ x = 2 by omega) with rfl | rfl | rfl
                ·
                  have q16x : Blk wx g15 53 #[.int .i64 0, .int .i64 0] := q16x
                  refine EC.seq ?_
                  refine EC.seq ?_
                  refine EC.region ?_
                  refine EL.val (x_move rfl) rfl ?_
                  refine EL.val (x_lss rfl rfl (r := true) (by decide)) rfl ?_
                  refine EL.nil ?_
                  refine EX.seq ?_
                  refine EC.yes rfl ?_
                  refine EC.skip ?_
                  refine EX.seq ?_
                  refine EC.seq ?_
                  refine EC.block ?_
                  refine EC.seq ?_
                  refine EC.region ?_
                  refine EL.val (x_move rfl) rfl ?_
                  refine EL.val (x_move rfl) rfl ?_
                  refine EL.val (bds_two rfl rfl) rfl ?_
                  refine EL.val (x_move rfl) rfl ?_
                  refine EL.val (ixs_0 rfl rfl) rfl ?_
                  refine EL.val (x_assign rfl) rfl ?_
                  refine EL.nil ?_
                  refine EX.seq ?_
                  refine EC.seq ?_
                  refine EC.seq ?_
                  refine EC.region ?_
                  refine EL.val (x_assign rfl) rfl ?_
                  refine EL.nil ?_
                  refine EX.seq ?_
                  refine EC.block ?_
                  refine EC.loopD [19, 163, 164, 165, 166, 167, 168, 169, 170, 171, 172, 173, 174, 175, 176, 177, 178, 179, 180, 181, 182, 183, 184, 185, 186, 187, 188, 189, 190, 191] (fun x : Nat => [(19, .int .i64 (x : Nat))]) (fun x W => x ≤ nt.ports.length ∧ Blk W g15 53 #[.int .i64 (sumP nt f x), .int .i64 0] ∧ Blk W g1 25 #[.slice Ap nt.ports.length cp_, .slice Aw nt.ways.length cw_] ∧ W.ownsRow w7.heap.size 4 1 (.slice (some ⟨gi, 0, none⟩) nt.ports.length nt.ports.length) nt.ports.length (bools (bL f nt.ports.length)) ∧ W.ownsRow w7.heap.size 4 1 (.slice (some ⟨go, 0, none⟩) nt.ports.length nt.ports.length) nt.ports.length (bools (bL (othB f xs) nt.ports.length)) ∧ Below w7.heap.size w7 W ∧ Below w.heap.size w W) (fun x => nt.ports.length - x) 0 ⟨Nat.zero_le _, q16x, q2x, hin, hot, hbL, hbw⟩ ⟨rfl, trivial⟩ ?_
                  clear q16x q2x hin hot hbL hbw
                  rintro x wx ⟨hx, q16x, q2x, hin, hot, hbL, hbw⟩
                  by_cases hlt : x < nt.ports.length
                  ·
                    have hbl := bL_len f nt.ports.length
                    have rc := own_bool_cell hin (k := x) (by omega)
                    rw [bL_at hlt] at rc
                    obtain ⟨bp, op, e_, _, pc0, pc1⟩ := prts_cells nt.ports x hlt _ _ _ _ _ hr.ports
                    subst e_
                    obtain ⟨⟨ph0, ph1⟩, pw0, pw1⟩ := hvp x hlt
                    have hb1 := sumP_bd (f := f) hv x hx
                    have hsn := sumP_succ (nt := nt) (f := f) x
                    obtain ⟨y, ey⟩ : ∃ z, z = nt.ports.getD x prt0 := ⟨_, rfl⟩
                    rw [← ey] at pc0 pc1 ph0 ph1 pw0 pw1 hsn
                    obtain ⟨sm, esm⟩ : ∃ z, z = (sumP nt f x) := ⟨_, rfl⟩
                    rw [← esm] at q16x hb1 hsn
                    cases hhx : f x
                    ·
                      rw [hhx] at rc
                      simp only [hhx] at hsn
                      refine EC.seq ?_
                      refine EC.seq ?_
                      refine EC.region ?_
                      refine EL.val (x_move rfl) rfl ?_
                      refine EL.val (fa_25_0 rfl) rfl ?_
                      refine EL.val (ld_22 rfl (q2x.at (j := 0) rfl)) rfl ?_
                      refine EL.val (ln_22 rfl) rfl ?_
                      refine EL.val (x_lss rfl rfl (decide_eq_true (show (((x : Nat) : Int) < ((nt.ports.length : Nat) : Int)) by omega))) rfl ?_
                      refine EL.nil ?_
                      refine EX.seq ?_
                      refine EC.yes rfl ?_
                      refine EC.skip ?_
                      refine EX.seq ?_
                      refine EC.seq ?_
                      refine EC.block ?_
                      refine EC.seq ?_
                      refine EC.region ?_
                      refine EL.val (x_move rfl) rfl ?_
                      refine EL.val (x_move rfl) rfl ?_
                      refine EL.val (ix_51 rfl rfl hlt) rfl ?_
                      refine EL.val (ld_4 rfl rc) rfl ?_
                      refine EL.nil ?_
                      refine EX.seq ?_
                      refine EC.no rfl ?_
                      refine EC.skip ?_
                      refine EX.blk ?_
                      refine EX.seq ?_
                      refine EC.region ?_
                      refine EL.val (x_move rfl) rfl ?_
                      refine EL.val (x_add rfl rfl (c := ((x + 1 : Nat) : Int)) ((IntWalk.i64_in _ ⟨by first | omega | (simp only; omega), by first | omega | (simp only; omega)⟩).trans (by first | omega | (simp only; omega)))) rfl ?_
                      refine EL.val (x_assign rfl) rfl ?_
                      refine EL.nil ?_
                      refine EX.roundD (x + 1) ⟨rfl, trivial⟩ (by repeat first | with_reducible exact Sub.refl _ | refine sub_past rfl ?_ | exact Sub.refl _ | refine sub_del rfl ?_ | refine sub_insL_nil ?_) ⟨hlt, (by rw [hsn]; simp only [Bool.false_eq_true, if_false, Int.add_zero]; exact q16x), q2x, hin, hot, hbL, hbw⟩ (by omega)
                    ·
                      rw [hhx] at rc
                      simp only [hhx] at hsn
                      refine EC.seq ?_
                      refine EC.seq ?_
                      refine EC.region ?_
                      refine EL.val (x_move rfl) rfl ?_
                      refine EL.val (fa_25_0 rfl) rfl ?_
                      refine EL.val (ld_22 rfl (q2x.at (j := 0) rfl)) rfl ?_
                      refine EL.val (ln_22 rfl) rfl ?_
                      refine EL.val (x_lss rfl rfl (decide_eq_true (show (((x : Nat) : Int) < ((nt.ports.length : Nat) : Int)) by omega))) rfl ?_
                      refine EL.nil ?_
                      refine EX.seq ?_
                      refine EC.yes rfl ?_
                      refine EC.skip ?_
                      refine EX.seq ?_
                      refine EC.seq ?_
                      refine EC.block ?_
                      refine EC.seq ?_
                      refine EC.region ?_
                      refine EL.val (x_move rfl) rfl ?_
                      refine EL.val (x_move rfl) rfl ?_
                      refine EL.val (ix_51 rfl rfl hlt) rfl ?_
                      refine EL.val (ld_4 rfl rc) rfl ?_
                      refine EL.nil ?_
                      refine EX.seq ?_
                      refine EC.yes rfl ?_
                      have lt_1 := q2x.lt
                      have lt_15 := q16x.lt
                      refine EC.regionP [[], [0], [0, 1], [], [3], [], [3, 4, 5], [3, 4, 5, 6], [3, 4, 5, 6, 7], [], [9], [], [9, 10, 11], [9, 10, 11, 12], [9, 10, 11, 12, 13], [3, 4, 5, 6, 7, 8, 9, 10, 11, 12, 13, 14], [0, 1, 2, 3, 4, 5, 6, 7, 8, 9, 10, 11, 12, 13, 14, 15], [0, 1, 2, 3, 4, 5, 6, 7, 8, 9, 10, 11, 12, 13, 14, 15, 16], [0, 1, 2, 3, 4, 5, 6, 7, 8, 9, 10, 11, 12, 13, 14, 15, 16, 17]] 17 [] (phi (fun i_ r => match i_ with | 0 => r 0 = .int .i64 (0 : Nat) | 1 => r 1 = .pointer (some ⟨g15, 0 + 0, none⟩) | 2 => r 2 = .int .i64 sm | 3 => r 3 = .pointer (some ⟨g1, 0, none⟩) | 4 => r 4 = .slice (some ⟨bp, op, none⟩) nt.ports.length cp_ | 5 => r 5 = .int .i64 (x : Nat) | 6 => r 6 = .pointer (some ⟨bp, op + x * 2, none⟩) | 7 => r 7 = .pointer (some ⟨bp, op + x * 2 + 1, none⟩) | 8 => r 8 = .int .i64 y.wants | 9 => r 9 = .pointer (some ⟨g1, 0, none⟩) | 10 => r 10 = .slice (some ⟨bp, op, none⟩) nt.ports.length cp_ | 11 => r 11 = .int .i64 (x : Nat) | 12 => r 12 = .pointer (some ⟨bp, op + x * 2, none⟩) | 13 => r 13 = .pointer (some ⟨bp, op + x * 2, none⟩) | 14 => r 14 = .int .i64 y.has | 15 => r 15 = .int .i64 (y.wants - y.has) | 16 => r 16 = .int .i64 (sm + (y.wants - y.has)) | _ => True) []) (by kernel_rfl) rfl rfl (phi_nil) (fun i_ hi_ => ?_) ?_
                      · match i_, hi_ with
                        | 0, _ =>
                          intro val w1 a hb ha hd
                          have ha := ha.sub (Sub.ins (d := 17) (Sub.nil _) rfl)
                          exact hs_val ha rfl rfl (x_move rfl) rfl rfl
                        | 1, _ =>
                          intro val w1 a hb ha hd
                          have e0 : val 0 = .int .i64 (0 : Nat) := hd 0 (memB_mem.1 rfl)
                          have ha := ha.sub (Sub.ins (d := 174) (Sub.ins (d := 16) (Sub.nil _) rfl) (dep_get rfl e0))
                          exact hs_val ha rfl rfl (ixa_53 (k := 0) rfl rfl (by omega)) rfl rfl
                        | 2, _ =>
                          intro val w1 a hb ha hd
                          have e1 : val 1 = .pointer (some ⟨g15, 0 + 0, none⟩) := hd 1 (memB_mem.1 rfl)
                          have ha := ha.sub (Sub.ins (d := 175) (Sub.nil _) (dep_get rfl e1))
                          exact hs_val ha rfl rfl (ld_3 rfl ((q16x.below hb q16x.lt).at (j := 0) rfl)) rfl rfl
                        | 3, _ =>
                          intro val w1 a hb ha hd
                          have ha := ha.sub (Sub.ins (d := 2) (Sub.nil _) rfl)
                          exact hs_val ha rfl rfl (fa_25_0 rfl) rfl rfl
                        | 4, _ =>
                          intro val w1 a hb ha hd
                          have e3 : val 3 = .pointer (some ⟨g1, 0, none⟩) := hd 3 (memB_mem.1 rfl)
                          have ha := ha.sub (Sub.ins (d := 177) (Sub.nil _) (dep_get rfl e3))
                          exact hs_val ha rfl rfl (ld_22 rfl ((q2x.below hb q2x.lt).at (j := 0) rfl)) rfl rfl
                        | 5, _ =>
                          intro val w1 a hb ha hd
                          have ha := ha.sub (Sub.ins (d := 19) (Sub.nil _) rfl)
                          exact hs_val ha rfl rfl (x_move rfl) rfl rfl
                        | 6, _ =>
                          intro val w1 a hb ha hd
                          have e4 : val 4 = .slice (some ⟨bp, op, none⟩) nt.ports.length cp_ := hd 4 (memB_mem.1 rfl)
                          have e5 : val 5 = .int .i64 (x : Nat) := hd 5 (memB_mem.1 rfl)
                          have ha := ha.sub (Sub.ins (d := 179) (Sub.ins (d := 178) (Sub.nil _) (dep_get rfl e4)) (dep_get rfl e5))
                          exact hs_val ha rfl rfl (ix_22 rfl rfl hlt) rfl rfl
                        | 7, _ =>
                          intro val w1 a hb ha hd
                          have e6 : val 6 = .pointer (some ⟨bp, op + x * 2, none⟩) := hd 6 (memB_mem.1 rfl)
                          have ha := ha.sub (Sub.ins (d := 180) (Sub.nil _) (dep_get rfl e6))
                          exact hs_val ha rfl rfl (fa_47_1 rfl) rfl rfl
                        | 8, _ =>
                          intro val w1 a hb ha hd
                          have e7 : val 7 = .pointer (some ⟨bp, op + x * 2 + 1, none⟩) := hd 7 (memB_mem.1 rfl)
                          have ha := ha.sub (Sub.ins (d := 181) (Sub.nil _) (dep_get rfl e7))
                          exact hs_val ha rfl rfl (ld_3 rfl (below_load hb (below_load hbw pc1))) rfl rfl
                        | 9, _ =>
                          intro val w1 a hb ha hd
                          have ha := ha.sub (Sub.ins (d := 2) (Sub.nil _) rfl)
                          exact hs_val ha rfl rfl (fa_25_0 rfl) rfl rfl
                        | 10, _ =>
                          intro val w1 a hb ha hd
                          have e9 : val 9 = .pointer (some ⟨g1, 0, none⟩) := hd 9 (memB_mem.1 rfl)
                          have ha := ha.sub (Sub.ins (d := 183) (Sub.nil _) (dep_get rfl e9))
                          exact hs_val ha rfl rfl (ld_22 rfl ((q2x.below hb q2x.lt).at (j := 0) rfl)) rfl rfl
                        | 11, _ =>
                          intro val w1 a hb ha hd
                          have ha := ha.sub (Sub.ins (d := 19) (Sub.nil _) rfl)
                          exact hs_val ha rfl rfl (x_move rfl) rfl rfl
                        | 12, _ =>
                          intro val w1 a hb ha hd
                          have e10 : val 10 = .slice (some ⟨bp, op, none⟩) nt.ports.length cp_ := hd 10 (memB_mem.1 rfl)
                          have e11 : val 11 = .int .i64 (x : Nat) := hd 11 (memB_mem.1 rfl)
                          have ha := ha.sub (Sub.ins (d := 185) (Sub.ins (d := 184) (Sub.nil _) (dep_get rfl e10)) (dep_get rfl e11))
                          exact hs_val ha rfl rfl (ix_22 rfl rfl hlt) rfl rfl
                        | 13, _ =>
                          intro val w1 a hb ha hd
                          have e12 : val 12 = .pointer (some ⟨bp, op + x * 2, none⟩) := hd 12 (memB_mem.1 rfl)
                          have ha := ha.sub (Sub.ins (d := 186) (Sub.nil _) (dep_get rfl e12))
                          exact hs_val ha rfl rfl (fa_47_0 rfl) rfl rfl
                        | 14, _ =>
                          intro val w1 a hb ha hd
                          have e13 : val 13 = .pointer (some ⟨bp, op + x * 2, none⟩) := hd 13 (memB_mem.1 rfl)
                          have ha := ha.sub (Sub.ins (d := 187) (Sub.nil _) (dep_get rfl e13))
                          exact hs_val ha rfl rfl (ld_3 rfl (below_load hb (below_load hbw pc0))) rfl rfl
                        | 15, _ =>
                          intro val w1 a hb ha hd
                          have e8 : val 8 = .int .i64 y.wants := hd 8 (memB_mem.1 rfl)
                          have e14 : val 14 = .int .i64 y.has := hd 14 (memB_mem.1 rfl)
                          have ha := ha.sub (Sub.ins (d := 188) (Sub.ins (d := 182) (Sub.nil _) (dep_get rfl e8)) (dep_get rfl e14))
                          exact hs_val ha rfl rfl (x_sub rfl rfl (c := y.wants - y.has) (IntWalk.i64_in _ ⟨by omega, by omega⟩)) rfl rfl
                        | 16, _ =>
                          intro val w1 a hb ha hd
                          have e2 : val 2 = .int .i64 sm := hd 2 (memB_mem.1 rfl)
                          have e15 : val 15 = .int .i64 (y.wants - y.has) := hd 15 (memB_mem.1 rfl)
                          have ha := ha.sub (Sub.ins (d := 189) (Sub.ins (d := 176) (Sub.nil _) (dep_get rfl e2)) (dep_get rfl e15))
                          exact hs_val ha rfl rfl (x_add rfl rfl (c := (sm + (y.wants - y.has))) (IntWalk.i64_in _ ⟨by omega, by omega⟩)) rfl rfl
                        | k + 17, h => exact absurd h (by omega)
                      · intro val wR27 hb halc hd
                        have e0 : val 0 = .int .i64 (0 : Nat) := hd 0 (by omega)
                        have e1 : val 1 = .pointer (some ⟨g15, 0 + 0, none⟩) := hd 1 (by omega)
                        have e2 : val 2 = .int .i64 sm := hd 2 (by omega)
                        have e3 : val 3 = .pointer (some ⟨g1, 0, none⟩) := hd 3 (by omega)
                        have e4 : val 4 = .slice (some ⟨bp, op, none⟩) nt.ports.length cp_ := hd 4 (by omega)
                        have e5 : val 5 = .int .i64 (x : Nat) := hd 5 (by omega)
                        have e6 : val 6 = .pointer (some ⟨bp, op + x * 2, none⟩) := hd 6 (by omega)
                        have e7 : val 7 = .pointer (some ⟨bp, op + x * 2 + 1, none⟩) := hd 7 (by omega)
                        have e8 : val 8 = .int .i64 y.wants := hd 8 (by omega)
                        have e9 : val 9 = .pointer (some ⟨g1, 0, none⟩) := hd 9 (by omega)
                        have e10 : val 10 = .slice (some ⟨bp, op, none⟩) nt.ports.length cp_ := hd 10 (by omega)
                        have e11 : val 11 = .int .i64 (x : Nat) := hd 11 (by omega)
                        have e12 : val 12 = .pointer (some ⟨bp, op + x * 2, none⟩) := hd 12 (by omega)
                        have e13 : val 13 = .pointer (some ⟨bp, op + x * 2, none⟩) := hd 13 (by omega)
                        have e14 : val 14 = .int .i64 y.has := hd 14 (by omega)
                        have e15 : val 15 = .int .i64 (y.wants - y.has) := hd 15 (by omega)
                        have e16 : val 16 = .int .i64 (sm + (y.wants - y.has)) := hd 16 (by omega)
                        refine EL.ends (cs := [.int .i64 (0 : Nat), .pointer (some ⟨g15, 0 + 0, none⟩), .int .i64 sm, .pointer (some ⟨g1, 0, none⟩), .slice (some ⟨bp, op, none⟩) nt.ports.length cp_, .int .i64 (x : Nat), .pointer (some ⟨bp, op + x * 2, none⟩), .pointer (some ⟨bp, op + x * 2 + 1, none⟩), .int .i64 y.wants, .pointer (some ⟨g1, 0, none⟩), .slice (some ⟨bp, op, none⟩) nt.ports.length cp_, .int .i64 (x : Nat), .pointer (some ⟨bp, op + x * 2, none⟩), .pointer (some ⟨bp, op + x * 2, none⟩), .int .i64 y.has, .int .i64 (y.wants - y.has), .int .i64 (sm + (y.wants - y.has))]) ⟨e0, e1, e2, e3, e4, e5, e6, e7, e8, e9, e10, e11, e12, e13, e14, e15, e16, trivial⟩ rfl ?_
                        replace q2x := q2x.below hb q2x.lt
                        replace q16x := q16x.below hb q16x.lt
                        replace hin := own_below hin hb (Nat.le_refl _)
                        replace hot := own_below hot hb (Nat.le_refl _)
                        replace hbw := Below.on hbw hb hbw.size
                        replace hbL := Below.on hbL hb hbL.size
                        clear hb
                        refine EL.val (ixa_53 (k := 0) rfl rfl (by omega)) rfl ?_
                        refine EL.store rfl rfl q16x sz_3 rfl rfl rfl rfl ?_
                        intro w17 hq17 hg17
                        replace q2x := q2x.grown hg17 (fun h => n1_15 (Option.some.inj h))
                        replace hin := own_type hin q16x rfl hg17
                        replace hot := own_type hot q16x rfl hg17
                        replace hbw := below_store hbw hg17 bhbw_15
                        replace hbL := below_store hbL hg17 bhbL_15
                        replace q16x := hq17
                        clear hg17 hq17
                        refine EL.nil ?_
                        refine EX.blk ?_
                        refine EX.seq ?_
                        refine EC.region ?_
                        refine EL.val (x_move rfl) rfl ?_
                        refine EL.val (x_add rfl rfl (c := ((x + 1 : Nat) : Int)) ((IntWalk.i64_in _ ⟨by first | omega | (simp only; omega), by first | omega | (simp only; omega)⟩).trans (by first | omega | (simp only; omega)))) rfl ?_
                        refine EL.val (x_assign rfl) rfl ?_
                        refine EL.nil ?_
                        refine EX.roundD (x + 1) ⟨rfl, trivial⟩ (by repeat first | with_reducible exact Sub.refl _ | refine sub_past rfl ?_ | exact Sub.refl _ | refine sub_del rfl ?_ | refine sub_insL_nil ?_) ⟨hlt, (by rw [hsn]; exact q16x), q2x, hin, hot, hbL, hbw⟩ (by omega)
                  ·
                    have hxe : x = nt.ports.length := by omega
                    subst hxe
                    refine EC.seq ?_
                    refine EC.seq ?_
                    refine EC.region ?_
                    refine EL.val (x_move rfl) rfl ?_
                    refine EL.val (fa_25_0 rfl) rfl ?_
                    refine EL.val (ld_22 rfl (q2x.at (j := 0) rfl)) rfl ?_
                    refine EL.val (ln_22 rfl) rfl ?_
                    refine EL.val (x_lss rfl rfl (decide_eq_false (show ¬(((nt.ports.length : Nat) : Int) < ((nt.ports.length : Nat) : Int)) by omega))) rfl ?_
                    refine EL.nil ?_
                    refine EX.seq ?_
                    refine EC.no rfl ?_
                    refine EC.exit ?_
                    refine EX.seq_exit ?_
                    refine EX.seq_exit ?_
                    refine EX.blk_here ?_
                    refine EX.seq ?_
                    refine EC.seq ?_
                    refine EC.region ?_
                    refine EL.val (x_assign rfl) rfl ?_
                    refine EL.nil ?_
                    refine EX.seq ?_
                    refine EC.block ?_
                    refine EC.loopD [4, 20, 21, 192, 193, 194, 195, 196, 197, 198, 199, 200, 201, 202, 203, 204, 205, 206, 207, 208, 209, 210, 211, 212, 213, 214, 215, 216, 217, 218, 219, 220, 221, 222, 223, 224, 225, 226, 227, 228, 229, 230, 231, 232, 233, 234, 235, 236, 237, 238, 239, 240, 241, 242, 243, 244, 245] (fun x : Nat => [(20, .int .i64 (x : Nat))]) (fun x W => x ≤ nt.ways.length ∧ Blk W g15 53 #[.int .i64 (sumW nt f x), .int .i64 0] ∧ Blk W g1 25 #[.slice Ap nt.ports.length cp_, .slice Aw nt.ways.length cw_] ∧ W.ownsRow w7.heap.size 4 1 (.slice (some ⟨gi, 0, none⟩) nt.ports.length nt.ports.length) nt.ports.length (bools (bL f nt.ports.length)) ∧ W.ownsRow w7.heap.size 4 1 (.slice (some ⟨go, 0, none⟩) nt.ports.length nt.ports.length) nt.ports.length (bools (bL (othB f xs) nt.ports.length)) ∧ Below w7.heap.size w7 W ∧ Below w.heap.size w W) (fun x => nt.ways.length - x) 0 ⟨Nat.zero_le _, (by rw [sumW_zero]; exact q16x), q2x, hin, hot, hbL, hbw⟩ ⟨rfl, trivial⟩ ?_
                    clear q16x q2x hin hot hbL hbw
                    rintro x wx ⟨hx, q16x, q2x, hin, hot, hbL, hbw⟩
                    by_cases hlt : x < nt.ways.length
                    ·
                      have hbl := bL_len f nt.ports.length
                      obtain ⟨bw, ow, e_, _, wc⟩ := ways_cells nt.ways x hlt _ _ _ _ _ hr.ways
                      subst e_
                      obtain ⟨⟨wf0, wf1⟩, ⟨wt0, wt1⟩, wne, ⟨wc0, wc1⟩, wr0, wr1⟩ := hvw x hlt
                      have hb1 := sumW_bd (f := f) hv x hx
                      have hsn := sumW_succ (nt := nt) (f := f) x
                      have hlb : lkB nt f x = (f (nt.ways.getD x way0).to.toNat && !f (nt.ways.getD x way0).fr.toNat) := rfl
                      rw [hlb] at hsn
                      obtain ⟨y, ey⟩ : ∃ z, z = nt.ways.getD x way0 := ⟨_, rfl⟩
                      rw [← ey] at wc wf0 wf1 wt0 wt1 wne wc0 wc1 wr0 wr1 hsn
                      clear ey hlb
                      obtain ⟨yf, yt, yc, yr⟩ := y
                      obtain ⟨wk0, wk1, wk2, wk3⟩ := wc
                      dsimp only at wf0 wf1 wt0 wt1 wne wc0 wc1 wr0 wr1 wk0 wk1 wk2 wk3 hsn
                      obtain ⟨f_, rfl⟩ := Int.eq_ofNat_of_zero_le wf0
                      obtain ⟨t_, rfl⟩ := Int.eq_ofNat_of_zero_le wt0
                      simp only [Int.toNat_natCast] at hsn
                      obtain ⟨sm, esm⟩ : ∃ z, z = (sumW nt f x) := ⟨_, rfl⟩
                      rw [← esm] at q16x hb1 hsn
                      cases hhf : f f_
                      ·
                        cases hht : f t_
                        ·
                          simp only [hhf, hht, Bool.not_false, Bool.and_true, Bool.false_eq_true, if_false, Int.sub_zero] at hsn
                          refine EC.seq ?_
                          refine EC.seq ?_
                          refine EC.region ?_
                          refine EL.val (x_move rfl) rfl ?_
                          refine EL.val (fa_25_1 rfl) rfl ?_
                          refine EL.val (ld_23 rfl (q2x.at (j := 1) rfl)) rfl ?_
                          refine EL.val (ln_23 rfl) rfl ?_
                          refine EL.val (x_lss rfl rfl (decide_eq_true (show (((x : Nat) : Int) < ((nt.ways.length : Nat) : Int)) by omega))) rfl ?_
                          refine EL.nil ?_
                          refine EX.seq ?_
                          refine EC.yes rfl ?_
                          refine EC.skip ?_
                          refine EX.seq ?_
                          refine EC.seq ?_
                          refine EC.block ?_
                          refine EC.seq ?_
                          refine EC.region ?_
                          refine EL.val (fa_25_1 rfl) rfl ?_
                          refine EL.val (ld_23 rfl (q2x.at (j := 1) rfl)) rfl ?_
                          refine EL.val (x_move rfl) rfl ?_
                          refine EL.val (ix_23 rfl rfl hlt) rfl ?_
                          refine EL.val (ld_56 rfl (below_load hbw wk0) (below_load hbw wk1) (below_load hbw wk2) (below_load hbw wk3)) rfl ?_
                          refine EL.newP al_56 rfl ?_
                          intro g18 w18 q18 hb18 hg18 hl18
                          have n1_18 : g1 ≠ g18 := Nat.ne_of_lt (Nat.lt_of_lt_of_le q2x.lt hg18)
                          have n15_18 : g15 ≠ g18 := Nat.ne_of_lt (Nat.lt_of_lt_of_le q16x.lt hg18)
                          have bhbw_18 := Nat.le_trans hbw.size hg18
                          have bhbL_18 := Nat.le_trans hbL.size hg18
                          replace q2x := q2x.below hb18 q2x.lt
                          replace q16x := q16x.below hb18 q16x.lt
                          replace hin := own_below hin hb18 (Nat.le_refl _)
                          replace hot := own_below hot hb18 (Nat.le_refl _)
                          replace hbw := Below.on hbw hb18 hbw.size
                          replace hbL := Below.on hbL hb18 hbL.size
                          clear hb18 hg18 hl18
                          refine EL.store rfl rfl q18 sz_56 rfl rfl rfl rfl ?_
                          intro w19 hq19 hg19
                          replace q2x := q2x.grown hg19 (fun h => n1_18 (Option.some.inj h))
                          replace q16x := q16x.grown hg19 (fun h => n15_18 (Option.some.inj h))
                          replace hin := own_type hin q18 rfl hg19
                          replace hot := own_type hot q18 rfl hg19
                          replace hbw := below_store hbw hg19 bhbw_18
                          replace hbL := below_store hbL hg19 bhbL_18
                          replace q18 := hq19
                          clear hg19 hq19
                          refine EL.nil ?_
                          refine EX.seq ?_
                          refine EC.seq ?_
                          refine EC.seq ?_
                          refine EC.region ?_
                          refine EL.val (fa_56_0 rfl) rfl ?_
                          refine EL.val (ld_3 rfl (q18.at (j := 0) rfl)) rfl ?_
                          refine EL.val (x_lss (r := false) rfl rfl (decide_eq_false (by omega))) rfl ?_
                          refine EL.val (x_move rfl) rfl ?_
                          refine EL.valg rfl rfl (fa_56_0 rfl) rfl ?_
                          refine EL.valg rfl rfl (ld_3 rfl (q18.at (j := 0) rfl)) rfl ?_
                          refine EL.valg rfl rfl (x_move rfl) rfl ?_
                          refine EL.valg rfl rfl (ln_51 rfl) rfl ?_
                          refine EL.valg rfl rfl (x_geq (r := false) rfl rfl (decide_eq_false (by omega))) rfl ?_
                          refine EL.val (x_pick_f rfl rfl) rfl ?_
                          refine EL.val (x_move rfl) rfl ?_
                          refine EL.valg rfl rfl (fa_56_1 rfl) rfl ?_
                          refine EL.valg rfl rfl (ld_3 rfl (q18.at (j := 1) rfl)) rfl ?_
                          refine EL.valg rfl rfl (x_lss (r := false) rfl rfl (decide_eq_false (by omega))) rfl ?_
                          refine EL.val (x_pick_f rfl rfl) rfl ?_
                          refine EL.val (x_move rfl) rfl ?_
                          refine EL.valg rfl rfl (fa_56_1 rfl) rfl ?_
                          refine EL.valg rfl rfl (ld_3 rfl (q18.at (j := 1) rfl)) rfl ?_
                          refine EL.valg rfl rfl (x_move rfl) rfl ?_
                          refine EL.valg rfl rfl (ln_51 rfl) rfl ?_
                          refine EL.valg rfl rfl (x_geq (r := false) rfl rfl (decide_eq_false (by omega))) rfl ?_
                          refine EL.val (x_pick_f rfl rfl) rfl ?_
                          refine EL.nil ?_
                          refine EX.seq ?_
                          refine EC.no rfl ?_
                          refine EC.skip ?_
                          refine EX.seq ?_
                          refine EC.seq ?_
                          refine EC.region ?_
                          have rcf := own_bool_cell hin (k := f_) (by omega)
                          rw [bL_at (by omega), hhf] at rcf
                          have rct := own_bool_cell hin (k := t_) (by omega)
                          rw [bL_at (by omega), hht] at rct
                          refine EL.val (x_move rfl) rfl ?_
                          refine EL.val (fa_56_0 rfl) rfl ?_
                          refine EL.val (ld_3 rfl (q18.at (j := 0) rfl)) rfl ?_
                          refine EL.val (ix_51 rfl rfl (show f_ < nt.ports.length by omega)) rfl ?_
                          refine EL.val (ld_4 rfl rcf) rfl ?_
                          refine EL.val (x_not rfl) rfl ?_
                          refine EL.val (x_move rfl) rfl ?_
                          refine EL.valg rfl rfl (x_move rfl) rfl ?_
                          refine EL.valg rfl rfl (fa_56_1 rfl) rfl ?_
                          refine EL.valg rfl rfl (ld_3 rfl (q18.at (j := 1) rfl)) rfl ?_
                          refine EL.valg rfl rfl (ix_51 rfl rfl (show t_ < nt.ports.length by omega)) rfl ?_
                          refine EL.valg rfl rfl (ld_4 rfl rct) rfl ?_
                          refine EL.val (x_pick_t rfl rfl) rfl ?_
                          refine EL.nil ?_
                          refine EX.seq ?_
                          refine EC.no rfl ?_
                          refine EC.skip ?_
                          refine EX.blk ?_
                          refine EX.seq ?_
                          refine EC.region ?_
                          refine EL.val (x_move rfl) rfl ?_
                          refine EL.val (x_add rfl rfl (c := ((x + 1 : Nat) : Int)) ((IntWalk.i64_in _ ⟨by first | omega | (simp only; omega), by first | omega | (simp only; omega)⟩).trans (by first | omega | (simp only; omega)))) rfl ?_
                          refine EL.val (x_assign rfl) rfl ?_
                          refine EL.nil ?_
                          refine EX.roundD (x + 1) ⟨rfl, trivial⟩ (by repeat first | with_reducible exact Sub.refl _ | refine sub_past rfl ?_ | exact Sub.refl _ | refine sub_del rfl ?_ | refine sub_insL_nil ?_) ⟨hlt, (by rw [hsn]; exact q16x), q2x, hin, hot, hbL, hbw⟩ (by omega)
                        ·
                          simp only [hhf, hht, Bool.not_false, Bool.and_true, if_true] at hsn
                          refine EC.seq ?_
                          refine EC.seq ?_
                          refine EC.region ?_
                          refine EL.val (x_move rfl) rfl ?_
                          refine EL.val (fa_25_1 rfl) rfl ?_
                          refine EL.val (ld_23 rfl (q2x.at (j := 1) rfl)) rfl ?_
                          refine EL.val (ln_23 rfl) rfl ?_
                          refine EL.val (x_lss rfl rfl (decide_eq_true (show (((x : Nat) : Int) < ((nt.ways.length : Nat) : Int)) by omega))) rfl ?_
                          refine EL.nil ?_
                          refine EX.seq ?_
                          refine EC.yes rfl ?_
                          refine EC.skip ?_
                          refine EX.seq ?_
                          refine EC.seq ?_
                          refine EC.block ?_
                          refine EC.seq ?_
                          refine EC.region ?_
                          refine EL.val (fa_25_1 rfl) rfl ?_
                          refine EL.val (ld_23 rfl (q2x.at (j := 1) rfl)) rfl ?_
                          refine EL.val (x_move rfl) rfl ?_
                          refine EL.val (ix_23 rfl rfl hlt) rfl ?_
                          refine EL.val (ld_56 rfl (below_load hbw wk0) (below_load hbw wk1) (below_load hbw wk2) (below_load hbw wk3)) rfl ?_
                          refine EL.newP al_56 rfl ?_
                          intro g20 w20 q20 hb20 hg20 hl20
                          have n1_20 : g1 ≠ g20 := Nat.ne_of_lt (Nat.lt_of_lt_of_le q2x.lt hg20)
                          have n15_20 : g15 ≠ g20 := Nat.ne_of_lt (Nat.lt_of_lt_of_le q16x.lt hg20)
                          have bhbw_20 := Nat.le_trans hbw.size hg20
                          have bhbL_20 := Nat.le_trans hbL.size hg20
                          replace q2x := q2x.below hb20 q2x.lt
                          replace q16x := q16x.below hb20 q16x.lt
                          replace hin := own_below hin hb20 (Nat.le_refl _)
                          replace hot := own_below hot hb20 (Nat.le_refl _)
                          replace hbw := Below.on hbw hb20 hbw.size
                          replace hbL := Below.on hbL hb20 hbL.size
                          clear hb20 hg20 hl20
                          refine EL.store rfl rfl q20 sz_56 rfl rfl rfl rfl ?_
                          intro w21 hq21 hg21
                          replace q2x := q2x.grown hg21 (fun h => n1_20 (Option.some.inj h))
                          replace q16x := q16x.grown hg21 (fun h => n15_20 (Option.some.inj h))
                          replace hin := own_type hin q20 rfl hg21
                          replace hot := own_type hot q20 rfl hg21
                          replace hbw := below_store hbw hg21 bhbw_20
                          replace hbL := below_store hbL hg21 bhbL_20
                          replace q20 := hq21
                          clear hg21 hq21
                          refine EL.nil ?_
                          refine EX.seq ?_
                          refine EC.seq ?_
                          refine EC.seq ?_
                          refine EC.region ?_
                          refine EL.val (fa_56_0 rfl) rfl ?_
                          refine EL.val (ld_3 rfl (q20.at (j := 0) rfl)) rfl ?_
                          refine EL.val (x_lss (r := false) rfl rfl (decide_eq_false (by omega))) rfl ?_
                          refine EL.val (x_move rfl) rfl ?_
                          refine EL.valg rfl rfl (fa_56_0 rfl) rfl ?_
                          refine EL.valg rfl rfl (ld_3 rfl (q20.at (j := 0) rfl)) rfl ?_
                          refine EL.valg rfl rfl (x_move rfl) rfl ?_
                          refine EL.valg rfl rfl (ln_51 rfl) rfl ?_
                          refine EL.valg rfl rfl (x_geq (r := false) rfl rfl (decide_eq_false (by omega))) rfl ?_
                          refine EL.val (x_pick_f rfl rfl) rfl ?_
                          refine EL.val (x_move rfl) rfl ?_
                          refine EL.valg rfl rfl (fa_56_1 rfl) rfl ?_
                          refine EL.valg rfl rfl (ld_3 rfl (q20.at (j := 1) rfl)) rfl ?_
                          refine EL.valg rfl rfl (x_lss (r := false) rfl rfl (decide_eq_false (by omega))) rfl ?_
                          refine EL.val (x_pick_f rfl rfl) rfl ?_
                          refine EL.val (x_move rfl) rfl ?_
                          refine EL.valg rfl rfl (fa_56_1 rfl) rfl ?_
                          refine EL.valg rfl rfl (ld_3 rfl (q20.at (j := 1) rfl)) rfl ?_
                          refine EL.valg rfl rfl (x_move rfl) rfl ?_
                          refine EL.valg rfl rfl (ln_51 rfl) rfl ?_
                          refine EL.valg rfl rfl (x_geq (r := false) rfl rfl (decide_eq_false (by omega))) rfl ?_
                          refine EL.val (x_pick_f rfl rfl) rfl ?_
                          refine EL.nil ?_
                          refine EX.seq ?_
                          refine EC.no rfl ?_
                          refine EC.skip ?_
                          refine EX.seq ?_
                          refine EC.seq ?_
                          refine EC.region ?_
                          have rcf := own_bool_cell hin (k := f_) (by omega)
                          rw [bL_at (by omega), hhf] at rcf
                          have rct := own_bool_cell hin (k := t_) (by omega)
                          rw [bL_at (by omega), hht] at rct
                          refine EL.val (x_move rfl) rfl ?_
                          refine EL.val (fa_56_0 rfl) rfl ?_
                          refine EL.val (ld_3 rfl (q20.at (j := 0) rfl)) rfl ?_
                          refine EL.val (ix_51 rfl rfl (show f_ < nt.ports.length by omega)) rfl ?_
                          refine EL.val (ld_4 rfl rcf) rfl ?_
                          refine EL.val (x_not rfl) rfl ?_
                          refine EL.val (x_move rfl) rfl ?_
                          refine EL.valg rfl rfl (x_move rfl) rfl ?_
                          refine EL.valg rfl rfl (fa_56_1 rfl) rfl ?_
                          refine EL.valg rfl rfl (ld_3 rfl (q20.at (j := 1) rfl)) rfl ?_
                          refine EL.valg rfl rfl (ix_51 rfl rfl (show t_ < nt.ports.length by omega)) rfl ?_
                          refine EL.valg rfl rfl (ld_4 rfl rct) rfl ?_
                          refine EL.val (x_pick_t rfl rfl) rfl ?_
                          refine EL.nil ?_
                          refine EX.seq ?_
                          refine EC.yes rfl ?_
                          have lt_1 := q2x.lt
                          have lt_15 := q16x.lt
                          have lt_20 := q20.lt
                          refine EC.regionP [[], [0], [0, 1], [], [3], [0, 1, 2, 3, 4], [0, 1, 2, 3, 4, 5], [0, 1, 2, 3, 4, 5, 6]] 6 [] (phi (fun i_ r => match i_ with | 0 => r 0 = .int .i64 (0 : Nat) | 1 => r 1 = .pointer (some ⟨g15, 0 + 0, none⟩) | 2 => r 2 = .int .i64 sm | 3 => r 3 = .pointer (some ⟨g20, 3, none⟩) | 4 => r 4 = .int .i64 yr | 5 => r 5 = .int .i64 (sm - yr) | _ => True) []) (by kernel_rfl) rfl rfl (phi_nil) (fun i_ hi_ => ?_) ?_
                          · match i_, hi_ with
                            | 0, _ =>
                              intro val w1 a hb ha hd
                              have ha := ha.sub (Sub.ins (d := 17) (Sub.nil _) rfl)
                              exact hs_val ha rfl rfl (x_move rfl) rfl rfl
                            | 1, _ =>
                              intro val w1 a hb ha hd
                              have e0 : val 0 = .int .i64 (0 : Nat) := hd 0 (memB_mem.1 rfl)
                              have ha := ha.sub (Sub.ins (d := 239) (Sub.ins (d := 16) (Sub.nil _) rfl) (dep_get rfl e0))
                              exact hs_val ha rfl rfl (ixa_53 (k := 0) rfl rfl (by omega)) rfl rfl
                            | 2, _ =>
                              intro val w1 a hb ha hd
                              have e1 : val 1 = .pointer (some ⟨g15, 0 + 0, none⟩) := hd 1 (memB_mem.1 rfl)
                              have ha := ha.sub (Sub.ins (d := 240) (Sub.nil _) (dep_get rfl e1))
                              exact hs_val ha rfl rfl (ld_3 rfl ((q16x.below hb q16x.lt).at (j := 0) rfl)) rfl rfl
                            | 3, _ =>
                              intro val w1 a hb ha hd
                              have ha := ha.sub (Sub.ins (d := 21) (Sub.nil _) rfl)
                              exact hs_val ha rfl rfl (fa_56_3 rfl) rfl rfl
                            | 4, _ =>
                              intro val w1 a hb ha hd
                              have e3 : val 3 = .pointer (some ⟨g20, 3, none⟩) := hd 3 (memB_mem.1 rfl)
                              have ha := ha.sub (Sub.ins (d := 242) (Sub.nil _) (dep_get rfl e3))
                              exact hs_val ha rfl rfl (ld_3 rfl ((q20.below hb q20.lt).at (j := 3) rfl)) rfl rfl
                            | 5, _ =>
                              intro val w1 a hb ha hd
                              have e2 : val 2 = .int .i64 sm := hd 2 (memB_mem.1 rfl)
                              have e4 : val 4 = .int .i64 yr := hd 4 (memB_mem.1 rfl)
                              have ha := ha.sub (Sub.ins (d := 243) (Sub.ins (d := 241) (Sub.nil _) (dep_get rfl e2)) (dep_get rfl e4))
                              exact hs_val ha rfl rfl (x_sub rfl rfl (c := sm - yr) (IntWalk.i64_in _ ⟨by omega, by omega⟩)) rfl rfl
                            | k + 6, h => exact absurd h (by omega)
                          · intro val wR35 hb halc hd
                            have e0 : val 0 = .int .i64 (0 : Nat) := hd 0 (by omega)
                            have e1 : val 1 = .pointer (some ⟨g15, 0 + 0, none⟩) := hd 1 (by omega)
                            have e2 : val 2 = .int .i64 sm := hd 2 (by omega)
                            have e3 : val 3 = .pointer (some ⟨g20, 3, none⟩) := hd 3 (by omega)
                            have e4 : val 4 = .int .i64 yr := hd 4 (by omega)
                            have e5 : val 5 = .int .i64 (sm - yr) := hd 5 (by omega)
                            refine EL.ends (cs := [.int .i64 (0 : Nat), .pointer (some ⟨g15, 0 + 0, none⟩), .int .i64 sm, .pointer (some ⟨g20, 3, none⟩), .int .i64 yr, .int .i64 (sm - yr)]) ⟨e0, e1, e2, e3, e4, e5, trivial⟩ rfl ?_
                            replace q2x := q2x.below hb q2x.lt
                            replace q16x := q16x.below hb q16x.lt
                            replace q20 := q20.below hb q20.lt
                            replace hin := own_below hin hb (Nat.le_refl _)
                            replace hot := own_below hot hb (Nat.le_refl _)
                            replace hbw := Below.on hbw hb hbw.size
                            replace hbL := Below.on hbL hb hbL.size
                            clear hb
                            refine EL.val (ixa_53 (k := 0) rfl rfl (by omega)) rfl ?_
                            refine EL.store rfl rfl q16x sz_3 rfl rfl rfl rfl ?_
                            intro w22 hq22 hg22
                            replace q2x := q2x.grown hg22 (fun h => n1_15 (Option.some.inj h))
                            replace q20 := q20.grown hg22 (fun h => n15_20.symm (Option.some.inj h))
                            replace hin := own_type hin q16x rfl hg22
                            replace hot := own_type hot q16x rfl hg22
                            replace hbw := below_store hbw hg22 bhbw_15
                            replace hbL := below_store hbL hg22 bhbL_15
                            replace q16x := hq22
                            clear hg22 hq22
                            refine EL.nil ?_
                            refine EX.blk ?_
                            refine EX.seq ?_
                            refine EC.region ?_
                            refine EL.val (x_move rfl) rfl ?_
                            refine EL.val (x_add rfl rfl (c := ((x + 1 : Nat) : Int)) ((IntWalk.i64_in _ ⟨by first | omega | (simp only; omega), by first | omega | (simp only; omega)⟩).trans (by first | omega | (simp only; omega)))) rfl ?_
                            refine EL.val (x_assign rfl) rfl ?_
                            refine EL.nil ?_
                            refine EX.roundD (x + 1) ⟨rfl, trivial⟩ (by repeat first | with_reducible exact Sub.refl _ | refine sub_past rfl ?_ | exact Sub.refl _ | refine sub_del rfl ?_ | refine sub_insL_nil ?_) ⟨hlt, (by rw [hsn]; exact q16x), q2x, hin, hot, hbL, hbw⟩ (by omega)
                      ·
                        simp only [hhf, Bool.not_true, Bool.and_false, Bool.false_eq_true, if_false, Int.sub_zero] at hsn
                        refine EC.seq ?_
                        refine EC.seq ?_
                        refine EC.region ?_
                        refine EL.val (x_move rfl) rfl ?_
                        refine EL.val (fa_25_1 rfl) rfl ?_
                        refine EL.val (ld_23 rfl (q2x.at (j := 1) rfl)) rfl ?_
                        refine EL.val (ln_23 rfl) rfl ?_
                        refine EL.val (x_lss rfl rfl (decide_eq_true (show (((x : Nat) : Int) < ((nt.ways.length : Nat) : Int)) by omega))) rfl ?_
                        refine EL.nil ?_
                        refine EX.seq ?_
                        refine EC.yes rfl ?_
                        refine EC.skip ?_
                        refine EX.seq ?_
                        refine EC.seq ?_
                        refine EC.block ?_
                        refine EC.seq ?_
                        refine EC.region ?_
                        refine EL.val (fa_25_1 rfl) rfl ?_
                        refine EL.val (ld_23 rfl (q2x.at (j := 1) rfl)) rfl ?_
                        refine EL.val (x_move rfl) rfl ?_
                        refine EL.val (ix_23 rfl rfl hlt) rfl ?_
                        refine EL.val (ld_56 rfl (below_load hbw wk0) (below_load hbw wk1) (below_load hbw wk2) (below_load hbw wk3)) rfl ?_
                        refine EL.newP al_56 rfl ?_
                        intro g23 w23 q23 hb23 hg23 hl23
                        have n1_23 : g1 ≠ g23 := Nat.ne_of_lt (Nat.lt_of_lt_of_le q2x.lt hg23)
                        have n15_23 : g15 ≠ g23 := Nat.ne_of_lt (Nat.lt_of_lt_of_le q16x.lt hg23)
                        have bhbw_23 := Nat.le_trans hbw.size hg23
                        have bhbL_23 := Nat.le_trans hbL.size hg23
                        replace q2x := q2x.below hb23 q2x.lt
                        replace q16x := q16x.below hb23 q16x.lt
                        replace hin := own_below hin hb23 (Nat.le_refl _)
                        replace hot := own_below hot hb23 (Nat.le_refl _)
                        replace hbw := Below.on hbw hb23 hbw.size
                        replace hbL := Below.on hbL hb23 hbL.size
                        clear hb23 hg23 hl23
                        refine EL.store rfl rfl q23 sz_56 rfl rfl rfl rfl ?_
                        intro w24 hq24 hg24
                        replace q2x := q2x.grown hg24 (fun h => n1_23 (Option.some.inj h))
                        replace q16x := q16x.grown hg24 (fun h => n15_23 (Option.some.inj h))
                        replace hin := own_type hin q23 rfl hg24
                        replace hot := own_type hot q23 rfl hg24
                        replace hbw := below_store hbw hg24 bhbw_23
                        replace hbL := below_store hbL hg24 bhbL_23
                        replace q23 := hq24
                        clear hg24 hq24
                        refine EL.nil ?_
                        refine EX.seq ?_
                        refine EC.seq ?_
                        refine EC.seq ?_
                        refine EC.region ?_
                        refine EL.val (fa_56_0 rfl) rfl ?_
                        refine EL.val (ld_3 rfl (q23.at (j := 0) rfl)) rfl ?_
                        refine EL.val (x_lss (r := false) rfl rfl (decide_eq_false (by omega))) rfl ?_
                        refine EL.val (x_move rfl) rfl ?_
                        refine EL.valg rfl rfl (fa_56_0 rfl) rfl ?_
                        refine EL.valg rfl rfl (ld_3 rfl (q23.at (j := 0) rfl)) rfl ?_
                        refine EL.valg rfl rfl (x_move rfl) rfl ?_
                        refine EL.valg rfl rfl (ln_51 rfl) rfl ?_
                        refine EL.valg rfl rfl (x_geq (r := false) rfl rfl (decide_eq_false (by omega))) rfl ?_
                        refine EL.val (x_pick_f rfl rfl) rfl ?_
                        refine EL.val (x_move rfl) rfl ?_
                        refine EL.valg rfl rfl (fa_56_1 rfl) rfl ?_
                        refine EL.valg rfl rfl (ld_3 rfl (q23.at (j := 1) rfl)) rfl ?_
                        refine EL.valg rfl rfl (x_lss (r := false) rfl rfl (decide_eq_false (by omega))) rfl ?_
                        refine EL.val (x_pick_f rfl rfl) rfl ?_
                        refine EL.val (x_move rfl) rfl ?_
                        refine EL.valg rfl rfl (fa_56_1 rfl) rfl ?_
                        refine EL.valg rfl rfl (ld_3 rfl (q23.at (j := 1) rfl)) rfl ?_
                        refine EL.valg rfl rfl (x_move rfl) rfl ?_
                        refine EL.valg rfl rfl (ln_51 rfl) rfl ?_
                        refine EL.valg rfl rfl (x_geq (r := false) rfl rfl (decide_eq_false (by omega))) rfl ?_
                        refine EL.val (x_pick_f rfl rfl) rfl ?_
                        refine EL.nil ?_
                        refine EX.seq ?_
                        refine EC.no rfl ?_
                        refine EC.skip ?_
                        refine EX.seq ?_
                        refine EC.seq ?_
                        refine EC.region ?_
                        have rcf := own_bool_cell hin (k := f_) (by omega)
                        rw [bL_at (by omega), hhf] at rcf
                        refine EL.val (x_move rfl) rfl ?_
                        refine EL.val (fa_56_0 rfl) rfl ?_
                        refine EL.val (ld_3 rfl (q23.at (j := 0) rfl)) rfl ?_
                        refine EL.val (ix_51 rfl rfl (show f_ < nt.ports.length by omega)) rfl ?_
                        refine EL.val (ld_4 rfl rcf) rfl ?_
                        refine EL.val (x_not rfl) rfl ?_
                        refine EL.val (x_move rfl) rfl ?_
                        refine EL.skip rfl rfl rfl rfl ?_
                        refine EL.skip rfl rfl rfl rfl ?_
                        refine EL.skip rfl rfl rfl rfl ?_
                        refine EL.skip rfl rfl rfl rfl ?_
                        refine EL.skip rfl rfl rfl rfl ?_
                        refine EL.val (x_pick_f rfl rfl) rfl ?_
                        refine EL.nil ?_
                        refine EX.seq ?_
                        refine EC.no rfl ?_
                        refine EC.skip ?_
                        refine EX.blk ?_
                        refine EX.seq ?_
                        refine EC.region ?_
                        refine EL.val (x_move rfl) rfl ?_
                        refine EL.val (x_add rfl rfl (c := ((x + 1 : Nat) : Int)) ((IntWalk.i64_in _ ⟨by first | omega | (simp only; omega), by first | omega | (simp only; omega)⟩).trans (by first | omega | (simp only; omega)))) rfl ?_
                        refine EL.val (x_assign rfl) rfl ?_
                        refine EL.nil ?_
                        refine EX.roundD (x + 1) ⟨rfl, trivial⟩ (by repeat first | with_reducible exact Sub.refl _ | refine sub_past rfl ?_ | exact Sub.refl _ | refine sub_del rfl ?_ | refine sub_insL_nil ?_) ⟨hlt, (by rw [hsn]; exact q16x), q2x, hin, hot, hbL, hbw⟩ (by omega)
                    ·
                      have hxe : x = nt.ways.length := by omega
                      subst hxe
                      refine EC.seq ?_
                      refine EC.seq ?_
                      refine EC.region ?_
                      refine EL.val (x_move rfl) rfl ?_
                      refine EL.val (fa_25_1 rfl) rfl ?_
                      refine EL.val (ld_23 rfl (q2x.at (j := 1) rfl)) rfl ?_
                      refine EL.val (ln_23 rfl) rfl ?_
                      refine EL.val (x_lss rfl rfl (decide_eq_false (show ¬(((nt.ways.length : Nat) : Int) < ((nt.ways.length : Nat) : Int)) by omega))) rfl ?_
                      refine EL.nil ?_
                      refine EX.seq ?_
                      refine EC.no rfl ?_
                      refine EC.exit ?_
                      refine EX.seq_exit ?_
                      refine EX.seq_exit ?_
                      refine EX.blk_here ?_
                      refine EX.blk ?_
                      refine EX.seq ?_
                      refine EC.region ?_
                      refine EL.val (x_move rfl) rfl ?_
                      refine EL.val (x_add rfl rfl (c := ((0 + 1 : Nat) : Int)) rfl) rfl ?_
                      refine EL.val (x_assign rfl) rfl ?_
                      refine EL.nil ?_
                      refine EX.roundD (0 + 1) ⟨rfl, trivial⟩ (by repeat first | with_reducible exact Sub.refl _ | refine sub_past rfl ?_ | exact Sub.refl _ | refine sub_del rfl ?_ | refine sub_insL_nil ?_) ⟨by omega, q16x, q2x, hin, hot, hbL, hbw⟩ (by omega)
                ·
                  have q16x : Blk wx g15 53 #[.int .i64 (lackS nt f), .int .i64 0] := q16x
                  refine EC.seq ?_
                  refine EC.seq ?_
                  refine EC.region ?_
                  refine EL.val (x_move rfl) rfl ?_
                  refine EL.val (x_lss rfl rfl (r := true) (by decide)) rfl ?_
                  refine EL.nil ?_
                  refine EX.seq ?_
                  refine EC.yes rfl ?_
                  refine EC.skip ?_
                  refine EX.seq ?_
                  refine EC.seq ?_
                  refine EC.block ?_
                  refine EC.seq ?_
                  refine EC.region ?_
                  refine EL.val (x_move rfl) rfl ?_
                  refine EL.val (x_move rfl) rfl ?_
                  refine EL.val (bds_two rfl rfl) rfl ?_
                  refine EL.val (x_move rfl) rfl ?_
                  refine EL.val (ixs_1 rfl rfl) rfl ?_
                  refine EL.val (x_assign rfl) rfl ?_
                  refine EL.nil ?_
                  refine EX.seq ?_
                  refine EC.seq ?_
                  refine EC.seq ?_
                  refine EC.region ?_
                  refine EL.val (x_assign rfl) rfl ?_
                  refine EL.nil ?_
                  refine EX.seq ?_
                  refine EC.block ?_
                  refine EC.loopD [19, 163, 164, 165, 166, 167, 168, 169, 170, 171, 172, 173, 174, 175, 176, 177, 178, 179, 180, 181, 182, 183, 184, 185, 186, 187, 188, 189, 190, 191] (fun x : Nat => [(19, .int .i64 (x : Nat))]) (fun x W => x ≤ nt.ports.length ∧ Blk W g15 53 #[.int .i64 (lackS nt f), .int .i64 (sumP nt (othB f xs) x)] ∧ Blk W g1 25 #[.slice Ap nt.ports.length cp_, .slice Aw nt.ways.length cw_] ∧ W.ownsRow w7.heap.size 4 1 (.slice (some ⟨gi, 0, none⟩) nt.ports.length nt.ports.length) nt.ports.length (bools (bL f nt.ports.length)) ∧ W.ownsRow w7.heap.size 4 1 (.slice (some ⟨go, 0, none⟩) nt.ports.length nt.ports.length) nt.ports.length (bools (bL (othB f xs) nt.ports.length)) ∧ Below w7.heap.size w7 W ∧ Below w.heap.size w W) (fun x => nt.ports.length - x) 0 ⟨Nat.zero_le _, q16x, q2x, hin, hot, hbL, hbw⟩ ⟨rfl, trivial⟩ ?_
                  clear q16x q2x hin hot hbL hbw
                  rintro x wx ⟨hx, q16x, q2x, hin, hot, hbL, hbw⟩
                  by_cases hlt : x < nt.ports.length
                  ·
                    have hbl := bL_len (othB f xs) nt.ports.length
                    have rc := own_bool_cell hot (k := x) (by omega)
                    rw [bL_at hlt] at rc
                    obtain ⟨bp, op, e_, _, pc0, pc1⟩ := prts_cells nt.ports x hlt _ _ _ _ _ hr.ports
                    subst e_
                    obtain ⟨⟨ph0, ph1⟩, pw0, pw1⟩ := hvp x hlt
                    have hb1 := sumP_bd (f := (othB f xs)) hv x hx
                    have hsn := sumP_succ (nt := nt) (f := (othB f xs)) x
                    obtain ⟨y, ey⟩ : ∃ z, z = nt.ports.getD x prt0 := ⟨_, rfl⟩
                    rw [← ey] at pc0 pc1 ph0 ph1 pw0 pw1 hsn
                    obtain ⟨sm, esm⟩ : ∃ z, z = (sumP nt (othB f xs) x) := ⟨_, rfl⟩
                    rw [← esm] at q16x hb1 hsn
                    cases hhx : (othB f xs) x
                    ·
                      rw [hhx] at rc
                      simp only [hhx] at hsn
                      refine EC.seq ?_
                      refine EC.seq ?_
                      refine EC.region ?_
                      refine EL.val (x_move rfl) rfl ?_
                      refine EL.val (fa_25_0 rfl) rfl ?_
                      refine EL.val (ld_22 rfl (q2x.at (j := 0) rfl)) rfl ?_
                      refine EL.val (ln_22 rfl) rfl ?_
                      refine EL.val (x_lss rfl rfl (decide_eq_true (show (((x : Nat) : Int) < ((nt.ports.length : Nat) : Int)) by omega))) rfl ?_
                      refine EL.nil ?_
                      refine EX.seq ?_
                      refine EC.yes rfl ?_
                      refine EC.skip ?_
                      refine EX.seq ?_
                      refine EC.seq ?_
                      refine EC.block ?_
                      refine EC.seq ?_
                      refine EC.region ?_
                      refine EL.val (x_move rfl) rfl ?_
                      refine EL.val (x_move rfl) rfl ?_
                      refine EL.val (ix_51 rfl rfl hlt) rfl ?_
                      refine EL.val (ld_4 rfl rc) rfl ?_
                      refine EL.nil ?_
                      refine EX.seq ?_
                      refine EC.no rfl ?_
                      refine EC.skip ?_
                      refine EX.blk ?_
                      refine EX.seq ?_
                      refine EC.region ?_
                      refine EL.val (x_move rfl) rfl ?_
                      refine EL.val (x_add rfl rfl (c := ((x + 1 : Nat) : Int)) ((IntWalk.i64_in _ ⟨by first | omega | (simp only; omega), by first | omega | (simp only; omega)⟩).trans (by first | omega | (simp only; omega)))) rfl ?_
                      refine EL.val (x_assign rfl) rfl ?_
                      refine EL.nil ?_
                      refine EX.roundD (x + 1) ⟨rfl, trivial⟩ (by repeat first | with_reducible exact Sub.refl _ | refine sub_past rfl ?_ | exact Sub.refl _ | refine sub_del rfl ?_ | refine sub_insL_nil ?_) ⟨hlt, (by rw [hsn]; simp only [Bool.false_eq_true, if_false, Int.add_zero]; exact q16x), q2x, hin, hot, hbL, hbw⟩ (by omega)
                    ·
                      rw [hhx] at rc
                      simp only [hhx] at hsn
                      refine EC.seq ?_
                      refine EC.seq ?_
                      refine EC.region ?_
                      refine EL.val (x_move rfl) rfl ?_
                      refine EL.val (fa_25_0 rfl) rfl ?_
                      refine EL.val (ld_22 rfl (q2x.at (j := 0) rfl)) rfl ?_
                      refine EL.val (ln_22 rfl) rfl ?_
                      refine EL.val (x_lss rfl rfl (decide_eq_true (show (((x : Nat) : Int) < ((nt.ports.length : Nat) : Int)) by omega))) rfl ?_
                      refine EL.nil ?_
                      refine EX.seq ?_
                      refine EC.yes rfl ?_
                      refine EC.skip ?_
                      refine EX.seq ?_
                      refine EC.seq ?_
                      refine EC.block ?_
                      refine EC.seq ?_
                      refine EC.region ?_
                      refine EL.val (x_move rfl) rfl ?_
                      refine EL.val (x_move rfl) rfl ?_
                      refine EL.val (ix_51 rfl rfl hlt) rfl ?_
                      refine EL.val (ld_4 rfl rc) rfl ?_
                      refine EL.nil ?_
                      refine EX.seq ?_
                      refine EC.yes rfl ?_
                      have lt_1 := q2x.lt
                      have lt_15 := q16x.lt
                      refine EC.regionP [[], [0], [0, 1], [], [3], [], [3, 4, 5], [3, 4, 5, 6], [3, 4, 5, 6, 7], [], [9], [], [9, 10, 11], [9, 10, 11, 12], [9, 10, 11, 12, 13], [3, 4, 5, 6, 7, 8, 9, 10, 11, 12, 13, 14], [0, 1, 2, 3, 4, 5, 6, 7, 8, 9, 10, 11, 12, 13, 14, 15], [0, 1, 2, 3, 4, 5, 6, 7, 8, 9, 10, 11, 12, 13, 14, 15, 16], [0, 1, 2, 3, 4, 5, 6, 7, 8, 9, 10, 11, 12, 13, 14, 15, 16, 17]] 17 [] (phi (fun i_ r => match i_ with | 0 => r 0 = .int .i64 (1 : Nat) | 1 => r 1 = .pointer (some ⟨g15, 0 + 1, none⟩) | 2 => r 2 = .int .i64 sm | 3 => r 3 = .pointer (some ⟨g1, 0, none⟩) | 4 => r 4 = .slice (some ⟨bp, op, none⟩) nt.ports.length cp_ | 5 => r 5 = .int .i64 (x : Nat) | 6 => r 6 = .pointer (some ⟨bp, op + x * 2, none⟩) | 7 => r 7 = .pointer (some ⟨bp, op + x * 2 + 1, none⟩) | 8 => r 8 = .int .i64 y.wants | 9 => r 9 = .pointer (some ⟨g1, 0, none⟩) | 10 => r 10 = .slice (some ⟨bp, op, none⟩) nt.ports.length cp_ | 11 => r 11 = .int .i64 (x : Nat) | 12 => r 12 = .pointer (some ⟨bp, op + x * 2, none⟩) | 13 => r 13 = .pointer (some ⟨bp, op + x * 2, none⟩) | 14 => r 14 = .int .i64 y.has | 15 => r 15 = .int .i64 (y.wants - y.has) | 16 => r 16 = .int .i64 (sm + (y.wants - y.has)) | _ => True) []) (by kernel_rfl) rfl rfl (phi_nil) (fun i_ hi_ => ?_) ?_
                      · match i_, hi_ with
                        | 0, _ =>
                          intro val w1 a hb ha hd
                          have ha := ha.sub (Sub.ins (d := 17) (Sub.nil _) rfl)
                          exact hs_val ha rfl rfl (x_move rfl) rfl rfl
                        | 1, _ =>
                          intro val w1 a hb ha hd
                          have e0 : val 0 = .int .i64 (1 : Nat) := hd 0 (memB_mem.1 rfl)
                          have ha := ha.sub (Sub.ins (d := 174) (Sub.ins (d := 16) (Sub.nil _) rfl) (dep_get rfl e0))
                          exact hs_val ha rfl rfl (ixa_53 (k := 1) rfl rfl (by omega)) rfl rfl
                        | 2, _ =>
                          intro val w1 a hb ha hd
                          have e1 : val 1 = .pointer (some ⟨g15, 0 + 1, none⟩) := hd 1 (memB_mem.1 rfl)
                          have ha := ha.sub (Sub.ins (d := 175) (Sub.nil _) (dep_get rfl e1))
                          exact hs_val ha rfl rfl (ld_3 rfl ((q16x.below hb q16x.lt).at (j := 1) rfl)) rfl rfl
                        | 3, _ =>
                          intro val w1 a hb ha hd
                          have ha := ha.sub (Sub.ins (d := 2) (Sub.nil _) rfl)
                          exact hs_val ha rfl rfl (fa_25_0 rfl) rfl rfl
                        | 4, _ =>
                          intro val w1 a hb ha hd
                          have e3 : val 3 = .pointer (some ⟨g1, 0, none⟩) := hd 3 (memB_mem.1 rfl)
                          have ha := ha.sub (Sub.ins (d := 177) (Sub.nil _) (dep_get rfl e3))
                          exact hs_val ha rfl rfl (ld_22 rfl ((q2x.below hb q2x.lt).at (j := 0) rfl)) rfl rfl
                        | 5, _ =>
                          intro val w1 a hb ha hd
                          have ha := ha.sub (Sub.ins (d := 19) (Sub.nil _) rfl)
                          exact hs_val ha rfl rfl (x_move rfl) rfl rfl
                        | 6, _ =>
                          intro val w1 a hb ha hd
                          have e4 : val 4 = .slice (some ⟨bp, op, none⟩) nt.ports.length cp_ := hd 4 (memB_mem.1 rfl)
                          have e5 : val 5 = .int .i64 (x : Nat) := hd 5 (memB_mem.1 rfl)
                          have ha := ha.sub (Sub.ins (d := 179) (Sub.ins (d := 178) (Sub.nil _) (dep_get rfl e4)) (dep_get rfl e5))
                          exact hs_val ha rfl rfl (ix_22 rfl rfl hlt) rfl rfl
                        | 7, _ =>
                          intro val w1 a hb ha hd
                          have e6 : val 6 = .pointer (some ⟨bp, op + x * 2, none⟩) := hd 6 (memB_mem.1 rfl)
                          have ha := ha.sub (Sub.ins (d := 180) (Sub.nil _) (dep_get rfl e6))
                          exact hs_val ha rfl rfl (fa_47_1 rfl) rfl rfl
                        | 8, _ =>
                          intro val w1 a hb ha hd
                          have e7 : val 7 = .pointer (some ⟨bp, op + x * 2 + 1, none⟩) := hd 7 (memB_mem.1 rfl)
                          have ha := ha.sub (Sub.ins (d := 181) (Sub.nil _) (dep_get rfl e7))
                          exact hs_val ha rfl rfl (ld_3 rfl (below_load hb (below_load hbw pc1))) rfl rfl
                        | 9, _ =>
                          intro val w1 a hb ha hd
                          have ha := ha.sub (Sub.ins (d := 2) (Sub.nil _) rfl)
                          exact hs_val ha rfl rfl (fa_25_0 rfl) rfl rfl
                        | 10, _ =>
                          intro val w1 a hb ha hd
                          have e9 : val 9 = .pointer (some ⟨g1, 0, none⟩) := hd 9 (memB_mem.1 rfl)
                          have ha := ha.sub (Sub.ins (d := 183) (Sub.nil _) (dep_get rfl e9))
                          exact hs_val ha rfl rfl (ld_22 rfl ((q2x.below hb q2x.lt).at (j := 0) rfl)) rfl rfl
                        | 11, _ =>
                          intro val w1 a hb ha hd
                          have ha := ha.sub (Sub.ins (d := 19) (Sub.nil _) rfl)
                          exact hs_val ha rfl rfl (x_move rfl) rfl rfl
                        | 12, _ =>
                          intro val w1 a hb ha hd
                          have e10 : val 10 = .slice (some ⟨bp, op, none⟩) nt.ports.length cp_ := hd 10 (memB_mem.1 rfl)
                          have e11 : val 11 = .int .i64 (x : Nat) := hd 11 (memB_mem.1 rfl)
                          have ha := ha.sub (Sub.ins (d := 185) (Sub.ins (d := 184) (Sub.nil _) (dep_get rfl e10)) (dep_get rfl e11))
                          exact hs_val ha rfl rfl (ix_22 rfl rfl hlt) rfl rfl
                        | 13, _ =>
                          intro val w1 a hb ha hd
                          have e12 : val 12 = .pointer (some ⟨bp, op + x * 2, none⟩) := hd 12 (memB_mem.1 rfl)
                          have ha := ha.sub (Sub.ins (d := 186) (Sub.nil _) (dep_get rfl e12))
                          exact hs_val ha rfl rfl (fa_47_0 rfl) rfl rfl
                        | 14, _ =>
                          intro val w1 a hb ha hd
                          have e13 : val 13 = .pointer (some ⟨bp, op + x * 2, none⟩) := hd 13 (memB_mem.1 rfl)
                          have ha := ha.sub (Sub.ins (d := 187) (Sub.nil _) (dep_get rfl e13))
                          exact hs_val ha rfl rfl (ld_3 rfl (below_load hb (below_load hbw pc0))) rfl rfl
                        | 15, _ =>
                          intro val w1 a hb ha hd
                          have e8 : val 8 = .int .i64 y.wants := hd 8 (memB_mem.1 rfl)
                          have e14 : val 14 = .int .i64 y.has := hd 14 (memB_mem.1 rfl)
                          have ha := ha.sub (Sub.ins (d := 188) (Sub.ins (d := 182) (Sub.nil _) (dep_get rfl e8)) (dep_get rfl e14))
                          exact hs_val ha rfl rfl (x_sub rfl rfl (c := y.wants - y.has) (IntWalk.i64_in _ ⟨by omega, by omega⟩)) rfl rfl
                        | 16, _ =>
                          intro val w1 a hb ha hd
                          have e2 : val 2 = .int .i64 sm := hd 2 (memB_mem.1 rfl)
                          have e15 : val 15 = .int .i64 (y.wants - y.has) := hd 15 (memB_mem.1 rfl)
                          have ha := ha.sub (Sub.ins (d := 189) (Sub.ins (d := 176) (Sub.nil _) (dep_get rfl e2)) (dep_get rfl e15))
                          exact hs_val ha rfl rfl (x_add rfl rfl (c := (sm + (y.wants - y.has))) (IntWalk.i64_in _ ⟨by omega, by omega⟩)) rfl rfl
                        | k + 17, h => exact absurd h (by omega)
                      · intro val wR27 hb halc hd
                        have e0 : val 0 = .int .i64 (1 : Nat) := hd 0 (by omega)
                        have e1 : val 1 = .pointer (some ⟨g15, 0 + 1, none⟩) := hd 1 (by omega)
                        have e2 : val 2 = .int .i64 sm := hd 2 (by omega)
                        have e3 : val 3 = .pointer (some ⟨g1, 0, none⟩) := hd 3 (by omega)
                        have e4 : val 4 = .slice (some ⟨bp, op, none⟩) nt.ports.length cp_ := hd 4 (by omega)
                        have e5 : val 5 = .int .i64 (x : Nat) := hd 5 (by omega)
                        have e6 : val 6 = .pointer (some ⟨bp, op + x * 2, none⟩) := hd 6 (by omega)
                        have e7 : val 7 = .pointer (some ⟨bp, op + x * 2 + 1, none⟩) := hd 7 (by omega)
                        have e8 : val 8 = .int .i64 y.wants := hd 8 (by omega)
                        have e9 : val 9 = .pointer (some ⟨g1, 0, none⟩) := hd 9 (by omega)
                        have e10 : val 10 = .slice (some ⟨bp, op, none⟩) nt.ports.length cp_ := hd 10 (by omega)
                        have e11 : val 11 = .int .i64 (x : Nat) := hd 11 (by omega)
                        have e12 : val 12 = .pointer (some ⟨bp, op + x * 2, none⟩) := hd 12 (by omega)
                        have e13 : val 13 = .pointer (some ⟨bp, op + x * 2, none⟩) := hd 13 (by omega)
                        have e14 : val 14 = .int .i64 y.has := hd 14 (by omega)
                        have e15 : val 15 = .int .i64 (y.wants - y.has) := hd 15 (by omega)
                        have e16 : val 16 = .int .i64 (sm + (y.wants - y.has)) := hd 16 (by omega)
                        refine EL.ends (cs := [.int .i64 (1 : Nat), .pointer (some ⟨g15, 0 + 1, none⟩), .int .i64 sm, .pointer (some ⟨g1, 0, none⟩), .slice (some ⟨bp, op, none⟩) nt.ports.length cp_, .int .i64 (x : Nat), .pointer (some ⟨bp, op + x * 2, none⟩), .pointer (some ⟨bp, op + x * 2 + 1, none⟩), .int .i64 y.wants, .pointer (some ⟨g1, 0, none⟩), .slice (some ⟨bp, op, none⟩) nt.ports.length cp_, .int .i64 (x : Nat), .pointer (some ⟨bp, op + x * 2, none⟩), .pointer (some ⟨bp, op + x * 2, none⟩), .int .i64 y.has, .int .i64 (y.wants - y.has), .int .i64 (sm + (y.wants - y.has))]) ⟨e0, e1, e2, e3, e4, e5, e6, e7, e8, e9, e10, e11, e12, e13, e14, e15, e16, trivial⟩ rfl ?_
                        replace q2x := q2x.below hb q2x.lt
                        replace q16x := q16x.below hb q16x.lt
                        replace hin := own_below hin hb (Nat.le_refl _)
                        replace hot := own_below hot hb (Nat.le_refl _)
                        replace hbw := Below.on hbw hb hbw.size
                        replace hbL := Below.on hbL hb hbL.size
                        clear hb
                        refine EL.val (ixa_53 (k := 1) rfl rfl (by omega)) rfl ?_
                        refine EL.store rfl rfl q16x sz_3 rfl rfl rfl rfl ?_
                        intro w25 hq25 hg25
                        replace q2x := q2x.grown hg25 (fun h => n1_15 (Option.some.inj h))
                        replace hin := own_type hin q16x rfl hg25
                        replace hot := own_type hot q16x rfl hg25
                        replace hbw := below_store hbw hg25 bhbw_15
                        replace hbL := below_store hbL hg25 bhbL_15
                        replace q16x := hq25
                        clear hg25 hq25
                        refine EL.nil ?_
                        refine EX.blk ?_
                        refine EX.seq ?_
                        refine EC.region ?_
                        refine EL.val (x_move rfl) rfl ?_
                        refine EL.val (x_add rfl rfl (c := ((x + 1 : Nat) : Int)) ((IntWalk.i64_in _ ⟨by first | omega | (simp only; omega), by first | omega | (simp only; omega)⟩).trans (by first | omega | (simp only; omega)))) rfl ?_
                        refine EL.val (x_assign rfl) rfl ?_
                        refine EL.nil ?_
                        refine EX.roundD (x + 1) ⟨rfl, trivial⟩ (by repeat first | with_reducible exact Sub.refl _ | refine sub_past rfl ?_ | exact Sub.refl _ | refine sub_del rfl ?_ | refine sub_insL_nil ?_) ⟨hlt, (by rw [hsn]; exact q16x), q2x, hin, hot, hbL, hbw⟩ (by omega)
                  ·
                    have hxe : x = nt.ports.length := by omega
                    subst hxe
                    refine EC.seq ?_
                    refine EC.seq ?_
                    refine EC.region ?_
                    refine EL.val (x_move rfl) rfl ?_
                    refine EL.val (fa_25_0 rfl) rfl ?_
                    refine EL.val (ld_22 rfl (q2x.at (j := 0) rfl)) rfl ?_
                    refine EL.val (ln_22 rfl) rfl ?_
                    refine EL.val (x_lss rfl rfl (decide_eq_false (show ¬(((nt.ports.length : Nat) : Int) < ((nt.ports.length : Nat) : Int)) by omega))) rfl ?_
                    refine EL.nil ?_
                    refine EX.seq ?_
                    refine EC.no rfl ?_
                    refine EC.exit ?_
                    refine EX.seq_exit ?_
                    refine EX.seq_exit ?_
                    refine EX.blk_here ?_
                    refine EX.seq ?_
                    refine EC.seq ?_
                    refine EC.region ?_
                    refine EL.val (x_assign rfl) rfl ?_
                    refine EL.nil ?_
                    refine EX.seq ?_
                    refine EC.block ?_
                    refine EC.loopD [4, 20, 21, 192, 193, 194, 195, 196, 197, 198, 199, 200, 201, 202, 203, 204, 205, 206, 207, 208, 209, 210, 211, 212, 213, 214, 215, 216, 217, 218, 219, 220, 221, 222, 223, 224, 225, 226, 227, 228, 229, 230, 231, 232, 233, 234, 235, 236, 237, 238, 239, 240, 241, 242, 243, 244, 245] (fun x : Nat => [(20, .int .i64 (x : Nat))]) (fun x W => x ≤ nt.ways.length ∧ Blk W g15 53 #[.int .i64 (lackS nt f), .int .i64 (sumW nt (othB f xs) x)] ∧ Blk W g1 25 #[.slice Ap nt.ports.length cp_, .slice Aw nt.ways.length cw_] ∧ W.ownsRow w7.heap.size 4 1 (.slice (some ⟨gi, 0, none⟩) nt.ports.length nt.ports.length) nt.ports.length (bools (bL f nt.ports.length)) ∧ W.ownsRow w7.heap.size 4 1 (.slice (some ⟨go, 0, none⟩) nt.ports.length nt.ports.length) nt.ports.length (bools (bL (othB f xs) nt.ports.length)) ∧ Below w7.heap.size w7 W ∧ Below w.heap.size w W) (fun x => nt.ways.length - x) 0 ⟨Nat.zero_le _, (by rw [sumW_zero]; exact q16x), q2x, hin, hot, hbL, hbw⟩ ⟨rfl, trivial⟩ ?_
                    clear q16x q2x hin hot hbL hbw
                    rintro x wx ⟨hx, q16x, q2x, hin, hot, hbL, hbw⟩
                    by_cases hlt : x < nt.ways.length
                    ·
                      have hbl := bL_len (othB f xs) nt.ports.length
                      obtain ⟨bw, ow, e_, _, wc⟩ := ways_cells nt.ways x hlt _ _ _ _ _ hr.ways
                      subst e_
                      obtain ⟨⟨wf0, wf1⟩, ⟨wt0, wt1⟩, wne, ⟨wc0, wc1⟩, wr0, wr1⟩ := hvw x hlt
                      have hb1 := sumW_bd (f := (othB f xs)) hv x hx
                      have hsn := sumW_succ (nt := nt) (f := (othB f xs)) x
                      have hlb : lkB nt (othB f xs) x = ((othB f xs) (nt.ways.getD x way0).to.toNat && !(othB f xs) (nt.ways.getD x way0).fr.toNat) := rfl
                      rw [hlb] at hsn
                      obtain ⟨y, ey⟩ : ∃ z, z = nt.ways.getD x way0 := ⟨_, rfl⟩
                      rw [← ey] at wc wf0 wf1 wt0 wt1 wne wc0 wc1 wr0 wr1 hsn
                      clear ey hlb
                      obtain ⟨yf, yt, yc, yr⟩ := y
                      obtain ⟨wk0, wk1, wk2, wk3⟩ := wc
                      dsimp only at wf0 wf1 wt0 wt1 wne wc0 wc1 wr0 wr1 wk0 wk1 wk2 wk3 hsn
                      obtain ⟨f_, rfl⟩ := Int.eq_ofNat_of_zero_le wf0
                      obtain ⟨t_, rfl⟩ := Int.eq_ofNat_of_zero_le wt0
                      simp only [Int.toNat_natCast] at hsn
                      obtain ⟨sm, esm⟩ : ∃ z, z = (sumW nt (othB f xs) x) := ⟨_, rfl⟩
                      rw [← esm] at q16x hb1 hsn
                      cases hhf : (othB f xs) f_
                      ·
                        cases hht : (othB f xs) t_
                        ·
                          simp only [hhf, hht, Bool.not_false, Bool.and_true, Bool.false_eq_true, if_false, Int.sub_zero] at hsn
                          refine EC.seq ?_
                          refine EC.seq ?_
                          refine EC.region ?_
                          refine EL.val (x_move rfl) rfl ?_
                          refine EL.val (fa_25_1 rfl) rfl ?_
                          refine EL.val (ld_23 rfl (q2x.at (j := 1) rfl)) rfl ?_
                          refine EL.val (ln_23 rfl) rfl ?_
                          refine EL.val (x_lss rfl rfl (decide_eq_true (show (((x : Nat) : Int) < ((nt.ways.length : Nat) : Int)) by omega))) rfl ?_
                          refine EL.nil ?_
                          refine EX.seq ?_
                          refine EC.yes rfl ?_
                          refine EC.skip ?_
                          refine EX.seq ?_
                          refine EC.seq ?_
                          refine EC.block ?_
                          refine EC.seq ?_
                          refine EC.region ?_
                          refine EL.val (fa_25_1 rfl) rfl ?_
                          refine EL.val (ld_23 rfl (q2x.at (j := 1) rfl)) rfl ?_
                          refine EL.val (x_move rfl) rfl ?_
                          refine EL.val (ix_23 rfl rfl hlt) rfl ?_
                          refine EL.val (ld_56 rfl (below_load hbw wk0) (below_load hbw wk1) (below_load hbw wk2) (below_load hbw wk3)) rfl ?_
                          refine EL.newP al_56 rfl ?_
                          intro g26 w26 q26 hb26 hg26 hl26
                          have n1_26 : g1 ≠ g26 := Nat.ne_of_lt (Nat.lt_of_lt_of_le q2x.lt hg26)
                          have n15_26 : g15 ≠ g26 := Nat.ne_of_lt (Nat.lt_of_lt_of_le q16x.lt hg26)
                          have bhbw_26 := Nat.le_trans hbw.size hg26
                          have bhbL_26 := Nat.le_trans hbL.size hg26
                          replace q2x := q2x.below hb26 q2x.lt
                          replace q16x := q16x.below hb26 q16x.lt
                          replace hin := own_below hin hb26 (Nat.le_refl _)
                          replace hot := own_below hot hb26 (Nat.le_refl _)
                          replace hbw := Below.on hbw hb26 hbw.size
                          replace hbL := Below.on hbL hb26 hbL.size
                          clear hb26 hg26 hl26
                          refine EL.store rfl rfl q26 sz_56 rfl rfl rfl rfl ?_
                          intro w27 hq27 hg27
                          replace q2x := q2x.grown hg27 (fun h => n1_26 (Option.some.inj h))
                          replace q16x := q16x.grown hg27 (fun h => n15_26 (Option.some.inj h))
                          replace hin := own_type hin q26 rfl hg27
                          replace hot := own_type hot q26 rfl hg27
                          replace hbw := below_store hbw hg27 bhbw_26
                          replace hbL := below_store hbL hg27 bhbL_26
                          replace q26 := hq27
                          clear hg27 hq27
                          refine EL.nil ?_
                          refine EX.seq ?_
                          refine EC.seq ?_
                          refine EC.seq ?_
                          refine EC.region ?_
                          refine EL.val (fa_56_0 rfl) rfl ?_
                          refine EL.val (ld_3 rfl (q26.at (j := 0) rfl)) rfl ?_
                          refine EL.val (x_lss (r := false) rfl rfl (decide_eq_false (by omega))) rfl ?_
                          refine EL.val (x_move rfl) rfl ?_
                          refine EL.valg rfl rfl (fa_56_0 rfl) rfl ?_
                          refine EL.valg rfl rfl (ld_3 rfl (q26.at (j := 0) rfl)) rfl ?_
                          refine EL.valg rfl rfl (x_move rfl) rfl ?_
                          refine EL.valg rfl rfl (ln_51 rfl) rfl ?_
                          refine EL.valg rfl rfl (x_geq (r := false) rfl rfl (decide_eq_false (by omega))) rfl ?_
                          refine EL.val (x_pick_f rfl rfl) rfl ?_
                          refine EL.val (x_move rfl) rfl ?_
                          refine EL.valg rfl rfl (fa_56_1 rfl) rfl ?_
                          refine EL.valg rfl rfl (ld_3 rfl (q26.at (j := 1) rfl)) rfl ?_
                          refine EL.valg rfl rfl (x_lss (r := false) rfl rfl (decide_eq_false (by omega))) rfl ?_
                          refine EL.val (x_pick_f rfl rfl) rfl ?_
                          refine EL.val (x_move rfl) rfl ?_
                          refine EL.valg rfl rfl (fa_56_1 rfl) rfl ?_
                          refine EL.valg rfl rfl (ld_3 rfl (q26.at (j := 1) rfl)) rfl ?_
                          refine EL.valg rfl rfl (x_move rfl) rfl ?_
                          refine EL.valg rfl rfl (ln_51 rfl) rfl ?_
                          refine EL.valg rfl rfl (x_geq (r := false) rfl rfl (decide_eq_false (by omega))) rfl ?_
                          refine EL.val (x_pick_f rfl rfl) rfl ?_
                          refine EL.nil ?_
                          refine EX.seq ?_
                          refine EC.no rfl ?_
                          refine EC.skip ?_
                          refine EX.seq ?_
                          refine EC.seq ?_
                          refine EC.region ?_
                          have rcf := own_bool_cell hot (k := f_) (by omega)
                          rw [bL_at (by omega), hhf] at rcf
                          have rct := own_bool_cell hot (k := t_) (by omega)
                          rw [bL_at (by omega), hht] at rct
                          refine EL.val (x_move rfl) rfl ?_
                          refine EL.val (fa_56_0 rfl) rfl ?_
                          refine EL.val (ld_3 rfl (q26.at (j := 0) rfl)) rfl ?_
                          refine EL.val (ix_51 rfl rfl (show f_ < nt.ports.length by omega)) rfl ?_
                          refine EL.val (ld_4 rfl rcf) rfl ?_
                          refine EL.val (x_not rfl) rfl ?_
                          refine EL.val (x_move rfl) rfl ?_
                          refine EL.valg rfl rfl (x_move rfl) rfl ?_
                          refine EL.valg rfl rfl (fa_56_1 rfl) rfl ?_
                          refine EL.valg rfl rfl (ld_3 rfl (q26.at (j := 1) rfl)) rfl ?_
                          refine EL.valg rfl rfl (ix_51 rfl rfl (show t_ < nt.ports.length by omega)) rfl ?_
                          refine EL.valg rfl rfl (ld_4 rfl rct) rfl ?_
                          refine EL.val (x_pick_t rfl rfl) rfl ?_
                          refine EL.nil ?_
                          refine EX.seq ?_
                          refine EC.no rfl ?_
                          refine EC.skip ?_
                          refine EX.blk ?_
                          refine EX.seq ?_
                          refine EC.region ?_
                          refine EL.val (x_move rfl) rfl ?_
                          refine EL.val (x_add rfl rfl (c := ((x + 1 : Nat) : Int)) ((IntWalk.i64_in _ ⟨by first | omega | (simp only; omega), by first | omega | (simp only; omega)⟩).trans (by first | omega | (simp only; omega)))) rfl ?_
                          refine EL.val (x_assign rfl) rfl ?_
                          refine EL.nil ?_
                          refine EX.roundD (x + 1) ⟨rfl, trivial⟩ (by repeat first | with_reducible exact Sub.refl _ | refine sub_past rfl ?_ | exact Sub.refl _ | refine sub_del rfl ?_ | refine sub_insL_nil ?_) ⟨hlt, (by rw [hsn]; exact q16x), q2x, hin, hot, hbL, hbw⟩ (by omega)
                        ·
                          simp only [hhf, hht, Bool.not_false, Bool.and_true, if_true] at hsn
                          refine EC.seq ?_
                          refine EC.seq ?_
                          refine EC.region ?_
                          refine EL.val (x_move rfl) rfl ?_
                          refine EL.val (fa_25_1 rfl) rfl ?_
                          refine EL.val (ld_23 rfl (q2x.at (j := 1) rfl)) rfl ?_
                          refine EL.val (ln_23 rfl) rfl ?_
                          refine EL.val (x_lss rfl rfl (decide_eq_true (show (((x : Nat) : Int) < ((nt.ways.length : Nat) : Int)) by omega))) rfl ?_
                          refine EL.nil ?_
                          refine EX.seq ?_
                          refine EC.yes rfl ?_
                          refine EC.skip ?_
                          refine EX.seq ?_
                          refine EC.seq ?_
                          refine EC.block ?_
                          refine EC.seq ?_
                          refine EC.region ?_
                          refine EL.val (fa_25_1 rfl) rfl ?_
                          refine EL.val (ld_23 rfl (q2x.at (j := 1) rfl)) rfl ?_
                          refine EL.val (x_move rfl) rfl ?_
                          refine EL.val (ix_23 rfl rfl hlt) rfl ?_
                          refine EL.val (ld_56 rfl (below_load hbw wk0) (below_load hbw wk1) (below_load hbw wk2) (below_load hbw wk3)) rfl ?_
                          refine EL.newP al_56 rfl ?_
                          intro g28 w28 q28 hb28 hg28 hl28
                          have n1_28 : g1 ≠ g28 := Nat.ne_of_lt (Nat.lt_of_lt_of_le q2x.lt hg28)
                          have n15_28 : g15 ≠ g28 := Nat.ne_of_lt (Nat.lt_of_lt_of_le q16x.lt hg28)
                          have bhbw_28 := Nat.le_trans hbw.size hg28
                          have bhbL_28 := Nat.le_trans hbL.size hg28
                          replace q2x := q2x.below hb28 q2x.lt
                          replace q16x := q16x.below hb28 q16x.lt
                          replace hin := own_below hin hb28 (Nat.le_refl _)
                          replace hot := own_below hot hb28 (Nat.le_refl _)
                          replace hbw := Below.on hbw hb28 hbw.size
                          replace hbL := Below.on hbL hb28 hbL.size
                          clear hb28 hg28 hl28
                          refine EL.store rfl rfl q28 sz_56 rfl rfl rfl rfl ?_
                          intro w29 hq29 hg29
                          replace q2x := q2x.grown hg29 (fun h => n1_28 (Option.some.inj h))
                          replace q16x := q16x.grown hg29 (fun h => n15_28 (Option.some.inj h))
                          replace hin := own_type hin q28 rfl hg29
                          replace hot := own_type hot q28 rfl hg29
                          replace hbw := below_store hbw hg29 bhbw_28
                          replace hbL := below_store hbL hg29 bhbL_28
                          replace q28 := hq29
                          clear hg29 hq29
                          refine EL.nil ?_
                          refine EX.seq ?_
                          refine EC.seq ?_
                          refine EC.seq ?_
                          refine EC.region ?_
                          refine EL.val (fa_56_0 rfl) rfl ?_
                          refine EL.val (ld_3 rfl (q28.at (j := 0) rfl)) rfl ?_
                          refine EL.val (x_lss (r := false) rfl rfl (decide_eq_false (by omega))) rfl ?_
                          refine EL.val (x_move rfl) rfl ?_
                          refine EL.valg rfl rfl (fa_56_0 rfl) rfl ?_
                          refine EL.valg rfl rfl (ld_3 rfl (q28.at (j := 0) rfl)) rfl ?_
                          refine EL.valg rfl rfl (x_move rfl) rfl ?_
                          refine EL.valg rfl rfl (ln_51 rfl) rfl ?_
                          refine EL.valg rfl rfl (x_geq (r := false) rfl rfl (decide_eq_false (by omega))) rfl ?_
                          refine EL.val (x_pick_f rfl rfl) rfl ?_
                          refine EL.val (x_move rfl) rfl ?_
                          refine EL.valg rfl rfl (fa_56_1 rfl) rfl ?_
                          refine EL.valg rfl rfl (ld_3 rfl (q28.at (j := 1) rfl)) rfl ?_
                          refine EL.valg rfl rfl (x_lss (r := false) rfl rfl (decide_eq_false (by omega))) rfl ?_
                          refine EL.val (x_pick_f rfl rfl) rfl ?_
                          refine EL.val (x_move rfl) rfl ?_
                          refine EL.valg rfl rfl (fa_56_1 rfl) rfl ?_
                          refine EL.valg rfl rfl (ld_3 rfl (q28.at (j := 1) rfl)) rfl ?_
                          refine EL.valg rfl rfl (x_move rfl) rfl ?_
                          refine EL.valg rfl rfl (ln_51 rfl) rfl ?_
                          refine EL.valg rfl rfl (x_geq (r := false) rfl rfl (decide_eq_false (by omega))) rfl ?_
                          refine EL.val (x_pick_f rfl rfl) rfl ?_
                          refine EL.nil ?_
                          refine EX.seq ?_
                          refine EC.no rfl ?_
                          refine EC.skip ?_
                          refine EX.seq ?_
                          refine EC.seq ?_
                          refine EC.region ?_
                          have rcf := own_bool_cell hot (k := f_) (by omega)
                          rw [bL_at (by omega), hhf] at rcf
                          have rct := own_bool_cell hot (k := t_) (by omega)
                          rw [bL_at (by omega), hht] at rct
                          refine EL.val (x_move rfl) rfl ?_
                          refine EL.val (fa_56_0 rfl) rfl ?_
                          refine EL.val (ld_3 rfl (q28.at (j := 0) rfl)) rfl ?_
                          refine EL.val (ix_51 rfl rfl (show f_ < nt.ports.length by omega)) rfl ?_
                          refine EL.val (ld_4 rfl rcf) rfl ?_
                          refine EL.val (x_not rfl) rfl ?_
                          refine EL.val (x_move rfl) rfl ?_
                          refine EL.valg rfl rfl (x_move rfl) rfl ?_
                          refine EL.valg rfl rfl (fa_56_1 rfl) rfl ?_
                          refine EL.valg rfl rfl (ld_3 rfl (q28.at (j := 1) rfl)) rfl ?_
                          refine EL.valg rfl rfl (ix_51 rfl rfl (show t_ < nt.ports.length by omega)) rfl ?_
                          refine EL.valg rfl rfl (ld_4 rfl rct) rfl ?_
                          refine EL.val (x_pick_t rfl rfl) rfl ?_
                          refine EL.nil ?_
                          refine EX.seq ?_
                          refine EC.yes rfl ?_
                          have lt_1 := q2x.lt
                          have lt_15 := q16x.lt
                          have lt_28 := q28.lt
                          refine EC.regionP [[], [0], [0, 1], [], [3], [0, 1, 2, 3, 4], [0, 1, 2, 3, 4, 5], [0, 1, 2, 3, 4, 5, 6]] 6 [] (phi (fun i_ r => match i_ with | 0 => r 0 = .int .i64 (1 : Nat) | 1 => r 1 = .pointer (some ⟨g15, 0 + 1, none⟩) | 2 => r 2 = .int .i64 sm | 3 => r 3 = .pointer (some ⟨g28, 3, none⟩) | 4 => r 4 = .int .i64 yr | 5 => r 5 = .int .i64 (sm - yr) | _ => True) []) (by kernel_rfl) rfl rfl (phi_nil) (fun i_ hi_ => ?_) ?_
                          · match i_, hi_ with
                            | 0, _ =>
                              intro val w1 a hb ha hd
                              have ha := ha.sub (Sub.ins (d := 17) (Sub.nil _) rfl)
                              exact hs_val ha rfl rfl (x_move rfl) rfl rfl
                            | 1, _ =>
                              intro val w1 a hb ha hd
                              have e0 : val 0 = .int .i64 (1 : Nat) := hd 0 (memB_mem.1 rfl)
                              have ha := ha.sub (Sub.ins (d := 239) (Sub.ins (d := 16) (Sub.nil _) rfl) (dep_get rfl e0))
                              exact hs_val ha rfl rfl (ixa_53 (k := 1) rfl rfl (by omega)) rfl rfl
                            | 2, _ =>
                              intro val w1 a hb ha hd
                              have e1 : val 1 = .pointer (some ⟨g15, 0 + 1, none⟩) := hd 1 (memB_mem.1 rfl)
                              have ha := ha.sub (Sub.ins (d := 240) (Sub.nil _) (dep_get rfl e1))
                              exact hs_val ha rfl rfl (ld_3 rfl ((q16x.below hb q16x.lt).at (j := 1) rfl)) rfl rfl
                            | 3, _ =>
                              intro val w1 a hb ha hd
                              have ha := ha.sub (Sub.ins (d := 21) (Sub.nil _) rfl)
                              exact hs_val ha rfl rfl (fa_56_3 rfl) rfl rfl
                            | 4, _ =>
                              intro val w1 a hb ha hd
                              have e3 : val 3 = .pointer (some ⟨g28, 3, none⟩) := hd 3 (memB_mem.1 rfl)
                              have ha := ha.sub (Sub.ins (d := 242) (Sub.nil _) (dep_get rfl e3))
                              exact hs_val ha rfl rfl (ld_3 rfl ((q28.below hb q28.lt).at (j := 3) rfl)) rfl rfl
                            | 5, _ =>
                              intro val w1 a hb ha hd
                              have e2 : val 2 = .int .i64 sm := hd 2 (memB_mem.1 rfl)
                              have e4 : val 4 = .int .i64 yr := hd 4 (memB_mem.1 rfl)
                              have ha := ha.sub (Sub.ins (d := 243) (Sub.ins (d := 241) (Sub.nil _) (dep_get rfl e2)) (dep_get rfl e4))
                              exact hs_val ha rfl rfl (x_sub rfl rfl (c := sm - yr) (IntWalk.i64_in _ ⟨by omega, by omega⟩)) rfl rfl
                            | k + 6, h => exact absurd h (by omega)
                          · intro val wR35 hb halc hd
                            have e0 : val 0 = .int .i64 (1 : Nat) := hd 0 (by omega)
                            have e1 : val 1 = .pointer (some ⟨g15, 0 + 1, none⟩) := hd 1 (by omega)
                            have e2 : val 2 = .int .i64 sm := hd 2 (by omega)
                            have e3 : val 3 = .pointer (some ⟨g28, 3, none⟩) := hd 3 (by omega)
                            have e4 : val 4 = .int .i64 yr := hd 4 (by omega)
                            have e5 : val 5 = .int .i64 (sm - yr) := hd 5 (by omega)
                            refine EL.ends (cs := [.int .i64 (1 : Nat), .pointer (some ⟨g15, 0 + 1, none⟩), .int .i64 sm, .pointer (some ⟨g28, 3, none⟩), .int .i64 yr, .int .i64 (sm - yr)]) ⟨e0, e1, e2, e3, e4, e5, trivial⟩ rfl ?_
                            replace q2x := q2x.below hb q2x.lt
                            replace q16x := q16x.below hb q16x.lt
                            replace q28 := q28.below hb q28.lt
                            replace hin := own_below hin hb (Nat.le_refl _)
                            replace hot := own_below hot hb (Nat.le_refl _)
                            replace hbw := Below.on hbw hb hbw.size
                            replace hbL := Below.on hbL hb hbL.size
                            clear hb
                            refine EL.val (ixa_53 (k := 1) rfl rfl (by omega)) rfl ?_
                            refine EL.store rfl rfl q16x sz_3 rfl rfl rfl rfl ?_
                            intro w30 hq30 hg30
                            replace q2x := q2x.grown hg30 (fun h => n1_15 (Option.some.inj h))
                            replace q28 := q28.grown hg30 (fun h => n15_28.symm (Option.some.inj h))
                            replace hin := own_type hin q16x rfl hg30
                            replace hot := own_type hot q16x rfl hg30
                            replace hbw := below_store hbw hg30 bhbw_15
                            replace hbL := below_store hbL hg30 bhbL_15
                            replace q16x := hq30
                            clear hg30 hq30
                            refine EL.nil ?_
                            refine EX.blk ?_
                            refine EX.seq ?_
                            refine EC.region ?_
                            refine EL.val (x_move rfl) rfl ?_
                            refine EL.val (x_add rfl rfl (c := ((x + 1 : Nat) : Int)) ((IntWalk.i64_in _ ⟨by first | omega | (simp only; omega), by first | omega | (simp only; omega)⟩).trans (by first | omega | (simp only; omega)))) rfl ?_
                            refine EL.val (x_assign rfl) rfl ?_
                            refine EL.nil ?_
                            refine EX.roundD (x + 1) ⟨rfl, trivial⟩ (by repeat first | with_reducible exact Sub.refl _ | refine sub_past rfl ?_ | exact Sub.refl _ | refine sub_del rfl ?_ | refine sub_insL_nil ?_) ⟨hlt, (by rw [hsn]; exact q16x), q2x, hin, hot, hbL, hbw⟩ (by omega)
                      ·
                        simp only [hhf, Bool.not_true, Bool.and_false, Bool.false_eq_true, if_false, Int.sub_zero] at hsn
                        refine EC.seq ?_
                        refine EC.seq ?_
                        refine EC.region ?_
                        refine EL.val (x_move rfl) rfl ?_
                        refine EL.val (fa_25_1 rfl) rfl ?_
                        refine EL.val (ld_23 rfl (q2x.at (j := 1) rfl)) rfl ?_
                        refine EL.val (ln_23 rfl) rfl ?_
                        refine EL.val (x_lss rfl rfl (decide_eq_true (show (((x : Nat) : Int) < ((nt.ways.length : Nat) : Int)) by omega))) rfl ?_
                        refine EL.nil ?_
                        refine EX.seq ?_
                        refine EC.yes rfl ?_
                        refine EC.skip ?_
                        refine EX.seq ?_
                        refine EC.seq ?_
                        refine EC.block ?_
                        refine EC.seq ?_
                        refine EC.region ?_
                        refine EL.val (fa_25_1 rfl) rfl ?_
                        refine EL.val (ld_23 rfl (q2x.at (j := 1) rfl)) rfl ?_
                        refine EL.val (x_move rfl) rfl ?_
                        refine EL.val (ix_23 rfl rfl hlt) rfl ?_
                        refine EL.val (ld_56 rfl (below_load hbw wk0) (below_load hbw wk1) (below_load hbw wk2) (below_load hbw wk3)) rfl ?_
                        refine EL.newP al_56 rfl ?_
                        intro g31 w31 q31 hb31 hg31 hl31
                        have n1_31 : g1 ≠ g31 := Nat.ne_of_lt (Nat.lt_of_lt_of_le q2x.lt hg31)
                        have n15_31 : g15 ≠ g31 := Nat.ne_of_lt (Nat.lt_of_lt_of_le q16x.lt hg31)
                        have bhbw_31 := Nat.le_trans hbw.size hg31
                        have bhbL_31 := Nat.le_trans hbL.size hg31
                        replace q2x := q2x.below hb31 q2x.lt
                        replace q16x := q16x.below hb31 q16x.lt
                        replace hin := own_below hin hb31 (Nat.le_refl _)
                        replace hot := own_below hot hb31 (Nat.le_refl _)
                        replace hbw := Below.on hbw hb31 hbw.size
                        replace hbL := Below.on hbL hb31 hbL.size
                        clear hb31 hg31 hl31
                        refine EL.store rfl rfl q31 sz_56 rfl rfl rfl rfl ?_
                        intro w32 hq32 hg32
                        replace q2x := q2x.grown hg32 (fun h => n1_31 (Option.some.inj h))
                        replace q16x := q16x.grown hg32 (fun h => n15_31 (Option.some.inj h))
                        replace hin := own_type hin q31 rfl hg32
                        replace hot := own_type hot q31 rfl hg32
                        replace hbw := below_store hbw hg32 bhbw_31
                        replace hbL := below_store hbL hg32 bhbL_31
                        replace q31 := hq32
                        clear hg32 hq32
                        refine EL.nil ?_
                        refine EX.seq ?_
                        refine EC.seq ?_
                        refine EC.seq ?_
                        refine EC.region ?_
                        refine EL.val (fa_56_0 rfl) rfl ?_
                        refine EL.val (ld_3 rfl (q31.at (j := 0) rfl)) rfl ?_
                        refine EL.val (x_lss (r := false) rfl rfl (decide_eq_false (by omega))) rfl ?_
                        refine EL.val (x_move rfl) rfl ?_
                        refine EL.valg rfl rfl (fa_56_0 rfl) rfl ?_
                        refine EL.valg rfl rfl (ld_3 rfl (q31.at (j := 0) rfl)) rfl ?_
                        refine EL.valg rfl rfl (x_move rfl) rfl ?_
                        refine EL.valg rfl rfl (ln_51 rfl) rfl ?_
                        refine EL.valg rfl rfl (x_geq (r := false) rfl rfl (decide_eq_false (by omega))) rfl ?_
                        refine EL.val (x_pick_f rfl rfl) rfl ?_
                        refine EL.val (x_move rfl) rfl ?_
                        refine EL.valg rfl rfl (fa_56_1 rfl) rfl ?_
                        refine EL.valg rfl rfl (ld_3 rfl (q31.at (j := 1) rfl)) rfl ?_
                        refine EL.valg rfl rfl (x_lss (r := false) rfl rfl (decide_eq_false (by omega))) rfl ?_
                        refine EL.val (x_pick_f rfl rfl) rfl ?_
                        refine EL.val (x_move rfl) rfl ?_
                        refine EL.valg rfl rfl (fa_56_1 rfl) rfl ?_
                        refine EL.valg rfl rfl (ld_3 rfl (q31.at (j := 1) rfl)) rfl ?_
                        refine EL.valg rfl rfl (x_move rfl) rfl ?_
                        refine EL.valg rfl rfl (ln_51 rfl) rfl ?_
                        refine EL.valg rfl rfl (x_geq (r := false) rfl rfl (decide_eq_false (by omega))) rfl ?_
                        refine EL.val (x_pick_f rfl rfl) rfl ?_
                        refine EL.nil ?_
                        refine EX.seq ?_
                        refine EC.no rfl ?_
                        refine EC.skip ?_
                        refine EX.seq ?_
                        refine EC.seq ?_
                        refine EC.region ?_
                        have rcf := own_bool_cell hot (k := f_) (by omega)
                        rw [bL_at (by omega), hhf] at rcf
                        refine EL.val (x_move rfl) rfl ?_
                        refine EL.val (fa_56_0 rfl) rfl ?_
                        refine EL.val (ld_3 rfl (q31.at (j := 0) rfl)) rfl ?_
                        refine EL.val (ix_51 rfl rfl (show f_ < nt.ports.length by omega)) rfl ?_
                        refine EL.val (ld_4 rfl rcf) rfl ?_
                        refine EL.val (x_not rfl) rfl ?_
                        refine EL.val (x_move rfl) rfl ?_
                        refine EL.skip rfl rfl rfl rfl ?_
                        refine EL.skip rfl rfl rfl rfl ?_
                        refine EL.skip rfl rfl rfl rfl ?_
                        refine EL.skip rfl rfl rfl rfl ?_
                        refine EL.skip rfl rfl rfl rfl ?_
                        refine EL.val (x_pick_f rfl rfl) rfl ?_
                        refine EL.nil ?_
                        refine EX.seq ?_
                        refine EC.no rfl ?_
                        refine EC.skip ?_
                        refine EX.blk ?_
                        refine EX.seq ?_
                        refine EC.region ?_
                        refine EL.val (x_move rfl) rfl ?_
                        refine EL.val (x_add rfl rfl (c := ((x + 1 : Nat) : Int)) ((IntWalk.i64_in _ ⟨by first | omega | (simp only; omega), by first | omega | (simp only; omega)⟩).trans (by first | omega | (simp only; omega)))) rfl ?_
                        refine EL.val (x_assign rfl) rfl ?_
                        refine EL.nil ?_
                        refine EX.roundD (x + 1) ⟨rfl, trivial⟩ (by repeat first | with_reducible exact Sub.refl _ | refine sub_past rfl ?_ | exact Sub.refl _ | refine sub_del rfl ?_ | refine sub_insL_nil ?_) ⟨hlt, (by rw [hsn]; exact q16x), q2x, hin, hot, hbL, hbw⟩ (by omega)
                    ·
                      have hxe : x = nt.ways.length := by omega
                      subst hxe
                      refine EC.seq ?_
                      refine EC.seq ?_
                      refine EC.region ?_
                      refine EL.val (x_move rfl) rfl ?_
                      refine EL.val (fa_25_1 rfl) rfl ?_
                      refine EL.val (ld_23 rfl (q2x.at (j := 1) rfl)) rfl ?_
                      refine EL.val (ln_23 rfl) rfl ?_
                      refine EL.val (x_lss rfl rfl (decide_eq_false (show ¬(((nt.ways.length : Nat) : Int) < ((nt.ways.length : Nat) : Int)) by omega))) rfl ?_
                      refine EL.nil ?_
                      refine EX.seq ?_
                      refine EC.no rfl ?_
                      refine EC.exit ?_
                      refine EX.seq_exit ?_
                      refine EX.seq_exit ?_
                      refine EX.blk_here ?_
                      refine EX.blk ?_
                      refine EX.seq ?_
                      refine EC.region ?_
                      refine EL.val (x_move rfl) rfl ?_
                      refine EL.val (x_add rfl rfl (c := ((1 + 1 : Nat) : Int)) rfl) rfl ?_
                      refine EL.val (x_assign rfl) rfl ?_
                      refine EL.nil ?_
                      refine EX.roundD (1 + 1) ⟨rfl, trivial⟩ (by repeat first | with_reducible exact Sub.refl _ | refine sub_past rfl ?_ | exact Sub.refl _ | refine sub_del rfl ?_ | refine sub_insL_nil ?_) ⟨by omega, q16x, q2x, hin, hot, hbL, hbw⟩ (by omega)
                ·
                  have q16x : Blk wx g15 53 #[.int .i64 (lackS nt f), .int .i64 (lackS nt (othB f xs))] := q16x
                  refine EC.seq ?_
                  refine EC.seq ?_
                  refine EC.region ?_
                  refine EL.val (x_move rfl) rfl ?_
                  refine EL.val (x_lss rfl rfl (r := false) (by decide)) rfl ?_
                  refine EL.nil ?_
                  refine EX.seq ?_
                  refine EC.no rfl ?_
                  refine EC.exit ?_
                  refine EX.seq_exit ?_
                  refine EX.seq_exit ?_
                  refine EX.blk_here ?_
                  refine EX.seq ?_
                  refine EC.seq ?_
                  refine EC.seq ?_
                  refine EC.region ?_
                  have hal := hall (othB f xs)
                  refine EL.val (ixa_53 (k := 0) rfl rfl (by omega)) rfl ?_
                  refine EL.val (ld_3 rfl (q16x.at (j := 0) rfl)) rfl ?_
                  refine EL.val (x_move rfl) rfl ?_
                  refine EL.val (x_neq (r := false) rfl rfl (decide_eq_false (fun h => h (by omega)))) rfl ?_
                  refine EL.val (x_move rfl) rfl ?_
                  refine EL.valg rfl rfl (ixa_53 (k := 1) rfl rfl (by omega)) rfl ?_
                  refine EL.valg rfl rfl (ld_3 rfl (q16x.at (j := 1) rfl)) rfl ?_
                  refine EL.valg rfl rfl (x_move rfl) rfl ?_
                  refine EL.valg rfl rfl (x_gtr (r := false) rfl rfl (decide_eq_false (by omega))) rfl ?_
                  refine EL.val (x_pick_f rfl rfl) rfl ?_
                  refine EL.nil ?_
                  refine EX.seq ?_
                  refine EC.no rfl ?_
                  refine EC.skip ?_
                  refine EX.seq ?_
                  refine EC.seq ?_
                  refine EC.seq ?_
                  refine EC.region ?_
                  refine EL.val (x_assign rfl) rfl ?_
                  refine EL.nil ?_
                  refine EX.seq ?_
                  refine EC.block ?_
                  refine EC.loopD [4, 22, 256, 257, 258, 259, 260, 261, 262, 263, 264, 265, 266, 267, 268, 269, 270, 271, 272, 273, 274, 275, 276, 277, 278] (fun x : Nat => [(22, .int .i64 (x : Nat))]) (fun x W => x ≤ nt.ports.length ∧ Blk W g15 53 #[.int .i64 (lackS nt f), .int .i64 (lackS nt (othB f xs))] ∧ Blk W g1 25 #[.slice Ap nt.ports.length cp_, .slice Aw nt.ways.length cw_] ∧ W.ownsRow w7.heap.size 4 1 (.slice (some ⟨gi, 0, none⟩) nt.ports.length nt.ports.length) nt.ports.length (bools (bL f nt.ports.length)) ∧ W.ownsRow w7.heap.size 4 1 (.slice (some ⟨go, 0, none⟩) nt.ports.length nt.ports.length) nt.ports.length (bools (bL (othB f xs) nt.ports.length)) ∧ Below w7.heap.size w7 W ∧ Below w.heap.size w W) (fun x => nt.ports.length - x) 0 ⟨Nat.zero_le _, q16x, q2x, hin, hot, hbL, hbw⟩ ⟨rfl, trivial⟩ ?_
                  clear q16x q2x hin hot hbL hbw
                  rintro x wx ⟨hx, q16x, q2x, hin, hot, hbL, hbw⟩
                  by_cases hlt : x < nt.ports.length
                  ·
                    have hbl := bL_len f nt.ports.length
                    have hbt := bL_len (othB f xs) nt.ports.length
                    have rc := own_bool_cell hin (k := x) (by omega)
                    rw [bL_at hlt] at rc
                    have rd := own_bool_cell hot (k := x) (by omega)
                    rw [bL_at hlt] at rd
                    by_cases hsq : lackS nt (othB f xs) = lack
                    ·
                      have hin2 := hal.2 hsq x hlt
                      cases hfx : f x
                      ·
                        rw [hfx] at rc
                        refine EC.seq ?_
                        refine EC.seq ?_
                        refine EC.region ?_
                        refine EL.val (x_move rfl) rfl ?_
                        refine EL.val (x_move rfl) rfl ?_
                        refine EL.val (ln_51 rfl) rfl ?_
                        refine EL.val (x_lss rfl rfl (decide_eq_true (show (((x : Nat) : Int) < ((nt.ports.length : Nat) : Int)) by omega))) rfl ?_
                        refine EL.val (x_move rfl) rfl ?_
                        refine EL.valg rfl rfl (ixa_53 (k := 1) rfl rfl (by omega)) rfl ?_
                        refine EL.valg rfl rfl (ld_3 rfl (q16x.at (j := 1) rfl)) rfl ?_
                        refine EL.valg rfl rfl (x_move rfl) rfl ?_
                        refine EL.valg rfl rfl (x_eql (r := true) rfl rfl (decide_eq_true hsq)) rfl ?_
                        refine EL.val (x_pick_t rfl rfl) rfl ?_
                        refine EL.nil ?_
                        refine EX.seq ?_
                        refine EC.yes rfl ?_
                        refine EC.skip ?_
                        refine EX.seq ?_
                        refine EC.seq ?_
                        refine EC.block ?_
                        refine EC.seq ?_
                        refine EC.region ?_
                        refine EL.val (x_move rfl) rfl ?_
                        refine EL.val (x_move rfl) rfl ?_
                        refine EL.val (ix_51 rfl rfl hlt) rfl ?_
                        refine EL.val (ld_4 rfl rc) rfl ?_
                        refine EL.val (x_move rfl) rfl ?_
                        refine EL.skip rfl rfl rfl rfl ?_
                        refine EL.skip rfl rfl rfl rfl ?_
                        refine EL.skip rfl rfl rfl rfl ?_
                        refine EL.skip rfl rfl rfl rfl ?_
                        refine EL.skip rfl rfl rfl rfl ?_
                        refine EL.val (x_pick_f rfl rfl) rfl ?_
                        refine EL.nil ?_
                        refine EX.seq ?_
                        refine EC.no rfl ?_
                        refine EC.skip ?_
                        refine EX.blk ?_
                        refine EX.seq ?_
                        refine EC.region ?_
                        refine EL.val (x_move rfl) rfl ?_
                        refine EL.val (x_add rfl rfl (c := ((x + 1 : Nat) : Int)) ((IntWalk.i64_in _ ⟨by first | omega | (simp only; omega), by first | omega | (simp only; omega)⟩).trans (by first | omega | (simp only; omega)))) rfl ?_
                        refine EL.val (x_assign rfl) rfl ?_
                        refine EL.nil ?_
                        refine EX.roundD (x + 1) ⟨rfl, trivial⟩ (by repeat first | with_reducible exact Sub.refl _ | refine sub_past rfl ?_ | exact Sub.refl _ | refine sub_del rfl ?_ | refine sub_insL_nil ?_) ⟨hlt, q16x, q2x, hin, hot, hbL, hbw⟩ (by omega)
                      ·
                        rw [hfx] at rc
                        have ho2 := hin2 hfx
                        rw [ho2] at rd
                        refine EC.seq ?_
                        refine EC.seq ?_
                        refine EC.region ?_
                        refine EL.val (x_move rfl) rfl ?_
                        refine EL.val (x_move rfl) rfl ?_
                        refine EL.val (ln_51 rfl) rfl ?_
                        refine EL.val (x_lss rfl rfl (decide_eq_true (show (((x : Nat) : Int) < ((nt.ports.length : Nat) : Int)) by omega))) rfl ?_
                        refine EL.val (x_move rfl) rfl ?_
                        refine EL.valg rfl rfl (ixa_53 (k := 1) rfl rfl (by omega)) rfl ?_
                        refine EL.valg rfl rfl (ld_3 rfl (q16x.at (j := 1) rfl)) rfl ?_
                        refine EL.valg rfl rfl (x_move rfl) rfl ?_
                        refine EL.valg rfl rfl (x_eql (r := true) rfl rfl (decide_eq_true hsq)) rfl ?_
                        refine EL.val (x_pick_t rfl rfl) rfl ?_
                        refine EL.nil ?_
                        refine EX.seq ?_
                        refine EC.yes rfl ?_
                        refine EC.skip ?_
                        refine EX.seq ?_
                        refine EC.seq ?_
                        refine EC.block ?_
                        refine EC.seq ?_
                        refine EC.region ?_
                        refine EL.val (x_move rfl) rfl ?_
                        refine EL.val (x_move rfl) rfl ?_
                        refine EL.val (ix_51 rfl rfl hlt) rfl ?_
                        refine EL.val (ld_4 rfl rc) rfl ?_
                        refine EL.val (x_move rfl) rfl ?_
                        refine EL.valg rfl rfl (x_move rfl) rfl ?_
                        refine EL.valg rfl rfl (x_move rfl) rfl ?_
                        refine EL.valg rfl rfl (ix_51 rfl rfl hlt) rfl ?_
                        refine EL.valg rfl rfl (ld_4 rfl rd) rfl ?_
                        refine EL.valg rfl rfl (x_not rfl) rfl ?_
                        refine EL.val (x_pick_t rfl rfl) rfl ?_
                        refine EL.nil ?_
                        refine EX.seq ?_
                        refine EC.no rfl ?_
                        refine EC.skip ?_
                        refine EX.blk ?_
                        refine EX.seq ?_
                        refine EC.region ?_
                        refine EL.val (x_move rfl) rfl ?_
                        refine EL.val (x_add rfl rfl (c := ((x + 1 : Nat) : Int)) ((IntWalk.i64_in _ ⟨by first | omega | (simp only; omega), by first | omega | (simp only; omega)⟩).trans (by first | omega | (simp only; omega)))) rfl ?_
                        refine EL.val (x_assign rfl) rfl ?_
                        refine EL.nil ?_
                        refine EX.roundD (x + 1) ⟨rfl, trivial⟩ (by repeat first | with_reducible exact Sub.refl _ | refine sub_past rfl ?_ | exact Sub.refl _ | refine sub_del rfl ?_ | refine sub_insL_nil ?_) ⟨hlt, q16x, q2x, hin, hot, hbL, hbw⟩ (by omega)
                    ·
                      refine EC.seq ?_
                      refine EC.seq ?_
                      refine EC.region ?_
                      refine EL.val (x_move rfl) rfl ?_
                      refine EL.val (x_move rfl) rfl ?_
                      refine EL.val (ln_51 rfl) rfl ?_
                      refine EL.val (x_lss rfl rfl (decide_eq_true (show (((x : Nat) : Int) < ((nt.ports.length : Nat) : Int)) by omega))) rfl ?_
                      refine EL.val (x_move rfl) rfl ?_
                      refine EL.valg rfl rfl (ixa_53 (k := 1) rfl rfl (by omega)) rfl ?_
                      refine EL.valg rfl rfl (ld_3 rfl (q16x.at (j := 1) rfl)) rfl ?_
                      refine EL.valg rfl rfl (x_move rfl) rfl ?_
                      refine EL.valg rfl rfl (x_eql (r := false) rfl rfl (decide_eq_false hsq)) rfl ?_
                      refine EL.val (x_pick_t rfl rfl) rfl ?_
                      refine EL.nil ?_
                      refine EX.seq ?_
                      refine EC.no rfl ?_
                      refine EC.exit ?_
                      refine EX.seq_exit ?_
                      refine EX.seq_exit ?_
                      refine EX.blk_here ?_
                      refine EX.seq ?_
                      refine EC.seq ?_
                      refine EC.region ?_
                      refine EL.call cl_13 rfl (known_any _) ?_
                      rintro e w33 ⟨rfl, hc33⟩
                      refine ⟨_, rfl, ?_⟩
                      replace q2x := q2x.below hc33 q2x.lt
                      replace q16x := q16x.below hc33 q16x.lt
                      replace hin := own_below hin hc33 (Nat.le_refl _)
                      replace hot := own_below hot hc33 (Nat.le_refl _)
                      replace hbw := Below.on hbw hc33 hbw.size
                      replace hbL := Below.on hbL hc33 hbL.size
                      clear hc33
                      refine EL.val (x_assign rfl) rfl ?_
                      refine EL.nil ?_
                      refine EX.seq ?_
                      refine EC.ret ?_
                      exact EX.done (res1 rfl rfl) ⟨rfl, hbw⟩
                  ·
                    have hxe : x = nt.ports.length := by omega
                    subst hxe
                    refine EC.seq ?_
                    refine EC.seq ?_
                    refine EC.region ?_
                    refine EL.val (x_move rfl) rfl ?_
                    refine EL.val (x_move rfl) rfl ?_
                    refine EL.val (ln_51 rfl) rfl ?_
                    refine EL.val (x_lss rfl rfl (decide_eq_false (show ¬(((nt.ports.length : Nat) : Int) < ((nt.ports.length : Nat) : Int)) by omega))) rfl ?_
                    refine EL.val (x_move rfl) rfl ?_
                    refine EL.skip rfl rfl rfl rfl ?_
                    refine EL.skip rfl rfl rfl rfl ?_
                    refine EL.skip rfl rfl rfl rfl ?_
                    refine EL.skip rfl rfl rfl rfl ?_
                    refine EL.val (x_pick_f rfl rfl) rfl ?_
                    refine EL.nil ?_
                    refine EX.seq ?_
                    refine EC.no rfl ?_
                    refine EC.exit ?_
                    refine EX.seq_exit ?_
                    refine EX.seq_exit ?_
                    refine EX.blk_here ?_
                    refine EX.seq ?_
                    refine EC.seq ?_
                    refine EC.region ?_
                    refine EL.call cl_13 rfl (known_any _) ?_
                    rintro e w34 ⟨rfl, hc34⟩
                    refine ⟨_, rfl, ?_⟩
                    replace q2x := q2x.below hc34 q2x.lt
                    replace q16x := q16x.below hc34 q16x.lt
                    replace hin := own_below hin hc34 (Nat.le_refl _)
                    replace hot := own_below hot hc34 (Nat.le_refl _)
                    replace hbw := Below.on hbw hc34 hbw.size
                    replace hbL := Below.on hbL hc34 hbL.size
                    clear hc34
                    refine EL.val (x_assign rfl) rfl ?_
                    refine EL.nil ?_
                    refine EX.seq ?_
                    refine EC.ret ?_
                    exact EX.done (res1 rfl rfl) ⟨rfl, hbw⟩
      ·
        refine EL.callg rfl rfl (cl_27 rfl) rfl (check_to (e0 := 2) (by rw [netE, if_neg hv]) _ _ _ _ ho1.rd (Nat.le_refl _) (by omega) (by omega)) ?_
        rintro e w35 ⟨rfl, hc35⟩
        refine ⟨_, rfl, ?_⟩
        replace q1 := q1.below hc35 q1.lt
        replace hbw := Below.on hbw hc35 hbw.size
        clear hc35
        refine EL.valg rfl rfl (x_neq (r := true) rfl rfl (by decide)) rfl ?_
        refine EL.val (x_pick_f rfl rfl) rfl ?_
        refine EL.nil ?_
        refine EX.seq ?_
        refine EC.yes rfl ?_
        refine EC.seq ?_
        refine EC.region ?_
        refine EL.call cl_13 rfl (known_any _) ?_
        rintro e w36 ⟨rfl, hc36⟩
        refine ⟨_, rfl, ?_⟩
        replace q1 := q1.below hc36 q1.lt
        replace hbw := Below.on hbw hc36 hbw.size
        clear hc36
        refine EL.val (x_assign rfl) rfl ?_
        refine EL.nil ?_
        refine EX.seq ?_
        refine EC.ret ?_
        refine EX.seq_ret ?_
        exact EX.done (res1 rfl rfl) ⟨rfl, hbw⟩
end Go.Proofs.Ytabgmnmpdjnjoaa
