/- ExX17, X17: what EmptiesCostsProof needs of them (merged by trimpack.py). -/
import Derived.Test.YtabgmnmpdjnjoaaCostsT4
set_option linter.unusedVariables false
set_option linter.unusedSimpArgs false
namespace Go.Proofs.Ytabgmnmpdjnjoaa
open Go Go.RowKit
section
variable {n : Nat} {σ : Sg} {w : World} {dst : Option Tmp} {ty : TypeId} {pos : String} {af : Array Edge} {g : Option (Nat × Bool)} {x y z : Operand} {at' : Array TypeId}
theorem cl_29 {x0 : Operand} {v0 : Value} (h0 : evS σ x0 = some v0) (a : Act) (ha : Env n σ a) : (execOp a.eval ⟨dst, .call { callee := .value (.func 29), args := #[x0], argTypes := at' }, ty, pos, af, g⟩).run Try.prog w = .ok (.enter 29 #[v0]) w := by
  simp only [execOp, resolve, List.map_toArray, List.map_cons, List.map_nil, ha.eval h0]
  simp [go_sem, Act.eval]
theorem cl_13  (a : Act) (_ : Env n σ a) : (execOp a.eval ⟨dst, .call { callee := .value (.func 13), args := #[], argTypes := at' }, ty, pos, af, g⟩).run Try.prog w = .ok (.enter 13 #[]) w := by
  simp only [execOp, resolve, List.map_toArray, List.map_nil]
  simp [go_sem, Act.eval]
theorem cl_14 {x0 : Operand} {v0 : Value} (h0 : evS σ x0 = some v0) (a : Act) (ha : Env n σ a) : (execOp a.eval ⟨dst, .call { callee := .value (.func 14), args := #[x0], argTypes := at' }, ty, pos, af, g⟩).run Try.prog w = .ok (.enter 14 #[v0]) w := by
  simp only [execOp, resolve, List.map_toArray, List.map_cons, List.map_nil, ha.eval h0]
  simp [go_sem, Act.eval]
theorem cl_30 {x0 : Operand} {v0 : Value} (h0 : evS σ x0 = some v0) (a : Act) (ha : Env n σ a) : (execOp a.eval ⟨dst, .call { callee := .value (.func 30), args := #[x0], argTypes := at' }, ty, pos, af, g⟩).run Try.prog w = .ok (.enter 30 #[v0]) w := by
  simp only [execOp, resolve, List.map_toArray, List.map_cons, List.map_nil, ha.eval h0]
  simp [go_sem, Act.eval]
theorem cl_31 {x0 x1 : Operand} {v0 v1 : Value} (h0 : evS σ x0 = some v0) (h1 : evS σ x1 = some v1) (a : Act) (ha : Env n σ a) : (execOp a.eval ⟨dst, .call { callee := .value (.func 31), args := #[x0, x1], argTypes := at' }, ty, pos, af, g⟩).run Try.prog w = .ok (.enter 31 #[v0, v1]) w := by
  simp only [execOp, resolve, List.map_toArray, List.map_cons, List.map_nil, ha.eval h0, ha.eval h1]
  simp [go_sem, Act.eval]
theorem cl_16 {x0 x1 : Operand} {v0 v1 : Value} (h0 : evS σ x0 = some v0) (h1 : evS σ x1 = some v1) (a : Act) (ha : Env n σ a) : (execOp a.eval ⟨dst, .call { callee := .value (.func 16), args := #[x0, x1], argTypes := at' }, ty, pos, af, g⟩).run Try.prog w = .ok (.enter 16 #[v0, v1]) w := by
  simp only [execOp, resolve, List.map_toArray, List.map_cons, List.map_nil, ha.eval h0, ha.eval h1]
  simp [go_sem, Act.eval]
theorem cl_25 {x0 x1 : Operand} {v0 v1 : Value} (h0 : evS σ x0 = some v0) (h1 : evS σ x1 = some v1) (a : Act) (ha : Env n σ a) : (execOp a.eval ⟨dst, .call { callee := .value (.func 25), args := #[x0, x1], argTypes := at' }, ty, pos, af, g⟩).run Try.prog w = .ok (.enter 25 #[v0, v1]) w := by
  simp only [execOp, resolve, List.map_toArray, List.map_cons, List.map_nil, ha.eval h0, ha.eval h1]
  simp [go_sem, Act.eval]
theorem cl_17 {x0 : Operand} {v0 : Value} (h0 : evS σ x0 = some v0) (a : Act) (ha : Env n σ a) : (execOp a.eval ⟨dst, .call { callee := .value (.func 17), args := #[x0], argTypes := at' }, ty, pos, af, g⟩).run Try.prog w = .ok (.enter 17 #[v0]) w := by
  simp only [execOp, resolve, List.map_toArray, List.map_cons, List.map_nil, ha.eval h0]
  simp [go_sem, Act.eval]
theorem cl_19 {x0 x1 : Operand} {v0 v1 : Value} (h0 : evS σ x0 = some v0) (h1 : evS σ x1 = some v1) (a : Act) (ha : Env n σ a) : (execOp a.eval ⟨dst, .call { callee := .value (.func 19), args := #[x0, x1], argTypes := at' }, ty, pos, af, g⟩).run Try.prog w = .ok (.enter 19 #[v0, v1]) w := by
  simp only [execOp, resolve, List.map_toArray, List.map_cons, List.map_nil, ha.eval h0, ha.eval h1]
  simp [go_sem, Act.eval]
theorem cl_21 {x0 x1 : Operand} {v0 v1 : Value} (h0 : evS σ x0 = some v0) (h1 : evS σ x1 = some v1) (a : Act) (ha : Env n σ a) : (execOp a.eval ⟨dst, .call { callee := .value (.func 21), args := #[x0, x1], argTypes := at' }, ty, pos, af, g⟩).run Try.prog w = .ok (.enter 21 #[v0, v1]) w := by
  simp only [execOp, resolve, List.map_toArray, List.map_cons, List.map_nil, ha.eval h0, ha.eval h1]
  simp [go_sem, Act.eval]
end
end Go.Proofs.Ytabgmnmpdjnjoaa
set_option linter.unusedVariables false
set_option linter.unusedSimpArgs false
namespace Go.Proofs.Ytabgmnmpdjnjoaa
open Go Go.RowKit
theorem costs_three (nt : Net) (mv : List Int) : (netB nt = false ∧ costE nt mv = 2 ∧ costV nt mv = 0) ∨ (netB nt = true ∧ aftErr nt mv ≠ 0 ∧ costE nt mv = aftErr nt mv ∧ costV nt mv = 0) ∨ (netB nt = true ∧ aftErr nt mv = 0 ∧ costE nt mv = 0 ∧ costV nt mv = costL nt mv) := by
  cases hv : netB nt with
  | false =>
    have h0 : ¬netB nt = true := by rw [hv]; decide
    have hE : costE nt mv = 2 := by rw [costE, if_neg h0]
    exact .inl ⟨rfl, hE, by rw [costV, hE]; rfl⟩
  | true =>
    have hE : costE nt mv = aftErr nt mv := by rw [costE, if_pos hv]
    by_cases ha : aftErr nt mv = 0
    · exact .inr (.inr ⟨rfl, ha, by rw [hE, ha], by rw [costV, hE, if_pos ha]⟩)
    · exact .inr (.inl ⟨rfl, ha, hE, by rw [costV, hE, if_neg ha]⟩)
theorem cost_to {nt : Net} {mv : List Int} {c e : Int} (hc : costV nt mv = c) (he : costE nt mv = e) (vp vw : Value) (w : World) (B : Nat) (hr : RdNet w B vp vw nt) (hB : B ≤ w.heap.size) (hn1 : nt.ports.length ≤ 1073741824) (hn2 : nt.ways.length ≤ 1073741824) (vm : Value) (hrm : Rd w B 1 vm mv.length (ints mv)) (hn : mv.length ≤ 1073741824) :
    Calls Try.prog 31 #[.agg #[vp, vw], vm] w fun e' w' => e' = .returned (.tuple #[.int .i64 c, .int .i64 e]) ∧ Below w.heap.size w w' := hc ▸ he ▸ cost_any nt vp vw w B hr hB hn1 hn2 mv vm hrm hn
theorem rpossible_to {nt : Net} {mv : List Int} {e : Int} (h : aftErr nt mv = e) (vp vw vm : Value) (w : World) (B : Nat) (hr : RdNet w B vp vw nt) (hrm : Rd w B 1 vm mv.length (ints mv)) (hB : B ≤ w.heap.size) (hn : mv.length ≤ 1073741824) (hv : netB nt = true) :
    Calls Try.prog 19 #[.agg #[vp, vw], vm] w fun e' w' => e' = .returned (.int .i64 e) ∧ Below w.heap.size w w' := h ▸ rpossible_any nt mv vp vw vm w B hr hrm hB hn hv
set_option maxHeartbeats 2000000 in
set_option maxRecDepth 100000 in
theorem costs_law (nt : Net) (vp vw : Value) (w : World) (B : Nat) (hr : RdNet w B vp vw nt) (hB : B ≤ w.heap.size) (hm1 : nt.ports.length ≤ 9223372036854775807) (hm2 : nt.ways.length ≤ 9223372036854775807) (mv : List Int) (vm : Value) (hrm : Rd w B 1 vm mv.length (ints mv)) (hml : mv.length ≤ 9223372036854775807) :
    Calls Try.prog 8 #[.agg #[vp, vw], vm] w fun e w' => e = .returned (.bool true) ∧ Below w.heap.size w w' := by
  obtain ⟨Ap, cp_, rfl, _⟩ := hr.ports.shape
  obtain ⟨Aw, cw_, rfl, _⟩ := hr.ways.shape
  obtain ⟨Am, cm_, rfl, _⟩ := hrm.shape
  have hbw := Below.refl w.heap.size w
  refine EC.enter 93 Try.func8 rfl rfl rfl ?_
  refine EC.seq ?_
  refine EC.region ?_
  refine EL.newP (bx_25 rfl) rfl ?_
  intro g1 w1 q1 hb1 hg1 hl1
  have bhbw_1 := Nat.le_trans hbw.size hg1
  replace hbw := Below.on hbw hb1 hbw.size
  clear hb1 hg1 hl1
  refine EL.val (x_assign rfl) rfl ?_
  refine EL.nil ?_
  refine EX.seq ?_
  refine EC.seq ?_
  refine EC.seq ?_
  refine EC.region ?_
  refine EL.val (ld_25 rfl (q1.at (j := 0) rfl) (q1.at (j := 1) rfl)) rfl ?_
  cases hlg : largeB nt
  ·
    obtain ⟨hn1, hn2⟩ := largeB_no hlg
    refine EL.call (cl_29 rfl) rfl (large_to (b := false) hlg _ _ _ B (hr.below (hbw.mono hB))) ?_
    rintro e w2 ⟨rfl, hc2⟩
    refine ⟨_, rfl, ?_⟩
    replace q1 := q1.below hc2 q1.lt
    replace hbw := Below.on hbw hc2 hbw.size
    clear hc2
    refine EL.val (x_move rfl) rfl ?_
    refine EL.valg rfl rfl (x_move rfl) rfl ?_
    refine EL.valg rfl rfl (ln_29 rfl) rfl ?_
    by_cases hlong : 320 < mv.length
    ·
      refine EL.valg rfl rfl (x_gtr (r := true) rfl rfl (decide_eq_true (by omega))) rfl ?_
      refine EL.val (x_pick_f rfl rfl) rfl ?_
      refine EL.nil ?_
      refine EX.seq ?_
      refine EC.yes rfl ?_
      refine EC.seq ?_
      refine EC.region ?_
      refine EL.call cl_13 rfl (known_any _) ?_
      rintro e w3 ⟨rfl, hc3⟩
      refine ⟨_, rfl, ?_⟩
      replace q1 := q1.below hc3 q1.lt
      replace hbw := Below.on hbw hc3 hbw.size
      clear hc3
      refine EL.val (x_assign rfl) rfl ?_
      refine EL.nil ?_
      refine EX.seq ?_
      refine EC.ret ?_
      refine EX.seq_ret ?_
      exact EX.done (res1 rfl rfl) ⟨rfl, hbw⟩
    ·
      refine EL.valg rfl rfl (x_gtr (r := false) rfl rfl (decide_eq_false (by omega))) rfl ?_
      refine EL.val (x_pick_f rfl rfl) rfl ?_
      refine EL.nil ?_
      refine EX.seq ?_
      refine EC.no rfl ?_
      refine EC.skip ?_
      refine EX.seq ?_
      refine EC.seq ?_
      refine EC.region ?_
      refine EL.val (ld_25 rfl (q1.at (j := 0) rfl) (q1.at (j := 1) rfl)) rfl ?_
      refine EL.call (cl_14 rfl) rfl (copied_any nt _ _ _ B (hr.below (hbw.mono hB)) (Nat.le_trans hB hbw.size) (by omega) (by omega)) ?_
      rintro e w4 ⟨⟨vp4, vw4, rfl, hoc⟩, hc4⟩
      refine ⟨_, rfl, ?_⟩
      replace q1 := q1.below hc4 q1.lt
      replace hbw := Below.on hbw hc4 hbw.size
      clear hc4
      obtain ⟨Bp4, dp4, rfl, _⟩ := (Rd.of_own hoc.ports).shape
      obtain ⟨Bw4, dw4, rfl, _⟩ := (Rd.of_own hoc.ways).shape
      refine EL.val (x_move rfl) rfl ?_
      refine EL.call (cl_30 rfl) rfl (ints_any mv _ _ B (hrm.below (hbw.mono hB)) (Nat.le_trans hB hbw.size) (by omega)) ?_
      rintro e w5 ⟨⟨vl5, rfl, hoi⟩, hc5⟩
      refine ⟨_, rfl, ?_⟩
      replace q1 := q1.below hc5 q1.lt
      replace hoc := hoc.below hc5
      replace hbw := Below.on hbw hc5 hbw.size
      clear hc5
      obtain ⟨Al5, cl5, rfl, _⟩ := (Rd.of_own hoi).shape
      refine EL.newP al_25 rfl ?_
      intro g6 w6 q6 hb6 hg6 hl6
      have n1_6 : g1 ≠ g6 := Nat.ne_of_lt (Nat.lt_of_lt_of_le q1.lt hg6)
      have bhbw_6 := Nat.le_trans hbw.size hg6
      replace q1 := q1.below hb6 q1.lt
      replace hoc := hoc.below hb6
      replace hoi := own_below hoi hb6 (Nat.le_refl _)
      replace hbw := Below.on hbw hb6 hbw.size
      clear hb6 hg6 hl6
      refine EL.store rfl rfl q6 sz_25 rfl rfl rfl rfl ?_
      intro w7 hq7 hg7
      replace q1 := q1.grown hg7 (fun h => n1_6 (Option.some.inj h))
      replace hoc := hoc.box q6 rfl rfl hg7
      replace hoi := own_type hoi q6 rfl hg7
      replace hbw := below_store hbw hg7 bhbw_6
      replace q6 := hq7
      clear hg7 hq7
      refine EL.val (x_assign rfl) rfl ?_
      refine EL.nil ?_
      refine EX.seq ?_
      refine EC.seq ?_
      refine EC.region ?_
      refine EL.val (ld_25 rfl (q6.at (j := 0) rfl) (q6.at (j := 1) rfl)) rfl ?_
      rcases costs_three nt mv with ⟨hv, hE, hV⟩ | ⟨hv, ha, hE, hV⟩ | ⟨hv, ha, hE, hV⟩
      ·
        have hch : netE nt = 2 := by rw [netE, if_neg (by rw [hv]; decide)]
        refine EL.call (cl_27 rfl) rfl (check_to hch _ _ _ _ hoc.rd (Nat.le_refl _) (by omega) (by omega)) ?_
        rintro e w8 ⟨rfl, hc8⟩
        refine ⟨_, rfl, ?_⟩
        replace q1 := q1.below hc8 q1.lt
        replace q6 := q6.below hc8 q6.lt
        replace hoc := hoc.below hc8
        replace hoi := own_below hoi hc8 (Nat.le_refl _)
        replace hbw := Below.on hbw hc8 hbw.size
        clear hc8
        refine EL.val (x_assign rfl) rfl ?_
        refine EL.nil ?_
        refine EX.seq ?_
        refine EC.seq ?_
        refine EC.region ?_
        refine EL.val (ld_25 rfl (q6.at (j := 0) rfl) (q6.at (j := 1) rfl)) rfl ?_
        refine EL.val (x_move rfl) rfl ?_
        refine EL.call (cl_31 rfl rfl) rfl (cost_to hV hE _ _ _ _ hoc.rd (Nat.le_refl _) (by omega) (by omega) _ (Rd.of_own hoi) (by omega)) ?_
        rintro e w9 ⟨rfl, hc9⟩
        refine ⟨_, rfl, ?_⟩
        replace q1 := q1.below hc9 q1.lt
        replace q6 := q6.below hc9 q6.lt
        replace hoc := hoc.below hc9
        replace hoi := own_below hoi hc9 (Nat.le_refl _)
        replace hbw := Below.on hbw hc9 hbw.size
        clear hc9
        refine EL.val (x_move rfl) rfl ?_
        refine EL.val (x_extract rfl rfl) rfl ?_
        refine EL.val (x_extract rfl rfl) rfl ?_
        refine EL.val (x_assign rfl) rfl ?_
        refine EL.val (x_assign rfl) rfl ?_
        refine EL.nil ?_
        refine EX.seq ?_
        refine EC.seq ?_
        refine EC.seq ?_
        refine EC.region ?_
        refine EL.val (ld_25 rfl (q6.at (j := 0) rfl) (q6.at (j := 1) rfl)) rfl ?_
        refine EL.val (ld_25 rfl (q1.at (j := 0) rfl) (q1.at (j := 1) rfl)) rfl ?_
        refine EL.call (cl_16 rfl rfl) rfl (same_same nt _ _ _ _ _ _ hoc.rd ((hr.below (hbw.mono hB)).more (Nat.le_trans hB hbw.size)) (Nat.le_refl _) (by omega) (by omega)) ?_
        rintro e w10 ⟨rfl, hc10⟩
        refine ⟨_, rfl, ?_⟩
        replace q1 := q1.below hc10 q1.lt
        replace q6 := q6.below hc10 q6.lt
        replace hoc := hoc.below hc10
        replace hoi := own_below hoi hc10 (Nat.le_refl _)
        replace hbw := Below.on hbw hc10 hbw.size
        clear hc10
        refine EL.val (x_not rfl) rfl ?_
        refine EL.val (x_move rfl) rfl ?_
        refine EL.valg rfl rfl (x_move rfl) rfl ?_
        refine EL.valg rfl rfl (x_move rfl) rfl ?_
        refine EL.callg rfl rfl (cl_25 rfl rfl) rfl (equal_same mv _ _ _ _ (Rd.of_own hoi) ((hrm.below (hbw.mono hB)).more (Nat.le_trans hB hbw.size)) (Nat.le_refl _) (by omega)) ?_
        rintro e w11 ⟨rfl, hc11⟩
        refine ⟨_, rfl, ?_⟩
        replace q1 := q1.below hc11 q1.lt
        replace q6 := q6.below hc11 q6.lt
        replace hoc := hoc.below hc11
        replace hoi := own_below hoi hc11 (Nat.le_refl _)
        replace hbw := Below.on hbw hc11 hbw.size
        clear hc11
        refine EL.valg rfl rfl (x_not rfl) rfl ?_
        refine EL.val (x_pick_f rfl rfl) rfl ?_
        refine EL.nil ?_
        refine EX.seq ?_
        refine EC.no rfl ?_
        refine EC.skip ?_
        refine EX.seq ?_
        refine EC.seq ?_
        refine EC.seq ?_
        refine EC.region ?_
        refine EL.val (ld_25 rfl (q1.at (j := 0) rfl) (q1.at (j := 1) rfl)) rfl ?_
        refine EL.call (cl_17 rfl) rfl (rnet_to (b := false) hv _ _ _ B (hr.below (hbw.mono hB)) (Nat.le_trans hB hbw.size) (by omega) (by omega)) ?_
        rintro e w12 ⟨rfl, hc12⟩
        refine ⟨_, rfl, ?_⟩
        replace q1 := q1.below hc12 q1.lt
        replace q6 := q6.below hc12 q6.lt
        replace hoc := hoc.below hc12
        replace hoi := own_below hoi hc12 (Nat.le_refl _)
        replace hbw := Below.on hbw hc12 hbw.size
        clear hc12
        refine EL.val (x_not rfl) rfl ?_
        refine EL.nil ?_
        refine EX.seq ?_
        refine EC.yes rfl ?_
        refine EC.seq ?_
        refine EC.region ?_
        refine EL.val (x_move rfl) rfl ?_
        refine EL.val (x_eql (r := true) rfl rfl (decide_eq_true rfl)) rfl ?_
        refine EL.val (x_move rfl) rfl ?_
        refine EL.valg rfl rfl (x_move rfl) rfl ?_
        refine EL.valg rfl rfl (x_move rfl) rfl ?_
        refine EL.valg rfl rfl (x_eql (r := true) rfl rfl (decide_eq_true rfl)) rfl ?_
        refine EL.val (x_pick_t rfl rfl) rfl ?_
        refine EL.val (x_move rfl) rfl ?_
        refine EL.valg rfl rfl (x_move rfl) rfl ?_
        refine EL.valg rfl rfl (x_eql (r := true) rfl rfl (decide_eq_true rfl)) rfl ?_
        refine EL.val (x_pick_t rfl rfl) rfl ?_
        refine EL.val (x_move rfl) rfl ?_
        refine EL.callg rfl rfl cl_13 rfl (known_any _) ?_
        rintro e w13 ⟨rfl, hc13⟩
        refine ⟨_, rfl, ?_⟩
        replace q1 := q1.below hc13 q1.lt
        replace q6 := q6.below hc13 q6.lt
        replace hoc := hoc.below hc13
        replace hoi := own_below hoi hc13 (Nat.le_refl _)
        replace hbw := Below.on hbw hc13 hbw.size
        clear hc13
        refine EL.val (x_pick_t rfl rfl) rfl ?_
        refine EL.val (x_assign rfl) rfl ?_
        refine EL.nil ?_
        refine EX.seq ?_
        refine EC.ret ?_
        refine EX.seq_ret ?_
        exact EX.done (res1 rfl rfl) ⟨rfl, hbw⟩
      ·
        have hch : netE nt = 0 := by rw [netE, if_pos hv]
        refine EL.call (cl_27 rfl) rfl (check_to hch _ _ _ _ hoc.rd (Nat.le_refl _) (by omega) (by omega)) ?_
        rintro e w14 ⟨rfl, hc14⟩
        refine ⟨_, rfl, ?_⟩
        replace q1 := q1.below hc14 q1.lt
        replace q6 := q6.below hc14 q6.lt
        replace hoc := hoc.below hc14
        replace hoi := own_below hoi hc14 (Nat.le_refl _)
        replace hbw := Below.on hbw hc14 hbw.size
        clear hc14
        refine EL.val (x_assign rfl) rfl ?_
        refine EL.nil ?_
        refine EX.seq ?_
        refine EC.seq ?_
        refine EC.region ?_
        refine EL.val (ld_25 rfl (q6.at (j := 0) rfl) (q6.at (j := 1) rfl)) rfl ?_
        refine EL.val (x_move rfl) rfl ?_
        refine EL.call (cl_31 rfl rfl) rfl (cost_to hV hE _ _ _ _ hoc.rd (Nat.le_refl _) (by omega) (by omega) _ (Rd.of_own hoi) (by omega)) ?_
        rintro e w15 ⟨rfl, hc15⟩
        refine ⟨_, rfl, ?_⟩
        replace q1 := q1.below hc15 q1.lt
        replace q6 := q6.below hc15 q6.lt
        replace hoc := hoc.below hc15
        replace hoi := own_below hoi hc15 (Nat.le_refl _)
        replace hbw := Below.on hbw hc15 hbw.size
        clear hc15
        refine EL.val (x_move rfl) rfl ?_
        refine EL.val (x_extract rfl rfl) rfl ?_
        refine EL.val (x_extract rfl rfl) rfl ?_
        refine EL.val (x_assign rfl) rfl ?_
        refine EL.val (x_assign rfl) rfl ?_
        refine EL.nil ?_
        refine EX.seq ?_
        refine EC.seq ?_
        refine EC.seq ?_
        refine EC.region ?_
        refine EL.val (ld_25 rfl (q6.at (j := 0) rfl) (q6.at (j := 1) rfl)) rfl ?_
        refine EL.val (ld_25 rfl (q1.at (j := 0) rfl) (q1.at (j := 1) rfl)) rfl ?_
        refine EL.call (cl_16 rfl rfl) rfl (same_same nt _ _ _ _ _ _ hoc.rd ((hr.below (hbw.mono hB)).more (Nat.le_trans hB hbw.size)) (Nat.le_refl _) (by omega) (by omega)) ?_
        rintro e w16 ⟨rfl, hc16⟩
        refine ⟨_, rfl, ?_⟩
        replace q1 := q1.below hc16 q1.lt
        replace q6 := q6.below hc16 q6.lt
        replace hoc := hoc.below hc16
        replace hoi := own_below hoi hc16 (Nat.le_refl _)
        replace hbw := Below.on hbw hc16 hbw.size
        clear hc16
        refine EL.val (x_not rfl) rfl ?_
        refine EL.val (x_move rfl) rfl ?_
        refine EL.valg rfl rfl (x_move rfl) rfl ?_
        refine EL.valg rfl rfl (x_move rfl) rfl ?_
        refine EL.callg rfl rfl (cl_25 rfl rfl) rfl (equal_same mv _ _ _ _ (Rd.of_own hoi) ((hrm.below (hbw.mono hB)).more (Nat.le_trans hB hbw.size)) (Nat.le_refl _) (by omega)) ?_
        rintro e w17 ⟨rfl, hc17⟩
        refine ⟨_, rfl, ?_⟩
        replace q1 := q1.below hc17 q1.lt
        replace q6 := q6.below hc17 q6.lt
        replace hoc := hoc.below hc17
        replace hoi := own_below hoi hc17 (Nat.le_refl _)
        replace hbw := Below.on hbw hc17 hbw.size
        clear hc17
        refine EL.valg rfl rfl (x_not rfl) rfl ?_
        refine EL.val (x_pick_f rfl rfl) rfl ?_
        refine EL.nil ?_
        refine EX.seq ?_
        refine EC.no rfl ?_
        refine EC.skip ?_
        refine EX.seq ?_
        refine EC.seq ?_
        refine EC.seq ?_
        refine EC.region ?_
        refine EL.val (ld_25 rfl (q1.at (j := 0) rfl) (q1.at (j := 1) rfl)) rfl ?_
        refine EL.call (cl_17 rfl) rfl (rnet_to (b := true) hv _ _ _ B (hr.below (hbw.mono hB)) (Nat.le_trans hB hbw.size) (by omega) (by omega)) ?_
        rintro e w18 ⟨rfl, hc18⟩
        refine ⟨_, rfl, ?_⟩
        replace q1 := q1.below hc18 q1.lt
        replace q6 := q6.below hc18 q6.lt
        replace hoc := hoc.below hc18
        replace hoi := own_below hoi hc18 (Nat.le_refl _)
        replace hbw := Below.on hbw hc18 hbw.size
        clear hc18
        refine EL.val (x_not rfl) rfl ?_
        refine EL.nil ?_
        refine EX.seq ?_
        refine EC.no rfl ?_
        refine EC.skip ?_
        refine EX.seq ?_
        refine EC.seq ?_
        refine EC.seq ?_
        refine EC.region ?_
        refine EL.val (ld_25 rfl (q1.at (j := 0) rfl) (q1.at (j := 1) rfl)) rfl ?_
        refine EL.val (x_move rfl) rfl ?_
        refine EL.call (cl_19 rfl rfl) rfl (rpossible_any nt mv _ _ _ _ B (hr.below (hbw.mono hB)) (hrm.below (hbw.mono hB)) (Nat.le_trans hB hbw.size) (by omega) hv) ?_
        rintro e w19 ⟨rfl, hc19⟩
        refine ⟨_, rfl, ?_⟩
        replace q1 := q1.below hc19 q1.lt
        replace q6 := q6.below hc19 q6.lt
        replace hoc := hoc.below hc19
        replace hoi := own_below hoi hc19 (Nat.le_refl _)
        replace hbw := Below.on hbw hc19 hbw.size
        clear hc19
        refine EL.val (x_assign rfl) rfl ?_
        refine EL.nil ?_
        refine EX.seq ?_
        refine EC.seq ?_
        refine EC.region ?_
        refine EL.val (x_move rfl) rfl ?_
        refine EL.val (x_neq (r := true) rfl rfl (decide_eq_true ha)) rfl ?_
        refine EL.nil ?_
        refine EX.seq ?_
        refine EC.yes rfl ?_
        refine EC.seq ?_
        refine EC.region ?_
        refine EL.val (x_move rfl) rfl ?_
        refine EL.val (x_eql (r := true) rfl rfl (decide_eq_true rfl)) rfl ?_
        refine EL.val (x_move rfl) rfl ?_
        refine EL.valg rfl rfl (x_move rfl) rfl ?_
        refine EL.valg rfl rfl (x_move rfl) rfl ?_
        refine EL.valg rfl rfl (x_eql (r := true) rfl rfl (decide_eq_true rfl)) rfl ?_
        refine EL.val (x_pick_t rfl rfl) rfl ?_
        refine EL.val (x_move rfl) rfl ?_
        refine EL.valg rfl rfl (x_move rfl) rfl ?_
        refine EL.valg rfl rfl (x_eql (r := true) rfl rfl (decide_eq_true rfl)) rfl ?_
        refine EL.val (x_pick_t rfl rfl) rfl ?_
        refine EL.val (x_move rfl) rfl ?_
        refine EL.callg rfl rfl cl_13 rfl (known_any _) ?_
        rintro e w20 ⟨rfl, hc20⟩
        refine ⟨_, rfl, ?_⟩
        replace q1 := q1.below hc20 q1.lt
        replace q6 := q6.below hc20 q6.lt
        replace hoc := hoc.below hc20
        replace hoi := own_below hoi hc20 (Nat.le_refl _)
        replace hbw := Below.on hbw hc20 hbw.size
        clear hc20
        refine EL.val (x_pick_t rfl rfl) rfl ?_
        refine EL.val (x_assign rfl) rfl ?_
        refine EL.nil ?_
        refine EX.seq ?_
        refine EC.ret ?_
        refine EX.seq_ret ?_
        exact EX.done (res1 rfl rfl) ⟨rfl, hbw⟩
      ·
        have hch : netE nt = 0 := by rw [netE, if_pos hv]
        refine EL.call (cl_27 rfl) rfl (check_to hch _ _ _ _ hoc.rd (Nat.le_refl _) (by omega) (by omega)) ?_
        rintro e w21 ⟨rfl, hc21⟩
        refine ⟨_, rfl, ?_⟩
        replace q1 := q1.below hc21 q1.lt
        replace q6 := q6.below hc21 q6.lt
        replace hoc := hoc.below hc21
        replace hoi := own_below hoi hc21 (Nat.le_refl _)
        replace hbw := Below.on hbw hc21 hbw.size
        clear hc21
        refine EL.val (x_assign rfl) rfl ?_
        refine EL.nil ?_
        refine EX.seq ?_
        refine EC.seq ?_
        refine EC.region ?_
        refine EL.val (ld_25 rfl (q6.at (j := 0) rfl) (q6.at (j := 1) rfl)) rfl ?_
        refine EL.val (x_move rfl) rfl ?_
        refine EL.call (cl_31 rfl rfl) rfl (cost_to hV hE _ _ _ _ hoc.rd (Nat.le_refl _) (by omega) (by omega) _ (Rd.of_own hoi) (by omega)) ?_
        rintro e w22 ⟨rfl, hc22⟩
        refine ⟨_, rfl, ?_⟩
        replace q1 := q1.below hc22 q1.lt
        replace q6 := q6.below hc22 q6.lt
        replace hoc := hoc.below hc22
        replace hoi := own_below hoi hc22 (Nat.le_refl _)
        replace hbw := Below.on hbw hc22 hbw.size
        clear hc22
        refine EL.val (x_move rfl) rfl ?_
        refine EL.val (x_extract rfl rfl) rfl ?_
        refine EL.val (x_extract rfl rfl) rfl ?_
        refine EL.val (x_assign rfl) rfl ?_
        refine EL.val (x_assign rfl) rfl ?_
        refine EL.nil ?_
        refine EX.seq ?_
        refine EC.seq ?_
        refine EC.seq ?_
        refine EC.region ?_
        refine EL.val (ld_25 rfl (q6.at (j := 0) rfl) (q6.at (j := 1) rfl)) rfl ?_
        refine EL.val (ld_25 rfl (q1.at (j := 0) rfl) (q1.at (j := 1) rfl)) rfl ?_
        refine EL.call (cl_16 rfl rfl) rfl (same_same nt _ _ _ _ _ _ hoc.rd ((hr.below (hbw.mono hB)).more (Nat.le_trans hB hbw.size)) (Nat.le_refl _) (by omega) (by omega)) ?_
        rintro e w23 ⟨rfl, hc23⟩
        refine ⟨_, rfl, ?_⟩
        replace q1 := q1.below hc23 q1.lt
        replace q6 := q6.below hc23 q6.lt
        replace hoc := hoc.below hc23
        replace hoi := own_below hoi hc23 (Nat.le_refl _)
        replace hbw := Below.on hbw hc23 hbw.size
        clear hc23
        refine EL.val (x_not rfl) rfl ?_
        refine EL.val (x_move rfl) rfl ?_
        refine EL.valg rfl rfl (x_move rfl) rfl ?_
        refine EL.valg rfl rfl (x_move rfl) rfl ?_
        refine EL.callg rfl rfl (cl_25 rfl rfl) rfl (equal_same mv _ _ _ _ (Rd.of_own hoi) ((hrm.below (hbw.mono hB)).more (Nat.le_trans hB hbw.size)) (Nat.le_refl _) (by omega)) ?_
        rintro e w24 ⟨rfl, hc24⟩
        refine ⟨_, rfl, ?_⟩
        replace q1 := q1.below hc24 q1.lt
        replace q6 := q6.below hc24 q6.lt
        replace hoc := hoc.below hc24
        replace hoi := own_below hoi hc24 (Nat.le_refl _)
        replace hbw := Below.on hbw hc24 hbw.size
        clear hc24
        refine EL.valg rfl rfl (x_not rfl) rfl ?_
        refine EL.val (x_pick_f rfl rfl) rfl ?_
        refine EL.nil ?_
        refine EX.seq ?_
        refine EC.no rfl ?_
        refine EC.skip ?_
        refine EX.seq ?_
        refine EC.seq ?_
        refine EC.seq ?_
        refine EC.region ?_
        refine EL.val (ld_25 rfl (q1.at (j := 0) rfl) (q1.at (j := 1) rfl)) rfl ?_
        refine EL.call (cl_17 rfl) rfl (rnet_to (b := true) hv _ _ _ B (hr.below (hbw.mono hB)) (Nat.le_trans hB hbw.size) (by omega) (by omega)) ?_
        rintro e w25 ⟨rfl, hc25⟩
        refine ⟨_, rfl, ?_⟩
        replace q1 := q1.below hc25 q1.lt
        replace q6 := q6.below hc25 q6.lt
        replace hoc := hoc.below hc25
        replace hoi := own_below hoi hc25 (Nat.le_refl _)
        replace hbw := Below.on hbw hc25 hbw.size
        clear hc25
        refine EL.val (x_not rfl) rfl ?_
        refine EL.nil ?_
        refine EX.seq ?_
        refine EC.no rfl ?_
        refine EC.skip ?_
        refine EX.seq ?_
        refine EC.seq ?_
        refine EC.seq ?_
        refine EC.region ?_
        refine EL.val (ld_25 rfl (q1.at (j := 0) rfl) (q1.at (j := 1) rfl)) rfl ?_
        refine EL.val (x_move rfl) rfl ?_
        refine EL.call (cl_19 rfl rfl) rfl (rpossible_to ha _ _ _ _ B (hr.below (hbw.mono hB)) (hrm.below (hbw.mono hB)) (Nat.le_trans hB hbw.size) (by omega) hv) ?_
        rintro e w26 ⟨rfl, hc26⟩
        refine ⟨_, rfl, ?_⟩
        replace q1 := q1.below hc26 q1.lt
        replace q6 := q6.below hc26 q6.lt
        replace hoc := hoc.below hc26
        replace hoi := own_below hoi hc26 (Nat.le_refl _)
        replace hbw := Below.on hbw hc26 hbw.size
        clear hc26
        refine EL.val (x_assign rfl) rfl ?_
        refine EL.nil ?_
        refine EX.seq ?_
        refine EC.seq ?_
        refine EC.region ?_
        refine EL.val (x_move rfl) rfl ?_
        refine EL.val (x_neq (r := false) rfl rfl (decide_eq_false (fun h => h rfl))) rfl ?_
        refine EL.nil ?_
        refine EX.seq ?_
        refine EC.no rfl ?_
        refine EC.skip ?_
        refine EX.seq ?_
        refine EC.seq ?_
        refine EC.region ?_
        refine EL.val (x_move rfl) rfl ?_
        refine EL.val (x_eql (r := true) rfl rfl (decide_eq_true rfl)) rfl ?_
        refine EL.val (x_move rfl) rfl ?_
        refine EL.valg rfl rfl (x_move rfl) rfl ?_
        refine EL.valg rfl rfl (x_eql (r := true) rfl rfl (decide_eq_true rfl)) rfl ?_
        refine EL.val (x_pick_t rfl rfl) rfl ?_
        refine EL.val (x_move rfl) rfl ?_
        refine EL.valg rfl rfl (x_move rfl) rfl ?_
        refine EL.valg rfl rfl (ld_25 rfl (q1.at (j := 0) rfl) (q1.at (j := 1) rfl)) rfl ?_
        refine EL.valg rfl rfl (x_move rfl) rfl ?_
        refine EL.callg rfl rfl (cl_21 rfl rfl) rfl (rcost_any nt mv _ _ _ _ B (hr.below (hbw.mono hB)) (hrm.below (hbw.mono hB)) (Nat.le_trans hB hbw.size) hv ha) ?_
        rintro e w27 ⟨rfl, hc27⟩
        refine ⟨_, rfl, ?_⟩
        replace q1 := q1.below hc27 q1.lt
        replace q6 := q6.below hc27 q6.lt
        replace hoc := hoc.below hc27
        replace hoi := own_below hoi hc27 (Nat.le_refl _)
        replace hbw := Below.on hbw hc27 hbw.size
        clear hc27
        refine EL.valg rfl rfl (x_eql (r := true) rfl rfl (decide_eq_true rfl)) rfl ?_
        refine EL.val (x_pick_t rfl rfl) rfl ?_
        refine EL.val (x_move rfl) rfl ?_
        refine EL.callg rfl rfl cl_13 rfl (known_any _) ?_
        rintro e w28 ⟨rfl, hc28⟩
        refine ⟨_, rfl, ?_⟩
        replace q1 := q1.below hc28 q1.lt
        replace q6 := q6.below hc28 q6.lt
        replace hoc := hoc.below hc28
        replace hoi := own_below hoi hc28 (Nat.le_refl _)
        replace hbw := Below.on hbw hc28 hbw.size
        clear hc28
        refine EL.val (x_pick_t rfl rfl) rfl ?_
        refine EL.val (x_assign rfl) rfl ?_
        refine EL.nil ?_
        refine EX.seq ?_
        refine EC.ret ?_
        exact EX.done (res1 rfl rfl) ⟨rfl, hbw⟩
  ·
    refine EL.call (cl_29 rfl) rfl (large_to (b := true) hlg _ _ _ B (hr.below (hbw.mono hB))) ?_
    rintro e w29 ⟨rfl, hc29⟩
    refine ⟨_, rfl, ?_⟩
    replace q1 := q1.below hc29 q1.lt
    replace hbw := Below.on hbw hc29 hbw.size
    clear hc29
    refine EL.val (x_move rfl) rfl ?_
    refine EL.skip rfl rfl rfl rfl ?_
    refine EL.skip rfl rfl rfl rfl ?_
    refine EL.skip rfl rfl rfl rfl ?_
    refine EL.val (x_pick_t rfl rfl) rfl ?_
    refine EL.nil ?_
    refine EX.seq ?_
    refine EC.yes rfl ?_
    refine EC.seq ?_
    refine EC.region ?_
    refine EL.call cl_13 rfl (known_any _) ?_
    rintro e w30 ⟨rfl, hc30⟩
    refine ⟨_, rfl, ?_⟩
    replace q1 := q1.below hc30 q1.lt
    replace hbw := Below.on hbw hc30 hbw.size
    clear hc30
    refine EL.val (x_assign rfl) rfl ?_
    refine EL.nil ?_
    refine EX.seq ?_
    refine EC.ret ?_
    refine EX.seq_ret ?_
    exact EX.done (res1 rfl rfl) ⟨rfl, hbw⟩
section
variable {n : Nat} {σ : Sg} {w : World} {dst : Option Tmp} {ty : TypeId} {t' : TypeId} {pos : String} {af : Array Edge} {g : Option (Nat × Bool)} {x y z : Operand}
end
end Go.Proofs.Ytabgmnmpdjnjoaa
