/- X34, EmLeast, ExX35, X35, ELift3: what EmptiesOverWeeksProof needs of them (merged by trimpack.py). -/
import Derived.Test.YtabgmnmpdjnjoaaOverWeeksT4
set_option linter.unusedVariables false
set_option linter.unusedSimpArgs false
namespace Go.Proofs.Ytabgmnmpdjnjoaa
open Go Go.RowKit
theorem contains_val_to {l : List Value} {pred : Value → Bool} {b : Bool} (h : l.any pred = b) (p0 v : Value) (w : World) (B : Nat) (hr : Rd w B 1 v l.length l) (hB : B ≤ w.heap.size) (hn : l.length ≤ 9223372036854775806) (hsl : ∀ x ∈ l, ∃ m A c, x = .slice A m c) (hf : ∀ x ∈ l, ∀ W, Below w.heap.size w W → Calls Try.prog 60 #[x, p0] W fun e w' => e = .returned (.bool (pred x)) ∧ Below W.heap.size W w') :
    Calls Try.prog 59 #[v, .func (.func 60) #[] #[p0]] w fun e w' => e = .returned (.bool b) ∧ Below w.heap.size w w' := h ▸ contains_val l pred p0 v w B hr hB hn hsl hf
theorem contains_run_to {l : List Run} {pred : Run → Bool} {b : Bool} (h : l.any pred = b) (p0 v : Value) (w : World) (B : Nat) (hr : Rd w B 5 v l.length (runsC l)) (hB : B ≤ w.heap.size) (hn : l.length ≤ 9223372036854775806) (hf : ∀ x ∈ l, ∀ W, Below w.heap.size w W → Calls Try.prog 63 #[.agg #[.int .i64 x.y.fr, .int .i64 x.y.to, .int .i64 x.y.cost, .int .i64 x.y.room, .int .i64 x.wk], p0] W fun e w' => e = .returned (.bool (pred x)) ∧ Below W.heap.size W w') :
    Calls Try.prog 62 #[v, .func (.func 63) #[] #[p0]] w fun e w' => e = .returned (.bool b) ∧ Below w.heap.size w w' := h ▸ contains_run l pred p0 v w B hr hB hn hf
theorem len2 {x : Value} {P b : Nat} {w : World} (h : ∃ m A c, x = .slice A m c) (hp : w.cell? ⟨b, 0, none⟩ = some (.int .i64 (P : Nat))) : Calls Try.prog 60 #[x, .pointer (some ⟨b, 0, none⟩)] w fun e w' => e = .returned (.bool (decide (sliceLen x ≠ P))) ∧ Below w.heap.size w w' := by
  obtain ⟨m, A, c, rfl⟩ := h
  exact len1 A m c P b w hp
theorem RdPlan.slices {w : World} {B : Nat} {vp vr vs : Value} {pl : Plan} {us : List Value} (h : RdPlan w B vp vr vs pl us) : ∀ x ∈ us, ∃ m A c, x = .slice A m c := fun x hx => by
  obtain ⟨i, hi, rfl⟩ := List.getElem_of_mem hx
  have hl := h.prts.len
  obtain ⟨_, A, c, e, _⟩ := h.prts.row i (by omega)
  rw [getD_in hi] at e
  exact ⟨_, A, c, e⟩
theorem all_nn {α : Type} {l : List α} {p : α → Bool} : (!l.all p) = l.any (fun x => !p x) := by
  rw [List.all_eq_not_any_not]; simp
theorem cnt_step {P W : Nat} {r : List Run} {x : Nat} (h : x < r.length) : cntTo P W r (x + 1) = cntTo P W r x + runCnt W (r.getD x run0) := by
  unfold cntTo
  rw [sumL_take (d := run0) h, Int.add_assoc]
theorem run_rng {W : Nat} {x : Run} (h1 : 1 ≤ W) (h2 : W ≤ 12) : 0 ≤ runCnt W x ∧ runCnt W x ≤ 12 := by
  unfold runCnt
  split
  · rename_i h
    have := inB_iff.1 h
    omega
  · omega
theorem cnt_rng {P W : Nat} {r : List Run} {x : Nat} (h1 : 1 ≤ W) (h2 : W ≤ 12) (hx : x ≤ r.length) : (P : Int) * ((W : Int) - 1) ≤ cntTo P W r x ∧ cntTo P W r x ≤ (P : Int) * ((W : Int) - 1) + (x : Int) * 12 := by
  unfold cntTo
  have h3 := sumL_nn (h := runCnt W) (l := r.take x) fun a _ => (run_rng h1 h2).1
  have h4 := sumL_le (h := runCnt W) (l := r.take x) (n := 12) fun a _ => (run_rng h1 h2).2
  rw [List.length_take, Nat.min_eq_left hx] at h4
  omega
theorem mul_rng {P n : Nat} {a : Int} (h0 : 0 ≤ a) (h1 : a ≤ n) (hs : P * n ≤ 60) : 0 ≤ a * (P : Int) ∧ a * (P : Int) ≤ 1000000 := by
  have h2 := mulle P h1
  have h3 : (n : Int) * (P : Int) = ((P * n : Nat) : Int) := by rw [Int.natCast_mul, Int.mul_comm]
  exact ⟨Int.mul_nonneg h0 (by omega), by omega⟩
theorem wks_mono {P W : Nat} {s : List Int} {r : List Run} {k : Nat} : ∀ {V : Nat}, k ≤ V → (wksTo P W s r k).length ≤ (wksTo P W s r V).length := fun {V} h => by
  induction V with
  | zero => rw [Nat.le_zero.1 h]; exact Nat.le_refl _
  | succ V ih =>
    by_cases e : k = V + 1
    · rw [e]; exact Nat.le_refl _
    · refine Nat.le_trans (ih (by omega)) ?_
      rw [wksTo, List.length_append]
      exact Nat.le_add_right _ _
theorem wk_lim {pl : Plan} (h : PlanOk pl) {k : Nat} (hk : k + 1 ≤ pl.prts.length) : (wksTo pl.store.length pl.prts.length pl.store pl.runs k).length ≤ 300 := by
  obtain ⟨_, h3, _⟩ := netB_ok h.net
  exact Nat.le_trans (wks_mono (show k ≤ pl.prts.length - 1 by omega)) h3
theorem rn_len {P W k : Nat} {r : List Run} {x : Nat} : (rnL P W k (r.take x)).length ≤ (rnL P W k r).length := by
  have e : r = r.take x ++ r.drop x := (List.take_append_drop x r).symm
  have h : rnL P W k r = rnL P W k (r.take x) ++ rnL P W k (r.drop x) := by
    unfold rnL
    rw [← List.map_append, ← List.filter_append, ← e]
  rw [h, List.length_append]
  exact Nat.le_add_right _ _
theorem st_len {P k x : Nat} {s : List Int} : (stL P k s x).length = x := by simp [stL]
theorem rn_lim {pl : Plan} (h : PlanOk pl) {k x : Nat} (hk : k + 2 ≤ pl.prts.length) (hx : x ≤ pl.runs.length) : (wksTo pl.store.length pl.prts.length pl.store pl.runs k ++ stL pl.store.length k pl.store pl.store.length ++ rnL pl.store.length pl.prts.length k (pl.runs.take x)).length ≤ 300 := by
  have h1 := wk_lim h (k := k + 1) (by omega)
  rw [wksTo, wkL, List.length_append, List.length_append] at h1
  have h2 := rn_len (P := pl.store.length) (W := pl.prts.length) (k := k) (r := pl.runs) (x := x)
  rw [List.length_append, List.length_append]
  omega
theorem st_lim {pl : Plan} (h : PlanOk pl) {k x : Nat} (hk : k + 2 ≤ pl.prts.length) (hx : x ≤ pl.store.length) : (wksTo pl.store.length pl.prts.length pl.store pl.runs k ++ stL pl.store.length k pl.store x).length ≤ 300 := by
  have h1 := wk_lim h (k := k + 1) (by omega)
  rw [wksTo, wkL, List.length_append, List.length_append, st_len] at h1
  rw [List.length_append, st_len]
  omega
set_option maxHeartbeats 4000000 in
set_option maxRecDepth 100000 in
theorem expand_any (pl : Plan) (us : List Value) (vp vr vs : Value) (w : World) (B : Nat) (hr : RdPlan w B vp vr vs pl us) (hB : B ≤ w.heap.size) (hl1 : pl.prts.length ≤ 1000) (hl2 : pl.store.length ≤ 1000) (hl3 : pl.runs.length ≤ 1000) :
    Calls Try.prog 35 #[.agg #[vp, vr, vs]] w fun e w' => (∃ v1 v2 er, e = .returned (.tuple #[.agg #[v1, v2], .int .i64 er]) ∧ er = planE pl ∧ ((er = 0 ∧ OwnNet w' w.heap.size v1 v2 (expN pl)) ∨ (er ≠ 0 ∧ v1 = .slice none 0 0 ∧ v2 = .slice none 0 0))) ∧ Below w.heap.size w w' := by
  obtain ⟨App, cpp, rfl, _⟩ := hr.prts.rd.shape
  obtain ⟨Arr, crr, rfl, _⟩ := hr.runs.shape
  obtain ⟨Ass, css, rfl, _⟩ := hr.store.shape
  have hbw := Below.refl w.heap.size w
  refine EC.enter 140 Try.func35 rfl rfl rfl ?_
  refine EC.seq ?_
  refine EC.region ?_
  refine EL.newP (bx_67 rfl) rfl ?_
  intro g1 w1 q1 hb1 hg1 hl1
  have bhbw_1 := Nat.le_trans hbw.size hg1
  replace hbw := Below.on hbw hb1 hbw.size
  clear hb1 hg1 hl1
  refine EL.newP al_25 rfl ?_
  intro g2 w2 q2 hb2 hg2 hl2
  have n1_2 : g1 ≠ g2 := Nat.ne_of_lt (Nat.lt_of_lt_of_le q1.lt hg2)
  have bhbw_2 := Nat.le_trans hbw.size hg2
  replace q1 := q1.below hb2 q1.lt
  replace hbw := Below.on hbw hb2 hbw.size
  clear hb2 hg2 hl2
  refine EL.val (x_assign rfl) rfl ?_
  refine EL.nil ?_
  refine EX.seq ?_
  refine EC.seq ?_
  have lt_1 := q1.lt
  have lt_2 := q2.lt
  refine EC.regionS [[], [0], [0, 1], [], [3], [3, 4], [], [0, 1, 2, 6], [0, 1, 2, 3, 4, 5, 6, 7]] 8 [6] [7] (fun _ w_ => Below w2.heap.size w2 w_) (phiS (fun i_ r => match i_ with | 0 => r 0 = .pointer (some ⟨g1, 2, none⟩) | 1 => r 1 = .slice Ass pl.store.length css | 2 => r 2 = .int .i64 (pl.store.length : Nat) | 3 => r 3 = .pointer (some ⟨g1, 0, none⟩) | 4 => r 4 = .slice App pl.prts.length cpp | 5 => r 5 = .int .i64 (pl.prts.length : Nat) | _ => True) [(6, fun fl r w_ => ∃ g_, r 6 = .pointer (some ⟨g_, 0, none⟩) ∧ w2.heap.size ≤ g_ ∧ (fl 7 = false → Blk w_ g_ 3 #[.int .i64 0])), (7, fun _ r w_ => ∃ g_, r 6 = .pointer (some ⟨g_, 0, none⟩) ∧ Blk w_ g_ 3 #[.int .i64 (pl.store.length : Nat)])]) (by kernel_rfl) rfl rfl (by intro i hi; simp at hi; first | (subst hi; exact ⟨by simp, by omega⟩) | (rcases hi with rfl | rfl | rfl <;> exact ⟨by simp, by omega⟩) | (rcases hi with rfl | rfl <;> exact ⟨by simp, by omega⟩)) (base_below w2) (phiS_cons monoS_alloc (phiS_cons monoS_store (phiS_nil))) (fun i_ hi_ hs_ => ?_) (fun i_ hi_ => ?_) ?_
  · match i_, hi_ with
    | 0, _ =>
      intro val fl w1 a hb ha hd hfl
      have ha := ha.sub (Sub.ins (d := 1) (Sub.nil _) rfl)
      exact ss_val ha rfl rfl (fa_67_2 rfl) rfl rfl
    | 1, _ =>
      intro val fl w1 a hb ha hd hfl
      have e0 : val 0 = .pointer (some ⟨g1, 2, none⟩) := hd 0 (memB_mem.1 rfl)
      have ha := ha.sub (Sub.ins (d := 16) (Sub.nil _) (dep_get rfl e0))
      exact ss_val ha rfl rfl (ld_29 rfl ((q1.below hb q1.lt).at (j := 2) rfl)) rfl rfl
    | 2, _ =>
      intro val fl w1 a hb ha hd hfl
      have e1 : val 1 = .slice Ass pl.store.length css := hd 1 (memB_mem.1 rfl)
      have ha := ha.sub (Sub.ins (d := 17) (Sub.nil _) (dep_get rfl e1))
      exact ss_val ha rfl rfl (ln_29 rfl) rfl rfl
    | 3, _ =>
      intro val fl w1 a hb ha hd hfl
      have ha := ha.sub (Sub.ins (d := 1) (Sub.nil _) rfl)
      exact ss_val ha rfl rfl (fa_67_0 rfl) rfl rfl
    | 4, _ =>
      intro val fl w1 a hb ha hd hfl
      have e3 : val 3 = .pointer (some ⟨g1, 0, none⟩) := hd 3 (memB_mem.1 rfl)
      have ha := ha.sub (Sub.ins (d := 19) (Sub.nil _) (dep_get rfl e3))
      exact ss_val ha rfl rfl (ld_64 rfl ((q1.below hb q1.lt).at (j := 0) rfl)) rfl rfl
    | 5, _ =>
      intro val fl w1 a hb ha hd hfl
      have e4 : val 4 = .slice App pl.prts.length cpp := hd 4 (memB_mem.1 rfl)
      have ha := ha.sub (Sub.ins (d := 20) (Sub.nil _) (dep_get rfl e4))
      exact ss_val ha rfl rfl (ln_64 rfl) rfl rfl
    | 6, _ =>
      intro val fl w1 a hb ha hd hfl
      have ha := ha.sub (Sub.nil _)
      exact ss_newP ha rfl rfl al_3 (fun g w' hq _ hge => ⟨g, rfl, Nat.le_trans hb.size hge, fun _ => hq⟩)
    | 7, _ =>
      exact absurd (by simp) hs_
    | k + 8, h => exact absurd h (by omega)
  · simp only [List.mem_singleton] at hi_; subst hi_
    intro val fl w1 a hb hfi ha hd hfl
    obtain ⟨g6_, e6, hg6_, q6_⟩ := hd 6 (memB_mem.1 rfl)
    change val 6 = _ at e6
    have e2 : val 2 = .int .i64 (pl.store.length : Nat) := hd 2 (memB_mem.1 rfl)
    have ha := ha.sub (Sub.ins (d := 18) (Sub.ins (d := 4) (Sub.nil _) (dep_get rfl e6)) (dep_get rfl e2))
    refine ts_store ha rfl rfl rfl (q6_ hfi) sz_3 rfl rfl rfl rfl ?_
    intro w' hq hgr
    refine ⟨undef, rfl, hgr.size, below_store hb hgr hg6_, ⟨g6_, e6, hq⟩, fun j _ hj hn hA => ?_⟩
    exact phiS_cons_st (C := fun j => j ≠ 7 ∧ 7 ∉ clsAt [[], [0], [0, 1], [], [3], [3, 4], [], [0, 1, 2, 6], [0, 1, 2, 3, 4, 5, 6, 7]] j ∧ ∀ p ∈ [6], (p = j ∨ p ∈ clsAt [[], [0], [0, 1], [], [3], [3, 4], [], [0, 1, 2, 6], [0, 1, 2, 3, 4, 5, 6, 7]] j) → ∀ q ∈ [6], (q = 7 ∨ q ∈ clsAt [[], [0], [0, 1], [], [3], [3, 4], [], [0, 1, 2, 6], [0, 1, 2, 3, 4, 5, 6, 7]] 7) → p ≠ q → val p ≠ val q) (fun _ ⟨g, h1, h2, _⟩ => ⟨g, h1, h2, fun h => by rw [fset_eq] at h; cases h⟩) (phiS_cons_st (C := fun j => j ≠ 7 ∧ 7 ∉ clsAt [[], [0], [0, 1], [], [3], [3, 4], [], [0, 1, 2, 6], [0, 1, 2, 3, 4, 5, 6, 7]] j ∧ ∀ p ∈ [6], (p = j ∨ p ∈ clsAt [[], [0], [0, 1], [], [3], [3, 4], [], [0, 1, 2, 6], [0, 1, 2, 3, 4, 5, 6, 7]] j) → ∀ q ∈ [6], (q = 7 ∨ q ∈ clsAt [[], [0], [0, 1], [], [3], [3, 4], [], [0, 1, 2, 6], [0, 1, 2, 3, 4, 5, 6, 7]] 7) → p ≠ q → val p ≠ val q) (fun hc => absurd rfl hc.1) (fun _ _ h => h)) j ⟨hj, hn, hA⟩
  · intro val fl wR1 hfl hb halc hd
    have e0 : val 0 = .pointer (some ⟨g1, 2, none⟩) := hd 0 (by omega)
    have e1 : val 1 = .slice Ass pl.store.length css := hd 1 (by omega)
    have e2 : val 2 = .int .i64 (pl.store.length : Nat) := hd 2 (by omega)
    have e3 : val 3 = .pointer (some ⟨g1, 0, none⟩) := hd 3 (by omega)
    have e4 : val 4 = .slice App pl.prts.length cpp := hd 4 (by omega)
    have e5 : val 5 = .int .i64 (pl.prts.length : Nat) := hd 5 (by omega)
    obtain ⟨ga6_1, e6, qa6_1⟩ := hd 7 (by omega)
    change val 6 = _ at e6
    refine EL.ends (cs := [.pointer (some ⟨g1, 2, none⟩), .slice Ass pl.store.length css, .int .i64 (pl.store.length : Nat), .pointer (some ⟨g1, 0, none⟩), .slice App pl.prts.length cpp, .int .i64 (pl.prts.length : Nat), .pointer (some ⟨ga6_1, 0, none⟩), val 7]) ⟨e0, e1, e2, e3, e4, e5, e6, rfl, trivial⟩ rfl ?_
    replace q1 := q1.below hb q1.lt
    replace q2 := q2.below hb q2.lt
    have bge3 := alc_ge halc (i := 6) rfl rfl e6
    have n1_3 : g1 ≠ ga6_1 := Nat.ne_of_lt (Nat.lt_of_lt_of_le lt_1 bge3)
    have n2_3 : g2 ≠ ga6_1 := Nat.ne_of_lt (Nat.lt_of_lt_of_le lt_2 bge3)
    have bhbw_3 := Nat.le_trans hbw.size bge3
    replace hbw := Below.on hbw hb hbw.size
    refine EL.val (x_assign rfl) rfl ?_
    refine EL.nil ?_
    refine EX.seq ?_
    refine EC.seq ?_
    refine EC.seq ?_
    refine EC.region ?_
    refine EL.val (x_move rfl) rfl ?_
    refine EL.newS (bs_29_1 rfl) rfl ?_
    intro g4 w4 q4 hb4 hg4 hl4
    have n1_4 : g1 ≠ g4 := Nat.ne_of_lt (Nat.lt_of_lt_of_le q1.lt hg4)
    have n2_4 : g2 ≠ g4 := Nat.ne_of_lt (Nat.lt_of_lt_of_le q2.lt hg4)
    have n3_4 : ga6_1 ≠ g4 := Nat.ne_of_lt (Nat.lt_of_lt_of_le qa6_1.lt hg4)
    have bhbw_4 := Nat.le_trans hbw.size hg4
    replace q1 := q1.below hb4 q1.lt
    replace q2 := q2.below hb4 q2.lt
    replace qa6_1 := qa6_1.below hb4 qa6_1.lt
    replace hbw := Below.on hbw hb4 hbw.size
    clear hb4 hg4 hl4
    cases h1 : inB 1 12 ((pl.prts.length : Nat) : Int)
    ·
      refine EL.call (cl_52 rfl rfl rfl) rfl (within_1 q4 h1) ?_
      rintro e w5 ⟨rfl, hc5⟩
      refine ⟨_, rfl, ?_⟩
      replace q1 := q1.below hc5 q1.lt
      replace q2 := q2.below hc5 q2.lt
      replace qa6_1 := qa6_1.below hc5 qa6_1.lt
      replace q4 := q4.below hc5 q4.lt
      replace hbw := Below.on hbw hc5 hbw.size
      clear hc5
      refine EL.val (x_not rfl) rfl ?_
      refine EL.val (x_move rfl) rfl ?_
      refine EL.skip rfl rfl rfl rfl ?_
      refine EL.skip rfl rfl rfl rfl ?_
      refine EL.val (x_pick_t rfl rfl) rfl ?_
      refine EL.val (x_move rfl) rfl ?_
      refine EL.skip rfl rfl rfl rfl ?_
      refine EL.skip rfl rfl rfl rfl ?_
      refine EL.skip rfl rfl rfl rfl ?_
      refine EL.skip rfl rfl rfl rfl ?_
      refine EL.val (x_pick_t rfl rfl) rfl ?_
      refine EL.nil ?_
      refine EX.seq ?_
      refine EC.yes rfl ?_
      refine EC.seq ?_
      refine EC.region ?_
      refine EL.val (ld_25 rfl (q2.at (j := 0) rfl) (q2.at (j := 1) rfl)) rfl ?_
      refine EL.store rfl rfl q2 sz_25 rfl rfl rfl rfl ?_
      intro w6 hq6 hg6
      replace q1 := q1.grown hg6 (fun h => n1_2 (Option.some.inj h))
      replace qa6_1 := qa6_1.grown hg6 (fun h => n2_3.symm (Option.some.inj h))
      replace q4 := q4.grown hg6 (fun h => n2_4.symm (Option.some.inj h))
      replace hbw := below_store hbw hg6 bhbw_2
      replace q2 := hq6
      clear hg6 hq6
      refine EL.val (x_assign rfl) rfl ?_
      refine EL.nil ?_
      refine EX.seq ?_
      refine EC.ret ?_
      refine EX.seq_ret ?_
      exact EX.done (resct rfl rfl rfl (lv_25 (q2.at (j := 0) rfl) (q2.at (j := 1) rfl))) ⟨⟨_, _, 4, rfl, (by rw [planE, if_neg (by unfold shapeB; rw [h1]; simp)]), .inr ⟨by decide, rfl, rfl⟩⟩, hbw⟩
    ·
      refine EL.call (cl_52 rfl rfl rfl) rfl (within_1 q4 h1) ?_
      rintro e w7 ⟨rfl, hc7⟩
      refine ⟨_, rfl, ?_⟩
      replace q1 := q1.below hc7 q1.lt
      replace q2 := q2.below hc7 q2.lt
      replace qa6_1 := qa6_1.below hc7 qa6_1.lt
      replace q4 := q4.below hc7 q4.lt
      replace hbw := Below.on hbw hc7 hbw.size
      clear hc7
      refine EL.val (x_not rfl) rfl ?_
      refine EL.val (x_move rfl) rfl ?_
      refine EL.valg rfl rfl (ld_3 rfl (qa6_1.at (j := 0) rfl)) rfl ?_
      by_cases hp0 : pl.store.length = 0
      ·
        refine EL.valg rfl rfl (x_eql (r := true) rfl rfl (decide_eq_true (by omega))) rfl ?_
        refine EL.val (x_pick_f rfl rfl) rfl ?_
        refine EL.val (x_move rfl) rfl ?_
        refine EL.skip rfl rfl rfl rfl ?_
        refine EL.skip rfl rfl rfl rfl ?_
        refine EL.skip rfl rfl rfl rfl ?_
        refine EL.skip rfl rfl rfl rfl ?_
        refine EL.val (x_pick_t rfl rfl) rfl ?_
        refine EL.nil ?_
        refine EX.seq ?_
        refine EC.yes rfl ?_
        refine EC.seq ?_
        refine EC.region ?_
        refine EL.val (ld_25 rfl (q2.at (j := 0) rfl) (q2.at (j := 1) rfl)) rfl ?_
        refine EL.store rfl rfl q2 sz_25 rfl rfl rfl rfl ?_
        intro w8 hq8 hg8
        replace q1 := q1.grown hg8 (fun h => n1_2 (Option.some.inj h))
        replace qa6_1 := qa6_1.grown hg8 (fun h => n2_3.symm (Option.some.inj h))
        replace q4 := q4.grown hg8 (fun h => n2_4.symm (Option.some.inj h))
        replace hbw := below_store hbw hg8 bhbw_2
        replace q2 := hq8
        clear hg8 hq8
        refine EL.val (x_assign rfl) rfl ?_
        refine EL.nil ?_
        refine EX.seq ?_
        refine EC.ret ?_
        refine EX.seq_ret ?_
        exact EX.done (resct rfl rfl rfl (lv_25 (q2.at (j := 0) rfl) (q2.at (j := 1) rfl))) ⟨⟨_, _, 4, rfl, (by rw [planE, if_neg (by unfold shapeB; rw [h1, decide_eq_false (show ¬pl.store.length ≠ 0 from fun h => h hp0)]; simp)]), .inr ⟨by decide, rfl, rfl⟩⟩, hbw⟩
      ·
        refine EL.valg rfl rfl (x_eql (r := false) rfl rfl (decide_eq_false (by omega))) rfl ?_
        refine EL.val (x_pick_f rfl rfl) rfl ?_
        refine EL.val (x_move rfl) rfl ?_
        refine EL.valg rfl rfl (fa_67_0 rfl) rfl ?_
        refine EL.valg rfl rfl (ld_64 rfl (q1.at (j := 0) rfl)) rfl ?_
        refine EL.valg rfl rfl (mf_60_0_1 rfl) rfl ?_
        cases h2 : pl.prts.all fun l => decide (l.length = pl.store.length)
        ·
          refine EL.callg rfl rfl (cl_59 rfl rfl) rfl (contains_val_to (b := true) (by rw [hr.any_len, h2]; rfl) _ _ _ B (by rw [hr.prts.len]; exact (hr.below (hbw.mono hB)).prts.rd) (Nat.le_trans hB hbw.size) (by rw [hr.prts.len]; omega) ((hr.below (hbw.mono hB)).slices) (fun x hx W hb => len2 ((hr.below (hbw.mono hB)).slices x hx) (below_load hb (qa6_1.at (j := 0) rfl)))) ?_
          rintro e w9 ⟨rfl, hc9⟩
          refine ⟨_, rfl, ?_⟩
          replace q1 := q1.below hc9 q1.lt
          replace q2 := q2.below hc9 q2.lt
          replace qa6_1 := qa6_1.below hc9 qa6_1.lt
          replace q4 := q4.below hc9 q4.lt
          replace hbw := Below.on hbw hc9 hbw.size
          clear hc9
          refine EL.val (x_pick_f rfl rfl) rfl ?_
          refine EL.nil ?_
          refine EX.seq ?_
          refine EC.yes rfl ?_
          refine EC.seq ?_
          refine EC.region ?_
          refine EL.val (ld_25 rfl (q2.at (j := 0) rfl) (q2.at (j := 1) rfl)) rfl ?_
          refine EL.store rfl rfl q2 sz_25 rfl rfl rfl rfl ?_
          intro w10 hq10 hg10
          replace q1 := q1.grown hg10 (fun h => n1_2 (Option.some.inj h))
          replace qa6_1 := qa6_1.grown hg10 (fun h => n2_3.symm (Option.some.inj h))
          replace q4 := q4.grown hg10 (fun h => n2_4.symm (Option.some.inj h))
          replace hbw := below_store hbw hg10 bhbw_2
          replace q2 := hq10
          clear hg10 hq10
          refine EL.val (x_assign rfl) rfl ?_
          refine EL.nil ?_
          refine EX.seq ?_
          refine EC.ret ?_
          refine EX.seq_ret ?_
          exact EX.done (resct rfl rfl rfl (lv_25 (q2.at (j := 0) rfl) (q2.at (j := 1) rfl))) ⟨⟨_, _, 4, rfl, (by rw [planE, if_neg (by unfold shapeB; rw [h1, h2, decide_eq_true hp0]; simp)]), .inr ⟨by decide, rfl, rfl⟩⟩, hbw⟩
        ·
          refine EL.callg rfl rfl (cl_59 rfl rfl) rfl (contains_val_to (b := false) (by rw [hr.any_len, h2]; rfl) _ _ _ B (by rw [hr.prts.len]; exact (hr.below (hbw.mono hB)).prts.rd) (Nat.le_trans hB hbw.size) (by rw [hr.prts.len]; omega) ((hr.below (hbw.mono hB)).slices) (fun x hx W hb => len2 ((hr.below (hbw.mono hB)).slices x hx) (below_load hb (qa6_1.at (j := 0) rfl)))) ?_
          rintro e w11 ⟨rfl, hc11⟩
          refine ⟨_, rfl, ?_⟩
          replace q1 := q1.below hc11 q1.lt
          replace q2 := q2.below hc11 q2.lt
          replace qa6_1 := qa6_1.below hc11 qa6_1.lt
          replace q4 := q4.below hc11 q4.lt
          replace hbw := Below.on hbw hc11 hbw.size
          clear hc11
          refine EL.val (x_pick_f rfl rfl) rfl ?_
          refine EL.nil ?_
          refine EX.seq ?_
          refine EC.no rfl ?_
          refine EC.skip ?_
          refine EX.seq ?_
          refine EC.seq ?_
          refine EC.region ?_
          have hsh : shapeB pl = true := by unfold shapeB; rw [h1, h2, decide_eq_true hp0]; rfl
          obtain ⟨w1_, w12, p1, hrow⟩ := shape_iff.1 hsh
          have hc0 : cntTo pl.store.length pl.prts.length pl.runs 0 = (pl.store.length : Int) * ((pl.prts.length : Int) - 1) := by unfold cntTo; rw [List.take_zero]; exact Int.add_zero _
          have hm1 : 0 ≤ (pl.store.length : Int) * ((pl.prts.length : Int) - 1) ∧ (pl.store.length : Int) * ((pl.prts.length : Int) - 1) ≤ 1000 * 11 := ⟨Int.mul_nonneg (by omega) (by omega), Int.mul_le_mul (by omega) (by omega) (by omega) (by omega)⟩
          have hm2 : 0 ≤ (pl.store.length : Int) * ((pl.prts.length : Nat) : Int) ∧ (pl.store.length : Int) * ((pl.prts.length : Nat) : Int) ≤ 1000 * 12 := ⟨Int.mul_nonneg (by omega) (by omega), Int.mul_le_mul (by omega) (by omega) (by omega) (by omega)⟩
          refine EL.val (ld_3 rfl (qa6_1.at (j := 0) rfl)) rfl ?_
          refine EL.val (x_move rfl) rfl ?_
          refine EL.val (x_sub rfl rfl (c := ((pl.prts.length : Nat) : Int) - 1) (IntWalk.i64_in _ ⟨by omega, by omega⟩)) rfl ?_
          refine EL.val (x_mul rfl rfl (c := cntTo pl.store.length pl.prts.length pl.runs 0) ((IntWalk.i64_in _ ⟨by omega, by omega⟩).trans hc0.symm)) rfl ?_
          refine EL.val (x_assign rfl) rfl ?_
          refine EL.nil ?_
          refine EX.seq ?_
          refine EC.seq ?_
          refine EC.seq ?_
          refine EC.region ?_
          refine EL.val (fa_67_1 rfl) rfl ?_
          refine EL.val (ld_65 rfl (q1.at (j := 1) rfl)) rfl ?_
          refine EL.val (ln_65 rfl) rfl ?_
          refine EL.val (x_move rfl) rfl ?_
          refine EL.nil ?_
          refine EX.seq ?_
          refine EC.block ?_
          refine EC.loopD [6, 8, 44, 45, 46, 47, 48, 49, 50, 51, 52, 53, 54, 55, 56, 57, 58, 59] (fun x : Nat => [(6, .int .i64 (cntTo pl.store.length pl.prts.length pl.runs x)), (44, .int .i64 (x : Nat))]) (fun x W => x ≤ pl.runs.length ∧ Blk W g1 67 #[.slice App pl.prts.length cpp, .slice Arr pl.runs.length crr, .slice Ass pl.store.length css] ∧ Blk W g2 25 #[.slice none 0 0, .slice none 0 0] ∧ Blk W ga6_1 3 #[.int .i64 (pl.store.length : Nat)] ∧ Below w.heap.size w W) (fun x => pl.runs.length - x) 0 ⟨Nat.zero_le _, q1, q2, qa6_1, hbw⟩ ⟨rfl, rfl, trivial⟩ ?_
          clear q1 q2 qa6_1 hbw
          rintro x wx ⟨hx, q1x, q2x, q4x, hbw⟩
          by_cases hlt : x < pl.runs.length
          ·
            obtain ⟨br, obr, e_, _, rc⟩ := runs_cells pl.runs x hlt _ _ _ _ _ hr.runs
            subst e_
            have hcs := cnt_step (P := pl.store.length) (W := pl.prts.length) hlt
            have hcb := cnt_rng (W := pl.prts.length) (P := pl.store.length) (r := pl.runs) (x := x) w1_ w12 (by omega)
            have hrb := run_rng (x := pl.runs.getD x run0) w1_ w12
            obtain ⟨y, ey⟩ : ∃ z, z = pl.runs.getD x run0 := ⟨_, rfl⟩
            rw [← ey] at rc hcs hrb
            refine EC.seq ?_
            refine EC.region ?_
            refine EL.val (x_lss rfl rfl (decide_eq_true (show (((x : Nat) : Int) < ((pl.runs.length : Nat) : Int)) by omega))) rfl ?_
            refine EL.nil ?_
            refine EX.seq ?_
            refine EC.seq ?_
            refine EC.yes rfl ?_
            refine EC.skip ?_
            refine EX.seq ?_
            refine EC.seq ?_
            refine EC.block ?_
            refine EC.seq ?_
            refine EC.region ?_
            refine EL.val (ix_65 rfl rfl hlt) rfl ?_
            refine EL.val (ld_71 rfl (below_load hbw rc.c0) (below_load hbw rc.c1) (below_load hbw rc.c2) (below_load hbw rc.c3) (below_load hbw rc.c4)) rfl ?_
            refine EL.newP al_71 rfl ?_
            intro g12 w12 q12 hb12 hg12 hl12
            have n1_12 : g1 ≠ g12 := Nat.ne_of_lt (Nat.lt_of_lt_of_le q1x.lt hg12)
            have n2_12 : g2 ≠ g12 := Nat.ne_of_lt (Nat.lt_of_lt_of_le q2x.lt hg12)
            have n3_12 : ga6_1 ≠ g12 := Nat.ne_of_lt (Nat.lt_of_lt_of_le q4x.lt hg12)
            have bhbw_12 := Nat.le_trans hbw.size hg12
            replace q1x := q1x.below hb12 q1x.lt
            replace q2x := q2x.below hb12 q2x.lt
            replace q4x := q4x.below hb12 q4x.lt
            replace hbw := Below.on hbw hb12 hbw.size
            clear hb12 hg12 hl12
            refine EL.store rfl rfl q12 sz_71 rfl rfl rfl rfl ?_
            intro w13 hq13 hg13
            replace q1x := q1x.grown hg13 (fun h => n1_12 (Option.some.inj h))
            replace q2x := q2x.grown hg13 (fun h => n2_12 (Option.some.inj h))
            replace q4x := q4x.grown hg13 (fun h => n3_12 (Option.some.inj h))
            replace hbw := below_store hbw hg13 bhbw_12
            replace q12 := hq13
            clear hg13 hq13
            refine EL.nil ?_
            refine EX.seq ?_
            refine EC.seq ?_
            refine EC.region ?_
            refine EL.val (fa_71_1 rfl) rfl ?_
            refine EL.val (ld_3 rfl (q12.at (j := 4) rfl)) rfl ?_
            refine EL.newS (bs_29_1 rfl) rfl ?_
            intro g14 w14 q14 hb14 hg14 hl14
            have n1_14 : g1 ≠ g14 := Nat.ne_of_lt (Nat.lt_of_lt_of_le q1x.lt hg14)
            have n2_14 : g2 ≠ g14 := Nat.ne_of_lt (Nat.lt_of_lt_of_le q2x.lt hg14)
            have n3_14 : ga6_1 ≠ g14 := Nat.ne_of_lt (Nat.lt_of_lt_of_le q4x.lt hg14)
            have n12_14 : g12 ≠ g14 := Nat.ne_of_lt (Nat.lt_of_lt_of_le q12.lt hg14)
            have bhbw_14 := Nat.le_trans hbw.size hg14
            replace q1x := q1x.below hb14 q1x.lt
            replace q2x := q2x.below hb14 q2x.lt
            replace q4x := q4x.below hb14 q4x.lt
            replace q12 := q12.below hb14 q12.lt
            replace hbw := Below.on hbw hb14 hbw.size
            clear hb14 hg14 hl14
            cases h8 : inB 1 12 y.wk
            ·
              have hcz : cntTo pl.store.length pl.prts.length pl.runs x = cntTo pl.store.length pl.prts.length pl.runs (x + 1) := by rw [hcs, runCnt, if_neg (by rw [h8]; decide)]; exact (Int.add_zero _).symm
              refine EL.call (cl_52 rfl rfl rfl) rfl (within_1 q14 h8) ?_
              rintro e w15 ⟨rfl, hc15⟩
              refine ⟨_, rfl, ?_⟩
              replace q1x := q1x.below hc15 q1x.lt
              replace q2x := q2x.below hc15 q2x.lt
              replace q4x := q4x.below hc15 q4x.lt
              replace q12 := q12.below hc15 q12.lt
              replace q14 := q14.below hc15 q14.lt
              replace hbw := Below.on hbw hc15 hbw.size
              clear hc15
              refine EL.nil ?_
              refine EX.seq ?_
              refine EC.no rfl ?_
              refine EC.skip ?_
              refine EX.blk ?_
              refine EX.seq ?_
              refine EC.region ?_
              refine EL.val (x_add rfl rfl (c := ((x + 1 : Nat) : Int)) ((IntWalk.i64_in _ ⟨by first | omega | (simp only; omega), by first | omega | (simp only; omega)⟩).trans (by first | omega | (simp only; omega)))) rfl ?_
              refine EL.val (x_move rfl) rfl ?_
              refine EL.nil ?_
              refine EX.roundD (x + 1) ⟨agree_of hcz rfl, rfl, trivial⟩ (by repeat first | with_reducible exact Sub.refl _ | refine sub_past rfl ?_ | exact Sub.refl _ | refine sub_del rfl ?_ | refine sub_insL_nil ?_) ⟨hlt, q1x, q2x, q4x, hbw⟩ (by omega)
            ·
              have hcz : cntTo pl.store.length pl.prts.length pl.runs (x + 1) = cntTo pl.store.length pl.prts.length pl.runs x + max 0 (((pl.prts.length : Nat) : Int) - y.wk) := by rw [hcs, runCnt, if_pos h8]
              have hwk := inB_iff.1 h8
              refine EL.call (cl_52 rfl rfl rfl) rfl (within_1 q14 h8) ?_
              rintro e w16 ⟨rfl, hc16⟩
              refine ⟨_, rfl, ?_⟩
              replace q1x := q1x.below hc16 q1x.lt
              replace q2x := q2x.below hc16 q2x.lt
              replace q4x := q4x.below hc16 q4x.lt
              replace q12 := q12.below hc16 q12.lt
              replace q14 := q14.below hc16 q14.lt
              replace hbw := Below.on hbw hc16 hbw.size
              clear hc16
              refine EL.nil ?_
              refine EX.seq ?_
              refine EC.yes rfl ?_
              refine EC.region ?_
              refine EL.val (x_move rfl) rfl ?_
              refine EL.val (x_move rfl) rfl ?_
              refine EL.val (fa_71_1 rfl) rfl ?_
              refine EL.val (ld_3 rfl (q12.at (j := 4) rfl)) rfl ?_
              refine EL.val (x_sub rfl rfl (c := ((pl.prts.length : Nat) : Int) - y.wk) (IntWalk.i64_in _ ⟨by omega, by omega⟩)) rfl ?_
              refine EL.val (mm_max rfl rfl rfl) rfl ?_
              refine EL.val (x_add rfl rfl (c := cntTo pl.store.length pl.prts.length pl.runs (x + 1)) ((IntWalk.i64_in _ ⟨by omega, by omega⟩).trans hcz.symm)) rfl ?_
              refine EL.val (x_assign rfl) rfl ?_
              refine EL.nil ?_
              refine EX.blk ?_
              refine EX.seq ?_
              refine EC.region ?_
              refine EL.val (x_add rfl rfl (c := ((x + 1 : Nat) : Int)) ((IntWalk.i64_in _ ⟨by first | omega | (simp only; omega), by first | omega | (simp only; omega)⟩).trans (by first | omega | (simp only; omega)))) rfl ?_
              refine EL.val (x_move rfl) rfl ?_
              refine EL.nil ?_
              refine EX.roundD (x + 1) ⟨rfl, rfl, trivial⟩ (by repeat first | with_reducible exact Sub.refl _ | refine sub_past rfl ?_ | exact Sub.refl _ | refine sub_del rfl ?_ | refine sub_insL_nil ?_) ⟨hlt, q1x, q2x, q4x, hbw⟩ (by omega)
          ·
            have hxe : x = pl.runs.length := by omega
            subst hxe
            have hcb := cnt_rng (W := pl.prts.length) (P := pl.store.length) (r := pl.runs) (x := pl.runs.length) w1_ w12 (Nat.le_refl _)
            refine EC.seq ?_
            refine EC.region ?_
            refine EL.val (x_lss rfl rfl (decide_eq_false (show ¬(((pl.runs.length : Nat) : Int) < ((pl.runs.length : Nat) : Int)) by omega))) rfl ?_
            refine EL.nil ?_
            refine EX.seq ?_
            refine EC.seq ?_
            refine EC.no rfl ?_
            refine EC.exit ?_
            refine EX.seq_exit ?_
            refine EX.seq_exit ?_
            refine EX.blk_here ?_
            refine EX.seq ?_
            refine EC.seq ?_
            refine EC.block ?_
            refine EC.seq ?_
            refine EC.region ?_
            refine EL.val (ld_3 rfl (q4x.at (j := 0) rfl)) rfl ?_
            refine EL.val (x_move rfl) rfl ?_
            refine EL.val (x_mul rfl rfl (c := (pl.store.length : Int) * ((pl.prts.length : Nat) : Int)) (IntWalk.i64_in _ ⟨by omega, by omega⟩)) rfl ?_
            by_cases hbig : 60 < (pl.store.length : Int) * ((pl.prts.length : Nat) : Int)
            ·
              refine EL.val (x_gtr (r := true) rfl rfl (decide_eq_true (by omega))) rfl ?_
              refine EL.val (x_move rfl) rfl ?_
              refine EL.skip rfl rfl rfl rfl ?_
              refine EL.skip rfl rfl rfl rfl ?_
              refine EL.val (x_pick_t rfl rfl) rfl ?_
              refine EL.val (x_assign rfl) rfl ?_
              refine EL.nil ?_
              refine EX.seq ?_
              refine EC.yes rfl ?_
              refine EC.seq ?_
              refine EC.region ?_
              refine EL.val (ld_25 rfl (q2x.at (j := 0) rfl) (q2x.at (j := 1) rfl)) rfl ?_
              refine EL.store rfl rfl q2x sz_25 rfl rfl rfl rfl ?_
              intro w17 hq17 hg17
              replace q1x := q1x.grown hg17 (fun h => n1_2 (Option.some.inj h))
              replace q4x := q4x.grown hg17 (fun h => n2_3.symm (Option.some.inj h))
              replace hbw := below_store hbw hg17 bhbw_2
              replace q2x := hq17
              clear hg17 hq17
              refine EL.val (x_assign rfl) rfl ?_
              refine EL.nil ?_
              refine EX.seq ?_
              refine EC.ret ?_
              refine EX.blk_ret ?_
              refine EX.seq_ret ?_
              exact EX.done (resct rfl rfl rfl (lv_25 (q2x.at (j := 0) rfl) (q2x.at (j := 1) rfl))) ⟨⟨_, _, 5, rfl, (by rw [planE, if_pos hsh, if_pos (.inl hbig)]), .inr ⟨by decide, rfl, rfl⟩⟩, hbw⟩
            ·
              refine EL.val (x_gtr (r := false) rfl rfl (decide_eq_false (by omega))) rfl ?_
              refine EL.val (x_move rfl) rfl ?_
              refine EL.valg rfl rfl (x_move rfl) rfl ?_
              by_cases hmany : 300 < cntTo pl.store.length pl.prts.length pl.runs pl.runs.length
              ·
                refine EL.valg rfl rfl (x_gtr (r := true) rfl rfl (decide_eq_true (by omega))) rfl ?_
                refine EL.val (x_pick_f rfl rfl) rfl ?_
                refine EL.val (x_assign rfl) rfl ?_
                refine EL.nil ?_
                refine EX.seq ?_
                refine EC.yes rfl ?_
                refine EC.seq ?_
                refine EC.region ?_
                refine EL.val (ld_25 rfl (q2x.at (j := 0) rfl) (q2x.at (j := 1) rfl)) rfl ?_
                refine EL.store rfl rfl q2x sz_25 rfl rfl rfl rfl ?_
                intro w18 hq18 hg18
                replace q1x := q1x.grown hg18 (fun h => n1_2 (Option.some.inj h))
                replace q4x := q4x.grown hg18 (fun h => n2_3.symm (Option.some.inj h))
                replace hbw := below_store hbw hg18 bhbw_2
                replace q2x := hq18
                clear hg18 hq18
                refine EL.val (x_assign rfl) rfl ?_
                refine EL.nil ?_
                refine EX.seq ?_
                refine EC.ret ?_
                refine EX.blk_ret ?_
                refine EX.seq_ret ?_
                exact EX.done (resct rfl rfl rfl (lv_25 (q2x.at (j := 0) rfl) (q2x.at (j := 1) rfl))) ⟨⟨_, _, 5, rfl, (by rw [planE, if_pos hsh, if_pos (.inr hmany)]), .inr ⟨by decide, rfl, rfl⟩⟩, hbw⟩
              ·
                have hno : ¬(60 < (pl.store.length : Int) * ((pl.prts.length : Nat) : Int) ∨ 300 < cntTo pl.store.length pl.prts.length pl.runs pl.runs.length) := fun h => h.elim hbig hmany
                have hfl := flat_len_eq hrow
                have hfl60 : pl.prts.flatten.length ≤ 60 := by rw [hfl, Nat.mul_comm]; have h_ := hbig; rw [mul_cast] at h_; omega
                refine EL.valg rfl rfl (x_gtr (r := false) rfl rfl (decide_eq_false (by omega))) rfl ?_
                refine EL.val (x_pick_f rfl rfl) rfl ?_
                refine EL.val (x_assign rfl) rfl ?_
                refine EL.nil ?_
                refine EX.seq ?_
                refine EC.no rfl ?_
                refine EC.seq ?_
                refine EC.region ?_
                refine EL.val (fa_67_2 rfl) rfl ?_
                refine EL.val (ld_29 rfl (q1x.at (j := 2) rfl)) rfl ?_
                cases h3 : pl.store.all (inB 0 1000000)
                ·
                  refine EL.call (cl_52 rfl rfl rfl) rfl (within_to (b := false) h3 _ _ B ((hr.below (hbw.mono hB)).store) (Nat.le_trans hB hbw.size) (by omega)) ?_
                  rintro e w19 ⟨rfl, hc19⟩
                  refine ⟨_, rfl, ?_⟩
                  replace q1x := q1x.below hc19 q1x.lt
                  replace q2x := q2x.below hc19 q2x.lt
                  replace q4x := q4x.below hc19 q4x.lt
                  replace hbw := Below.on hbw hc19 hbw.size
                  clear hc19
                  refine EL.val (x_not rfl) rfl ?_
                  refine EL.val (x_move rfl) rfl ?_
                  refine EL.skip rfl rfl rfl rfl ?_
                  refine EL.skip rfl rfl rfl rfl ?_
                  refine EL.skip rfl rfl rfl rfl ?_
                  refine EL.skip rfl rfl rfl rfl ?_
                  refine EL.skip rfl rfl rfl rfl ?_
                  refine EL.val (x_pick_t rfl rfl) rfl ?_
                  refine EL.val (x_assign rfl) rfl ?_
                  refine EL.nil ?_
                  refine EX.seq ?_
                  refine EC.yes rfl ?_
                  refine EC.seq ?_
                  refine EC.region ?_
                  refine EL.val (ld_25 rfl (q2x.at (j := 0) rfl) (q2x.at (j := 1) rfl)) rfl ?_
                  refine EL.store rfl rfl q2x sz_25 rfl rfl rfl rfl ?_
                  intro w20 hq20 hg20
                  replace q1x := q1x.grown hg20 (fun h => n1_2 (Option.some.inj h))
                  replace q4x := q4x.grown hg20 (fun h => n2_3.symm (Option.some.inj h))
                  replace hbw := below_store hbw hg20 bhbw_2
                  replace q2x := hq20
                  clear hg20 hq20
                  refine EL.val (x_assign rfl) rfl ?_
                  refine EL.nil ?_
                  refine EX.seq ?_
                  refine EC.ret ?_
                  refine EX.blk_ret ?_
                  refine EX.seq_ret ?_
                  exact EX.done (resct rfl rfl rfl (lv_25 (q2x.at (j := 0) rfl) (q2x.at (j := 1) rfl))) ⟨⟨_, _, 2, rfl, (by rw [planE, if_pos hsh, if_neg hno, if_neg (by rw [h3]; simp)]), .inr ⟨by decide, rfl, rfl⟩⟩, hbw⟩
                ·
                  refine EL.call (cl_52 rfl rfl rfl) rfl (within_to (b := true) h3 _ _ B ((hr.below (hbw.mono hB)).store) (Nat.le_trans hB hbw.size) (by omega)) ?_
                  rintro e w21 ⟨rfl, hc21⟩
                  refine ⟨_, rfl, ?_⟩
                  replace q1x := q1x.below hc21 q1x.lt
                  replace q2x := q2x.below hc21 q2x.lt
                  replace q4x := q4x.below hc21 q4x.lt
                  replace hbw := Below.on hbw hc21 hbw.size
                  clear hc21
                  refine EL.val (x_not rfl) rfl ?_
                  refine EL.val (x_move rfl) rfl ?_
                  refine EL.valg rfl rfl (fa_67_0 rfl) rfl ?_
                  refine EL.valg rfl rfl (ld_64 rfl (q1x.at (j := 0) rfl)) rfl ?_
                  refine EL.callg rfl rfl (cl_61 rfl) rfl (concat_any pl.prts us _ _ B ((hr.below (hbw.mono hB)).prts) (Nat.le_trans hB hbw.size) (by omega) (by omega)) ?_
                  rintro e w22 ⟨⟨vc22, rfl, hoc22⟩, hc22⟩
                  refine ⟨_, rfl, ?_⟩
                  replace q1x := q1x.below hc22 q1x.lt
                  replace q2x := q2x.below hc22 q2x.lt
                  replace q4x := q4x.below hc22 q4x.lt
                  replace hbw := Below.on hbw hc22 hbw.size
                  clear hc22
                  obtain ⟨Ac22, cc22, rfl, _⟩ := (Rd.of_own hoc22).shape
                  cases h4 : pl.prts.flatten.all prtB
                  ·
                    refine EL.callg rfl rfl (cl_54 rfl) rfl (arePorts_to (b := false) h4 _ _ _ (Rd.of_own hoc22) (Nat.le_refl _) (by omega)) ?_
                    rintro e w23 ⟨rfl, hc23⟩
                    refine ⟨_, rfl, ?_⟩
                    replace q1x := q1x.below hc23 q1x.lt
                    replace q2x := q2x.below hc23 q2x.lt
                    replace q4x := q4x.below hc23 q4x.lt
                    replace hoc22 := own_below hoc22 hc23 (Nat.le_refl _)
                    replace hbw := Below.on hbw hc23 hbw.size
                    clear hc23
                    refine EL.valg rfl rfl (x_not rfl) rfl ?_
                    refine EL.val (x_pick_f rfl rfl) rfl ?_
                    refine EL.val (x_assign rfl) rfl ?_
                    refine EL.nil ?_
                    refine EX.seq ?_
                    refine EC.yes rfl ?_
                    refine EC.seq ?_
                    refine EC.region ?_
                    refine EL.val (ld_25 rfl (q2x.at (j := 0) rfl) (q2x.at (j := 1) rfl)) rfl ?_
                    refine EL.store rfl rfl q2x sz_25 rfl rfl rfl rfl ?_
                    intro w24 hq24 hg24
                    replace q1x := q1x.grown hg24 (fun h => n1_2 (Option.some.inj h))
                    replace q4x := q4x.grown hg24 (fun h => n2_3.symm (Option.some.inj h))
                    replace hbw := below_store hbw hg24 bhbw_2
                    replace q2x := hq24
                    clear hg24 hq24
                    refine EL.val (x_assign rfl) rfl ?_
                    refine EL.nil ?_
                    refine EX.seq ?_
                    refine EC.ret ?_
                    refine EX.blk_ret ?_
                    refine EX.seq_ret ?_
                    exact EX.done (resct rfl rfl rfl (lv_25 (q2x.at (j := 0) rfl) (q2x.at (j := 1) rfl))) ⟨⟨_, _, 2, rfl, (by rw [planE, if_pos hsh, if_neg hno, if_neg (by rw [h3, h4]; decide)]), .inr ⟨by decide, rfl, rfl⟩⟩, hbw⟩
                  ·
                    refine EL.callg rfl rfl (cl_54 rfl) rfl (arePorts_to (b := true) h4 _ _ _ (Rd.of_own hoc22) (Nat.le_refl _) (by omega)) ?_
                    rintro e w25 ⟨rfl, hc25⟩
                    refine ⟨_, rfl, ?_⟩
                    replace q1x := q1x.below hc25 q1x.lt
                    replace q2x := q2x.below hc25 q2x.lt
                    replace q4x := q4x.below hc25 q4x.lt
                    replace hoc22 := own_below hoc22 hc25 (Nat.le_refl _)
                    replace hbw := Below.on hbw hc25 hbw.size
                    clear hc25
                    refine EL.valg rfl rfl (x_not rfl) rfl ?_
                    refine EL.val (x_pick_f rfl rfl) rfl ?_
                    refine EL.val (x_assign rfl) rfl ?_
                    refine EL.nil ?_
                    refine EX.seq ?_
                    refine EC.no rfl ?_
                    refine EC.seq ?_
                    refine EC.region ?_
                    refine EL.val (fa_67_1 rfl) rfl ?_
                    refine EL.val (ld_65 rfl (q1x.at (j := 1) rfl)) rfl ?_
                    refine EL.val (mf_63_0_1 rfl) rfl ?_
                    cases h5 : pl.runs.all (runB pl.store.length)
                    ·
                      refine EL.call (cl_62 rfl rfl) rfl (contains_run_to (b := true) (by rw [← all_nn, h5]; rfl) _ _ _ B ((hr.below (hbw.mono hB)).runs) (Nat.le_trans hB hbw.size) (by omega) (fun x hx W hb => run1 x pl.store.length _ W (by omega) (below_load hb (q4x.at (j := 0) rfl)))) ?_
                      rintro e w26 ⟨rfl, hc26⟩
                      refine ⟨_, rfl, ?_⟩
                      replace q1x := q1x.below hc26 q1x.lt
                      replace q2x := q2x.below hc26 q2x.lt
                      replace q4x := q4x.below hc26 q4x.lt
                      replace hbw := Below.on hbw hc26 hbw.size
                      clear hc26
                      refine EL.val (x_assign rfl) rfl ?_
                      refine EL.nil ?_
                      refine EX.seq ?_
                      refine EC.yes rfl ?_
                      refine EC.seq ?_
                      refine EC.region ?_
                      refine EL.val (ld_25 rfl (q2x.at (j := 0) rfl) (q2x.at (j := 1) rfl)) rfl ?_
                      refine EL.store rfl rfl q2x sz_25 rfl rfl rfl rfl ?_
                      intro w27 hq27 hg27
                      replace q1x := q1x.grown hg27 (fun h => n1_2 (Option.some.inj h))
                      replace q4x := q4x.grown hg27 (fun h => n2_3.symm (Option.some.inj h))
                      replace hbw := below_store hbw hg27 bhbw_2
                      replace q2x := hq27
                      clear hg27 hq27
                      refine EL.val (x_assign rfl) rfl ?_
                      refine EL.nil ?_
                      refine EX.seq ?_
                      refine EC.ret ?_
                      refine EX.blk_ret ?_
                      refine EX.seq_ret ?_
                      exact EX.done (resct rfl rfl rfl (lv_25 (q2x.at (j := 0) rfl) (q2x.at (j := 1) rfl))) ⟨⟨_, _, 2, rfl, (by rw [planE, if_pos hsh, if_neg hno, if_pos (by rw [h3, h4]; rfl), if_neg (by rw [h5]; decide)]), .inr ⟨by decide, rfl, rfl⟩⟩, hbw⟩
                    ·
                      refine EL.call (cl_62 rfl rfl) rfl (contains_run_to (b := false) (by rw [← all_nn, h5]; rfl) _ _ _ B ((hr.below (hbw.mono hB)).runs) (Nat.le_trans hB hbw.size) (by omega) (fun x hx W hb => run1 x pl.store.length _ W (by omega) (below_load hb (q4x.at (j := 0) rfl)))) ?_
                      rintro e w28 ⟨rfl, hc28⟩
                      refine ⟨_, rfl, ?_⟩
                      replace q1x := q1x.below hc28 q1x.lt
                      replace q2x := q2x.below hc28 q2x.lt
                      replace q4x := q4x.below hc28 q4x.lt
                      replace hbw := Below.on hbw hc28 hbw.size
                      clear hc28
                      refine EL.val (x_assign rfl) rfl ?_
                      refine EL.nil ?_
                      refine EX.seq ?_
                      refine EC.no rfl ?_
                      refine EC.skip ?_
                      refine EX.blk ?_
                      refine EX.seq ?_
                      refine EC.seq ?_
                      refine EC.region ?_
                      refine EL.val (mf_64_0_2 rfl rfl) rfl ?_
                      refine EL.val (x_assign rfl) rfl ?_
                      refine EL.nil ?_
                      refine EX.seq ?_
                      refine EC.seq ?_
                      refine EC.seq ?_
                      refine EC.region ?_
                      have hok : PlanOk pl := plan_ok.1 (by rw [planE, if_pos hsh, if_neg hno, if_pos (by rw [h3, h4]; rfl), if_pos h5])
                      obtain ⟨V, hV⟩ : ∃ V, pl.prts.length = V + 1 := ⟨_, (Nat.sub_add_cancel w1_).symm⟩
                      have hone : World.ownsRow w28 w.heap.size 56 4 (.slice none 0 0) 0 [] := own_none
                      refine EL.val (x_move rfl) rfl ?_
                      refine EL.val (x_sub rfl rfl (c := ((V : Nat) : Int)) ((IntWalk.i64_in _ ⟨by omega, by omega⟩).trans (by omega))) rfl ?_
                      refine EL.val (x_move rfl) rfl ?_
                      refine EL.nil ?_
                      refine EX.seq ?_
                      refine EC.block ?_
                      refine EC.loopD [10, 11, 12, 14, 15, 92, 93, 94, 95, 96, 97, 98, 99, 100, 101, 102, 103, 104, 105, 106, 107, 108, 109, 110, 111, 112, 113, 114, 115, 116, 117, 118, 119, 120, 121, 122, 123, 124, 125, 126, 127, 128, 129, 130, 131, 132, 133, 134] (fun x : Nat × Value => [(92, .int .i64 (x.1 : Nat))]) (fun x W => x.1 ≤ V ∧ W.ownsRow w.heap.size 56 4 x.2 (wksTo pl.store.length pl.prts.length pl.store pl.runs x.1).length (waysC (wksTo pl.store.length pl.prts.length pl.store pl.runs x.1)) ∧ Blk W g1 67 #[.slice App pl.prts.length cpp, .slice Arr pl.runs.length crr, .slice Ass pl.store.length css] ∧ Blk W g2 25 #[.slice none 0 0, x.2] ∧ Blk W ga6_1 3 #[.int .i64 (pl.store.length : Nat)] ∧ Below w.heap.size w W) (fun x => V - x.1) (0, .slice none 0 0) ⟨Nat.zero_le _, hone, q1x, q2x, q4x, hbw⟩ ⟨rfl, trivial⟩ ?_
                      clear hone q1x q2x q4x hbw
                      rintro ⟨k, v⟩ wk ⟨hk, ho, q1x, q2x, q4x, hbw⟩
                      dsimp only at hk ho q2x
                      obtain ⟨A1, c1, rfl, _⟩ := (Rd.of_own ho).shape
                      by_cases hlt : k < V
                      ·
                        have hkP := mul_rng (P := pl.store.length) (a := ((k : Nat) : Int)) (n := pl.prts.length) (by omega) (by omega) hok.small
                        refine EC.seq ?_
                        refine EC.region ?_
                        refine EL.val (x_lss rfl rfl (decide_eq_true (show (((k : Nat) : Int) < ((V : Nat) : Int)) by omega))) rfl ?_
                        refine EL.nil ?_
                        refine EX.seq ?_
                        refine EC.seq ?_
                        refine EC.yes rfl ?_
                        refine EC.skip ?_
                        refine EX.seq ?_
                        refine EC.seq ?_
                        refine EC.block ?_
                        refine EC.seq ?_
                        refine EC.region ?_
                        refine EL.val (x_move rfl) rfl ?_
                        refine EL.val (x_assign rfl) rfl ?_
                        refine EL.nil ?_
                        refine EX.seq ?_
                        refine EC.seq ?_
                        refine EC.seq ?_
                        refine EC.region ?_
                        refine EL.val (fa_67_2 rfl) rfl ?_
                        refine EL.val (ld_29 rfl (q1x.at (j := 2) rfl)) rfl ?_
                        refine EL.val (ln_29 rfl) rfl ?_
                        refine EL.val (x_move rfl) rfl ?_
                        refine EL.nil ?_
                        refine EX.seq ?_
                        refine EC.block ?_
                        have ho0 : World.ownsRow wk w.heap.size 56 4 (.slice A1 (wksTo pl.store.length pl.prts.length pl.store pl.runs k).length c1) (wksTo pl.store.length pl.prts.length pl.store pl.runs k ++ stL pl.store.length k pl.store 0).length (waysC (wksTo pl.store.length pl.prts.length pl.store pl.runs k ++ stL pl.store.length k pl.store 0)) := by rw [show (wksTo pl.store.length pl.prts.length pl.store pl.runs k ++ stL pl.store.length k pl.store 0) = (wksTo pl.store.length pl.prts.length pl.store pl.runs k) from List.append_nil _]; exact ho
                        clear ho
                        refine EC.loopD [11, 12, 98, 99, 100, 101, 102, 103, 104, 105, 106, 107, 108, 109, 110, 111, 112] (fun x : Nat × Value => [(98, .int .i64 (x.1 : Nat))]) (fun x W => x.1 ≤ pl.store.length ∧ W.ownsRow w.heap.size 56 4 x.2 (wksTo pl.store.length pl.prts.length pl.store pl.runs k ++ stL pl.store.length k pl.store x.1).length (waysC (wksTo pl.store.length pl.prts.length pl.store pl.runs k ++ stL pl.store.length k pl.store x.1)) ∧ Blk W g1 67 #[.slice App pl.prts.length cpp, .slice Arr pl.runs.length crr, .slice Ass pl.store.length css] ∧ Blk W g2 25 #[.slice none 0 0, x.2] ∧ Blk W ga6_1 3 #[.int .i64 (pl.store.length : Nat)] ∧ Below w.heap.size w W) (fun x => pl.store.length - x.1) (0, _) ⟨Nat.zero_le _, ho0, q1x, q2x, q4x, hbw⟩ ⟨rfl, trivial⟩ ?_
                        clear ho0 q1x q2x q4x hbw
                        rintro ⟨x, v⟩ wy ⟨hx, ho, q1x, q2x, q4x, hbw⟩
                        dsimp only at hx ho q2x
                        obtain ⟨A2, c2, rfl, _⟩ := (Rd.of_own ho).shape
                        by_cases hlt2 : x < pl.store.length
                        ·
                          obtain ⟨bs_, obs, e_, _, scc⟩ := ints_cells pl.store x hlt2 _ _ _ _ _ hr.store
                          subst e_
                          have hnx : (wksTo pl.store.length pl.prts.length pl.store pl.runs k ++ stL pl.store.length k pl.store (x + 1)) = (wksTo pl.store.length pl.prts.length pl.store pl.runs k ++ stL pl.store.length k pl.store x) ++ [stW pl.store.length k x (pl.store.getD x 0)] := by rw [stL_succ, List.append_assoc]
                          have hk2 := mul_rng (P := pl.store.length) (a := ((k : Nat) : Int) + 1) (n := pl.prts.length) (by omega) (by omega) hok.small
                          have hyf : (0 : Int) ≤ ((x : Nat) : Int) ∧ ((x : Nat) : Int) ≤ 1000000 := ⟨by omega, by omega⟩
                          have hyt := hyf
                          have hll := st_lim hok (k := k) (x := x) (by omega) (by omega)
                          obtain ⟨cst, ecs⟩ : ∃ z, z = pl.store.getD x 0 := ⟨_, rfl⟩
                          rw [← ecs] at scc hnx
                          refine EC.seq ?_
                          refine EC.region ?_
                          refine EL.val (x_lss rfl rfl (decide_eq_true (show (((x : Nat) : Int) < ((pl.store.length : Nat) : Int)) by omega))) rfl ?_
                          refine EL.nil ?_
                          refine EX.seq ?_
                          refine EC.seq ?_
                          refine EC.yes rfl ?_
                          refine EC.skip ?_
                          refine EX.seq ?_
                          refine EC.seq ?_
                          refine EC.block ?_
                          refine EC.seq ?_
                          refine EC.region ?_
                          refine EL.val (x_move rfl) rfl ?_
                          refine EL.val (ix_29 rfl rfl hlt2) rfl ?_
                          refine EL.val (ld_3 rfl (below_load hbw scc)) rfl ?_
                          refine EL.val (x_assign rfl) rfl ?_
                          refine EL.val (x_assign rfl) rfl ?_
                          refine EL.nil ?_
                          refine EX.seq ?_
                          refine EC.region ?_
                          refine EL.val (x_move rfl) rfl ?_
                          refine EL.val (x_move rfl) rfl ?_
                          refine EL.val (x_move rfl) rfl ?_
                          refine EL.val (x_move rfl) rfl ?_
                          refine EL.val (bd_56_0_1_2_3 rfl rfl rfl rfl) rfl ?_
                          refine EL.val (x_move rfl) rfl ?_
                          refine EL.val (x_move rfl) rfl ?_
                          refine EL.val (x_add rfl rfl (c := ((k : Nat) : Int) + 1) (IntWalk.i64_in _ ⟨by omega, by omega⟩)) rfl ?_
                          have hg2_ : w.heap.size ≤ g2 := bhbw_2
                          have hszW := hbw.size
                          refine EL.call (clv_64_0_3_2 rfl rfl rfl rfl) rfl (add_any w.heap.size ga6_1 g2 ⟨((x : Nat) : Int), ((x : Nat) : Int), cst, 1000⟩ k (((k : Nat) : Int) + 1) (wksTo pl.store.length pl.prts.length pl.store pl.runs k ++ stL pl.store.length k pl.store x) wy q4x q2x n2_3 ho hg2_ hszW (by omega) hkP hk2 hyf hyt) ?_
                          rintro e w29 ⟨rfl, v29, wm29, hqn', hqP', ho2, hup', hgr1, hgr2⟩
                          refine ⟨_, rfl, ?_⟩
                          replace q1x := (blk_grown q1x ho rfl hgr1).grown hgr2 (fun h => n1_2 (Option.some.inj h))
                          replace q2x := hqn'
                          replace q4x := hqP'
                          replace hbw := hbw.trans hup'.low
                          clear hqn' hqP' hup' hgr1 hgr2 ho
                          have ho := ho2
                          clear ho2
                          obtain ⟨A29, c29, rfl, _⟩ := (Rd.of_own ho).shape
                          refine EL.nil ?_
                          refine EX.blk ?_
                          refine EX.seq ?_
                          refine EC.region ?_
                          refine EL.val (x_add rfl rfl (c := ((x + 1 : Nat) : Int)) ((IntWalk.i64_in _ ⟨by first | omega | (simp only; omega), by first | omega | (simp only; omega)⟩).trans (by first | omega | (simp only; omega)))) rfl ?_
                          refine EL.val (x_move rfl) rfl ?_
                          refine EL.nil ?_
                          refine EX.roundD (x + 1, _) ⟨rfl, trivial⟩ (by repeat first | with_reducible exact Sub.refl _ | refine sub_past rfl ?_ | exact Sub.refl _ | refine sub_del rfl ?_ | refine sub_insL_nil ?_) ⟨hlt2, by show World.ownsRow _ _ _ _ _ (wksTo pl.store.length pl.prts.length pl.store pl.runs k ++ stL pl.store.length k pl.store (x + 1)).length (waysC (wksTo pl.store.length pl.prts.length pl.store pl.runs k ++ stL pl.store.length k pl.store (x + 1))); rw [hnx]; exact own_n ho (by simp only [List.length_append, List.length_cons, List.length_nil]), q1x, q2x, q4x, hbw⟩ (by simp only; omega)
                        ·
                          have hxe : x = pl.store.length := by omega
                          subst hxe
                          refine EC.seq ?_
                          refine EC.region ?_
                          refine EL.val (x_lss rfl rfl (decide_eq_false (show ¬(((pl.store.length : Nat) : Int) < ((pl.store.length : Nat) : Int)) by omega))) rfl ?_
                          refine EL.nil ?_
                          refine EX.seq ?_
                          refine EC.seq ?_
                          refine EC.no rfl ?_
                          refine EC.exit ?_
                          refine EX.seq_exit ?_
                          refine EX.seq_exit ?_
                          refine EX.blk_here ?_
                          refine EX.seq ?_
                          refine EC.seq ?_
                          refine EC.region ?_
                          refine EL.val (fa_67_1 rfl) rfl ?_
                          refine EL.val (ld_65 rfl (q1x.at (j := 1) rfl)) rfl ?_
                          refine EL.val (ln_65 rfl) rfl ?_
                          refine EL.val (x_move rfl) rfl ?_
                          refine EL.nil ?_
                          refine EX.seq ?_
                          refine EC.block ?_
                          have ho0 : World.ownsRow wy w.heap.size 56 4 (.slice A2 (wksTo pl.store.length pl.prts.length pl.store pl.runs k ++ stL pl.store.length k pl.store pl.store.length).length c2) ((wksTo pl.store.length pl.prts.length pl.store pl.runs k ++ stL pl.store.length k pl.store pl.store.length) ++ rnL pl.store.length pl.prts.length k (pl.runs.take 0)).length (waysC ((wksTo pl.store.length pl.prts.length pl.store pl.runs k ++ stL pl.store.length k pl.store pl.store.length) ++ rnL pl.store.length pl.prts.length k (pl.runs.take 0))) := by rw [show ((wksTo pl.store.length pl.prts.length pl.store pl.runs k ++ stL pl.store.length k pl.store pl.store.length) ++ rnL pl.store.length pl.prts.length k (pl.runs.take 0)) = (wksTo pl.store.length pl.prts.length pl.store pl.runs k ++ stL pl.store.length k pl.store pl.store.length) from List.append_nil _]; exact ho
                          clear ho
                          refine EC.loopD [14, 15, 116, 117, 118, 119, 120, 121, 122, 123, 124, 125, 126, 127, 128, 129, 130, 131, 132, 133] (fun x : Nat × Value => [(116, .int .i64 (x.1 : Nat))]) (fun x W => x.1 ≤ pl.runs.length ∧ W.ownsRow w.heap.size 56 4 x.2 ((wksTo pl.store.length pl.prts.length pl.store pl.runs k ++ stL pl.store.length k pl.store pl.store.length) ++ rnL pl.store.length pl.prts.length k (pl.runs.take x.1)).length (waysC ((wksTo pl.store.length pl.prts.length pl.store pl.runs k ++ stL pl.store.length k pl.store pl.store.length) ++ rnL pl.store.length pl.prts.length k (pl.runs.take x.1))) ∧ Blk W g1 67 #[.slice App pl.prts.length cpp, .slice Arr pl.runs.length crr, .slice Ass pl.store.length css] ∧ Blk W g2 25 #[.slice none 0 0, x.2] ∧ Blk W ga6_1 3 #[.int .i64 (pl.store.length : Nat)] ∧ Below w.heap.size w W) (fun x => pl.runs.length - x.1) (0, _) ⟨Nat.zero_le _, ho0, q1x, q2x, q4x, hbw⟩ ⟨rfl, trivial⟩ ?_
                          clear ho0 q1x q2x q4x hbw
                          rintro ⟨x, v⟩ wy ⟨hx, ho, q1x, q2x, q4x, hbw⟩
                          dsimp only at hx ho q2x
                          obtain ⟨A3, c3, rfl, _⟩ := (Rd.of_own ho).shape
                          by_cases hlt3 : x < pl.runs.length
                          ·
                            obtain ⟨br, obr, e_, _, rc⟩ := runs_cells pl.runs x hlt3 _ _ _ _ _ hr.runs
                            subst e_
                            have hnx : ((wksTo pl.store.length pl.prts.length pl.store pl.runs k ++ stL pl.store.length k pl.store pl.store.length) ++ rnL pl.store.length pl.prts.length k (pl.runs.take (x + 1))) = ((wksTo pl.store.length pl.prts.length pl.store pl.runs k ++ stL pl.store.length k pl.store pl.store.length) ++ rnL pl.store.length pl.prts.length k (pl.runs.take x)) ++ (if inW pl.prts.length k (pl.runs.getD x run0) = true then [rnW pl.store.length k (pl.runs.getD x run0)] else []) := by rw [rnL_take hlt3, ← List.append_assoc]
                            have hll := rn_lim hok (k := k) (x := x) (by omega) (by omega)
                            have hrB := hok.run (pl.runs.getD x run0) (by rw [getD_in hlt3]; exact List.getElem_mem hlt3)
                            obtain ⟨y, ey⟩ : ∃ z, z = pl.runs.getD x run0 := ⟨_, rfl⟩
                            rw [← ey] at rc hnx hrB
                            obtain ⟨⟨g1_, g2_⟩, g3_⟩ := runB_iff.1 hrB
                            obtain ⟨⟨hf0, hf1⟩, ⟨ht0, ht1⟩, _⟩ := wayB_iff.1 g3_
                            have hyf : 0 ≤ y.y.fr ∧ y.y.fr ≤ 1000000 := ⟨hf0, by omega⟩
                            have hyt : 0 ≤ y.y.to ∧ y.y.to ≤ 1000000 := ⟨ht0, by omega⟩
                            refine EC.seq ?_
                            refine EC.region ?_
                            refine EL.val (x_lss rfl rfl (decide_eq_true (show (((x : Nat) : Int) < ((pl.runs.length : Nat) : Int)) by omega))) rfl ?_
                            refine EL.nil ?_
                            refine EX.seq ?_
                            refine EC.seq ?_
                            refine EC.yes rfl ?_
                            refine EC.skip ?_
                            refine EX.seq ?_
                            refine EC.seq ?_
                            refine EC.block ?_
                            refine EC.seq ?_
                            refine EC.region ?_
                            refine EL.val (ix_65 rfl rfl hlt3) rfl ?_
                            refine EL.val (ld_71 rfl (below_load hbw rc.c0) (below_load hbw rc.c1) (below_load hbw rc.c2) (below_load hbw rc.c3) (below_load hbw rc.c4)) rfl ?_
                            refine EL.newP al_71 rfl ?_
                            intro g30 w30 q30 hb30 hg30 hl30
                            have n1_30 : g1 ≠ g30 := Nat.ne_of_lt (Nat.lt_of_lt_of_le q1x.lt hg30)
                            have n2_30 : g2 ≠ g30 := Nat.ne_of_lt (Nat.lt_of_lt_of_le q2x.lt hg30)
                            have n3_30 : ga6_1 ≠ g30 := Nat.ne_of_lt (Nat.lt_of_lt_of_le q4x.lt hg30)
                            have bhbw_30 := Nat.le_trans hbw.size hg30
                            replace q1x := q1x.below hb30 q1x.lt
                            replace q2x := q2x.below hb30 q2x.lt
                            replace q4x := q4x.below hb30 q4x.lt
                            replace ho := own_below ho hb30 (Nat.le_refl _)
                            replace hbw := Below.on hbw hb30 hbw.size
                            clear hb30 hg30 hl30
                            refine EL.store rfl rfl q30 sz_71 rfl rfl rfl rfl ?_
                            intro w31 hq31 hg31
                            replace q1x := q1x.grown hg31 (fun h => n1_30 (Option.some.inj h))
                            replace q2x := q2x.grown hg31 (fun h => n2_30 (Option.some.inj h))
                            replace q4x := q4x.grown hg31 (fun h => n3_30 (Option.some.inj h))
                            replace ho := own_type ho q30 rfl hg31
                            replace hbw := below_store hbw hg31 bhbw_30
                            replace q30 := hq31
                            clear hg31 hq31
                            refine EL.nil ?_
                            refine EX.seq ?_
                            refine EC.seq ?_
                            refine EC.region ?_
                            refine EL.val (x_move rfl) rfl ?_
                            refine EL.val (fa_71_1 rfl) rfl ?_
                            refine EL.val (ld_3 rfl (q30.at (j := 4) rfl)) rfl ?_
                            refine EL.val (x_add rfl rfl (c := ((k : Nat) : Int) + y.wk) (IntWalk.i64_in _ ⟨by omega, by omega⟩)) rfl ?_
                            refine EL.val (x_assign rfl) rfl ?_
                            refine EL.nil ?_
                            refine EX.seq ?_
                            refine EC.seq ?_
                            refine EC.region ?_
                            refine EL.val (x_move rfl) rfl ?_
                            refine EL.val (x_move rfl) rfl ?_
                            by_cases hw : ((k : Nat) : Int) + y.wk < ((pl.prts.length : Nat) : Int)
                            ·
                              have hk2 := mul_rng (P := pl.store.length) (a := ((k : Nat) : Int) + y.wk) (n := pl.prts.length) (by omega) (by omega) hok.small
                              have hin : inW pl.prts.length k y = true := decide_eq_true hw
                              rw [if_pos hin] at hnx
                              refine EL.val (x_lss (r := true) rfl rfl (decide_eq_true (by omega))) rfl ?_
                              refine EL.nil ?_
                              refine EX.seq ?_
                              refine EC.yes rfl ?_
                              refine EC.region ?_
                              refine EL.val (x_move rfl) rfl ?_
                              refine EL.val (fa_71_0 rfl) rfl ?_
                              refine EL.val (ld_56 rfl (q30.at (j := 0) rfl) (q30.at (j := 1) rfl) (q30.at (j := 2) rfl) (q30.at (j := 3) rfl)) rfl ?_
                              refine EL.val (x_move rfl) rfl ?_
                              refine EL.val (x_move rfl) rfl ?_
                              have hg2_ : w.heap.size ≤ g2 := bhbw_2
                              have hszW := hbw.size
                              refine EL.call (clv_64_0_3_2 rfl rfl rfl rfl) rfl (add_any w.heap.size ga6_1 g2 y.y k (((k : Nat) : Int) + y.wk) ((wksTo pl.store.length pl.prts.length pl.store pl.runs k ++ stL pl.store.length k pl.store pl.store.length) ++ rnL pl.store.length pl.prts.length k (pl.runs.take x)) w31 q4x q2x n2_3 ho hg2_ hszW (by omega) hkP hk2 hyf hyt) ?_
                              rintro e w32 ⟨rfl, v32, wm32, hqn', hqP', ho2, hup', hgr1, hgr2⟩
                              refine ⟨_, rfl, ?_⟩
                              replace q1x := (blk_grown q1x ho rfl hgr1).grown hgr2 (fun h => n1_2 (Option.some.inj h))
                              replace q2x := hqn'
                              replace q4x := hqP'
                              replace q30 := (blk_grown q30 ho rfl hgr1).grown hgr2 (fun h => n2_30.symm (Option.some.inj h))
                              replace hbw := hbw.trans hup'.low
                              clear hqn' hqP' hup' hgr1 hgr2 ho
                              have ho := ho2
                              clear ho2
                              obtain ⟨A32, c32, rfl, _⟩ := (Rd.of_own ho).shape
                              refine EL.nil ?_
                              refine EX.blk ?_
                              refine EX.seq ?_
                              refine EC.region ?_
                              refine EL.val (x_add rfl rfl (c := ((x + 1 : Nat) : Int)) ((IntWalk.i64_in _ ⟨by first | omega | (simp only; omega), by first | omega | (simp only; omega)⟩).trans (by first | omega | (simp only; omega)))) rfl ?_
                              refine EL.val (x_move rfl) rfl ?_
                              refine EL.nil ?_
                              refine EX.roundD (x + 1, _) ⟨rfl, trivial⟩ (by repeat first | with_reducible exact Sub.refl _ | refine sub_past rfl ?_ | exact Sub.refl _ | refine sub_del rfl ?_ | refine sub_insL_nil ?_) ⟨hlt3, by show World.ownsRow _ _ _ _ _ ((wksTo pl.store.length pl.prts.length pl.store pl.runs k ++ stL pl.store.length k pl.store pl.store.length) ++ rnL pl.store.length pl.prts.length k (pl.runs.take (x + 1))).length (waysC ((wksTo pl.store.length pl.prts.length pl.store pl.runs k ++ stL pl.store.length k pl.store pl.store.length) ++ rnL pl.store.length pl.prts.length k (pl.runs.take (x + 1)))); rw [hnx]; exact own_n ho (by simp only [List.length_append, List.length_cons, List.length_nil]), q1x, q2x, q4x, hbw⟩ (by simp only; omega)
                            ·
                              have hin : ¬inW pl.prts.length k y = true := by unfold inW; rw [decide_eq_false hw]; decide
                              rw [if_neg hin, List.append_nil] at hnx
                              refine EL.val (x_lss (r := false) rfl rfl (decide_eq_false (by omega))) rfl ?_
                              refine EL.nil ?_
                              refine EX.seq ?_
                              refine EC.no rfl ?_
                              refine EC.skip ?_
                              refine EX.blk ?_
                              refine EX.seq ?_
                              refine EC.region ?_
                              refine EL.val (x_add rfl rfl (c := ((x + 1 : Nat) : Int)) ((IntWalk.i64_in _ ⟨by first | omega | (simp only; omega), by first | omega | (simp only; omega)⟩).trans (by first | omega | (simp only; omega)))) rfl ?_
                              refine EL.val (x_move rfl) rfl ?_
                              refine EL.nil ?_
                              refine EX.roundD (x + 1, _) ⟨rfl, trivial⟩ (by repeat first | with_reducible exact Sub.refl _ | refine sub_past rfl ?_ | exact Sub.refl _ | refine sub_del rfl ?_ | refine sub_insL_nil ?_) ⟨hlt3, by show World.ownsRow _ _ _ _ _ ((wksTo pl.store.length pl.prts.length pl.store pl.runs k ++ stL pl.store.length k pl.store pl.store.length) ++ rnL pl.store.length pl.prts.length k (pl.runs.take (x + 1))).length (waysC ((wksTo pl.store.length pl.prts.length pl.store pl.runs k ++ stL pl.store.length k pl.store pl.store.length) ++ rnL pl.store.length pl.prts.length k (pl.runs.take (x + 1)))); rw [hnx]; exact ho, q1x, q2x, q4x, hbw⟩ (by simp only; omega)
                          ·
                            have hxe : x = pl.runs.length := by omega
                            subst hxe
                            rw [List.take_length] at ho q2x
                            have hnw : (wksTo pl.store.length pl.prts.length pl.store pl.runs k ++ stL pl.store.length k pl.store pl.store.length) ++ rnL pl.store.length pl.prts.length k pl.runs = (wksTo pl.store.length pl.prts.length pl.store pl.runs (k + 1)) := by rw [List.append_assoc]; rfl
                            rw [hnw] at ho q2x
                            refine EC.seq ?_
                            refine EC.region ?_
                            refine EL.val (x_lss rfl rfl (decide_eq_false (show ¬(((pl.runs.length : Nat) : Int) < ((pl.runs.length : Nat) : Int)) by omega))) rfl ?_
                            refine EL.nil ?_
                            refine EX.seq ?_
                            refine EC.seq ?_
                            refine EC.no rfl ?_
                            refine EC.exit ?_
                            refine EX.seq_exit ?_
                            refine EX.seq_exit ?_
                            refine EX.blk_here ?_
                            refine EX.blk ?_
                            refine EX.seq ?_
                            refine EC.region ?_
                            refine EL.val (x_add rfl rfl (c := ((k + 1 : Nat) : Int)) ((IntWalk.i64_in _ ⟨by first | omega | (simp only; omega), by first | omega | (simp only; omega)⟩).trans (by first | omega | (simp only; omega)))) rfl ?_
                            refine EL.val (x_move rfl) rfl ?_
                            refine EL.nil ?_
                            refine EX.roundD (k + 1, _) ⟨rfl, trivial⟩ (by repeat first | with_reducible exact Sub.refl _ | refine sub_past rfl ?_ | exact Sub.refl _ | refine sub_del rfl ?_ | refine sub_insL_nil ?_) ⟨hlt, ho, q1x, q2x, q4x, hbw⟩ (by simp only; omega)
                      ·
                        have hke : k = V := by omega
                        subst hke
                        refine EC.seq ?_
                        refine EC.region ?_
                        refine EL.val (x_lss rfl rfl (decide_eq_false (show ¬(((k : Nat) : Int) < ((k : Nat) : Int)) by omega))) rfl ?_
                        refine EL.nil ?_
                        refine EX.seq ?_
                        refine EC.seq ?_
                        refine EC.no rfl ?_
                        refine EC.exit ?_
                        refine EX.seq_exit ?_
                        refine EX.seq_exit ?_
                        refine EX.blk_here ?_
                        refine EX.seq ?_
                        refine EC.seq ?_
                        refine EC.region ?_
                        refine EL.val (fa_67_0 rfl) rfl ?_
                        refine EL.val (ld_64 rfl (q1x.at (j := 0) rfl)) rfl ?_
                        refine EL.call (cl_61 rfl) rfl (concat_any pl.prts us _ _ B ((hr.below (hbw.mono hB)).prts) (Nat.le_trans hB hbw.size) (by omega) (by omega)) ?_
                        rintro e w33 ⟨⟨vc33, rfl, hoc33⟩, hc33⟩
                        refine ⟨_, rfl, ?_⟩
                        replace hoc33 := own_less hoc33 hbw.size
                        replace q1x := q1x.below hc33 q1x.lt
                        replace q2x := q2x.below hc33 q2x.lt
                        replace q4x := q4x.below hc33 q4x.lt
                        replace ho := own_below ho hc33 (Nat.le_refl _)
                        replace hbw := Below.on hbw hc33 hbw.size
                        clear hc33
                        obtain ⟨Ac33, cc33, rfl, _⟩ := (Rd.of_own hoc33).shape
                        refine EL.val (fa_25_0 rfl) rfl ?_
                        refine EL.store rfl rfl q2x sz_22 rfl rfl rfl rfl ?_
                        intro w34 hq34 hg34
                        replace q1x := q1x.grown hg34 (fun h => n1_2 (Option.some.inj h))
                        replace q4x := q4x.grown hg34 (fun h => n2_3.symm (Option.some.inj h))
                        replace ho := own_type ho q2x rfl hg34
                        replace hoc33 := own_type hoc33 q2x rfl hg34
                        replace hbw := below_store hbw hg34 bhbw_2
                        replace q2x := hq34
                        clear hg34 hq34
                        refine EL.nil ?_
                        refine EX.seq ?_
                        refine EC.seq ?_
                        refine EC.region ?_
                        refine EL.val (ld_25 rfl (q2x.at (j := 0) rfl) (q2x.at (j := 1) rfl)) rfl ?_
                        refine EL.store rfl rfl q2x sz_25 rfl rfl rfl rfl ?_
                        intro w35 hq35 hg35
                        replace q1x := q1x.grown hg35 (fun h => n1_2 (Option.some.inj h))
                        replace q4x := q4x.grown hg35 (fun h => n2_3.symm (Option.some.inj h))
                        replace ho := own_type ho q2x rfl hg35
                        replace hoc33 := own_type hoc33 q2x rfl hg35
                        replace hbw := below_store hbw hg35 bhbw_2
                        replace q2x := hq35
                        clear hg35 hq35
                        refine EL.val (x_assign rfl) rfl ?_
                        refine EL.nil ?_
                        refine EX.seq ?_
                        refine EC.ret ?_
                        exact EX.done (resct rfl rfl rfl (lv_25 (q2x.at (j := 0) rfl) (q2x.at (j := 1) rfl))) ⟨⟨_, _, 0, rfl, (plan_ok.2 hok).symm, .inl ⟨rfl, ⟨hoc33, by rw [show (expN pl).ways = (wksTo pl.store.length pl.prts.length pl.store pl.runs k) by show wksTo _ _ _ _ (pl.prts.length - 1) = _; rw [hV]; rfl]; exact ho⟩⟩⟩, hbw⟩
end Go.Proofs.Ytabgmnmpdjnjoaa
set_option linter.unusedVariables false
set_option linter.unusedSimpArgs false
namespace Go.Proofs.Ytabgmnmpdjnjoaa
open Go Go.RowKit
theorem list_getD_ext {l m : List Int} (hl : l.length = m.length) (h : ∀ i, i < l.length → l.getD i 0 = m.getD i 0) : l = m := by
  apply List.ext_getElem hl
  intro i h1 h2
  have := h i h1
  rwa [getD_in h1, getD_in h2] at this
/-- moves with what each port has more than it wants -/
structure MoreAt (nt : Net) (mo ov : List Int) : Prop where
  len : mo.length = nt.ways.length
  eov : ov = extL nt mo
  ok : okTo nt mo nt.ways.length = true
  nn : ∀ q, q < nt.ports.length → 0 ≤ ov.getD q 0
section
variable {nt : Net} {mo ov : List Int}
theorem MoreAt.lov (h : MoreAt nt mo ov) : ov.length = nt.ports.length := by rw [h.eov]; exact extTo_len _
theorem MoreAt.room (h : MoreAt nt mo ov) {i : Nat} (hi : i < nt.ways.length) : 0 ≤ mo.getD i 0 ∧ mo.getD i 0 ≤ (nt.ways.getD i way0).room := okTo_at h.ok hi
theorem MoreAt.bd (hv : netB nt = true) (h : MoreAt nt mo ov) (q : Nat) : -400000 ≤ ov.getD q 0 ∧ ov.getD q 0 ≤ 400000 := by
  obtain ⟨_, hw, _⟩ := netB_ok hv
  have := ext_bd (nt := nt) (mv := mo) hv nt.ways.length (Nat.le_refl _) h.ok q
  rw [h.eov]
  unfold extL
  omega
theorem MoreAt.step (hv : netB nt = true) (h : MoreAt nt mo ov) {i : Nat} (hi : i < nt.ways.length) {d : Int} (h0 : 0 ≤ mo.getD i 0 + d) (h1 : mo.getD i 0 + d ≤ (nt.ways.getD i way0).room) (h2 : 0 ≤ ov.getD (nt.ways.getD i way0).fr.toNat 0 - d) (h3 : 0 ≤ ov.getD (nt.ways.getD i way0).to.toNat 0 + d) :
    MoreAt nt (mo.set i (mo.getD i 0 + d)) ((ov.set (nt.ways.getD i way0).fr.toNat (ov.getD (nt.ways.getD i way0).fr.toNat 0 - d)).set (nt.ways.getD i way0).to.toNat (ov.getD (nt.ways.getD i way0).to.toNat 0 + d)) := by
  obtain ⟨_, _, _, hvw⟩ := netB_ok hv
  obtain ⟨⟨wf0, wf1⟩, ⟨wt0, wt1⟩, wne, _⟩ := hvw i hi
  have hl := h.len
  have hlo := h.lov
  have hat : ∀ v, v < nt.ports.length → ((ov.set (nt.ways.getD i way0).fr.toNat (ov.getD (nt.ways.getD i way0).fr.toNat 0 - d)).set (nt.ways.getD i way0).to.toNat (ov.getD (nt.ways.getD i way0).to.toNat 0 + d)).getD v 0 = ov.getD v 0 + (if v = (nt.ways.getD i way0).to.toNat then d else 0) - (if v = (nt.ways.getD i way0).fr.toNat then d else 0) := fun v hp => by
    rw [getD_set0 (by rw [List.length_set]; omega)]
    by_cases a : v = (nt.ways.getD i way0).to.toNat
    · rw [if_pos a, if_pos a, if_neg (by omega), a]; omega
    · rw [if_neg a, if_neg a, getD_set0 (by omega)]
      by_cases b : v = (nt.ways.getD i way0).fr.toNat
      · rw [if_pos b, if_pos b, b]; omega
      · rw [if_neg b, if_neg b]; omega
  refine ⟨by rw [List.length_set]; exact hl, ?_, ?_, fun q hq => ?_⟩
  · refine list_getD_ext (by rw [List.length_set, List.length_set, hlo]; exact (extTo_len _).symm) fun v hv' => ?_
    rw [List.length_set, List.length_set, hlo] at hv'
    have e1 := ext_sum (mv := mo) hv hv' nt.ways.length (Nat.le_refl _)
    have e2 := ext_sum (mv := mo.set i (mo.getD i 0 + d)) hv hv' nt.ways.length (Nat.le_refl _)
    have e3 : sumI (fun j => (if v = (nt.ways.getD j way0).to.toNat then (mo.set i (mo.getD i 0 + d)).getD j 0 else 0) - (if v = (nt.ways.getD j way0).fr.toNat then (mo.set i (mo.getD i 0 + d)).getD j 0 else 0)) nt.ways.length = sumI (fun j => ((if v = (nt.ways.getD j way0).to.toNat then mo.getD j 0 else 0) - (if v = (nt.ways.getD j way0).fr.toNat then mo.getD j 0 else 0)) + (if j = i then (if v = (nt.ways.getD i way0).to.toNat then d else 0) - (if v = (nt.ways.getD i way0).fr.toNat then d else 0) else 0)) nt.ways.length := sumI_congr fun j hj => by
      rw [getD_set0 (by omega)]
      by_cases e : j = i
      · subst e
        rw [if_pos rfl, if_pos rfl]
        split <;> split <;> omega
      · rw [if_neg e, if_neg e]; omega
    rw [sumI_add, sumI_at, if_pos hi] at e3
    rw [hat v hv', h.eov]
    unfold extL
    rw [e1, e2, e3]
    omega
  · unfold okTo
    rw [List.all_eq_true]
    intro j hj
    have hj := List.mem_range.1 hj
    have := h.room hj
    unfold okMv
    rw [inB_iff, getD_set0 (by omega)]
    by_cases e : j = i
    · subst e; rw [if_pos rfl]; omega
    · rw [if_neg e]; omega
  · rw [hat q hq]
    have := h.nn q hq
    by_cases a : q = (nt.ways.getD i way0).to.toNat
    · rw [if_pos a, if_neg (by omega)]; rw [← a] at h3; omega
    · rw [if_neg a]
      by_cases b : q = (nt.ways.getD i way0).fr.toNat
      · rw [if_pos b]; rw [← b] at h2; omega
      · rw [if_neg b]; omega
theorem MoreAt.back (hv : netB nt = true) (h : MoreAt nt mo ov) {i : Nat} (hi : i < nt.ways.length) {k : Int} (h0 : 0 ≤ mo.getD i 0 - k) (h1 : mo.getD i 0 - k ≤ (nt.ways.getD i way0).room) (h2 : 0 ≤ ov.getD (nt.ways.getD i way0).fr.toNat 0 + k) (h3 : 0 ≤ ov.getD (nt.ways.getD i way0).to.toNat 0 - k) :
    MoreAt nt (mo.set i (mo.getD i 0 - k)) ((ov.set (nt.ways.getD i way0).fr.toNat (ov.getD (nt.ways.getD i way0).fr.toNat 0 + k)).set (nt.ways.getD i way0).to.toNat (ov.getD (nt.ways.getD i way0).to.toNat 0 - k)) := by
  have key := h.step hv hi (d := -k) (by omega) (by omega) (by omega) (by omega)
  rw [show mo.getD i 0 + -k = mo.getD i 0 - k by omega, show ov.getD (nt.ways.getD i way0).fr.toNat 0 - -k = ov.getD (nt.ways.getD i way0).fr.toNat 0 + k by omega, show ov.getD (nt.ways.getD i way0).to.toNat 0 + -k = ov.getD (nt.ways.getD i way0).to.toNat 0 - k by omega] at key
  exact key
end
section
variable {nt : Net} {i : Nat}
end
end Go.Proofs.Ytabgmnmpdjnjoaa
set_option linter.unusedVariables false
set_option linter.unusedSimpArgs false
namespace Go.Proofs.Ytabgmnmpdjnjoaa
open Go Go.RowKit
section
variable {n : Nat} {σ : Sg} {w : World} {dst : Option Tmp} {ty : TypeId} {pos : String} {af : Array Edge} {g : Option (Nat × Bool)} {x y z : Operand} {at' : Array TypeId}
theorem ld_67 {b o : Nat} {v0 v1 v2 : Value} (hx : evS σ x = some (.pointer (some ⟨b, o, none⟩))) (c0 : w.cell? ⟨b, o, none⟩ = some v0) (c1 : w.cell? ⟨b, o + 1, none⟩ = some v1) (c2 : w.cell? ⟨b, o + 2, none⟩ = some v2) : Gives Try.prog n σ w ⟨dst, .load 67 x, ty, pos, af, g⟩ (.agg #[v0, v1, v2]) := fun a ha => by
  simp only [execOp, ha.eval hx]
  simp [go_sem, c0, c1, c2]
theorem cl_35 {x0 : Operand} {v0 : Value} (h0 : evS σ x0 = some v0) (a : Act) (ha : Env n σ a) : (execOp a.eval ⟨dst, .call { callee := .value (.func 35), args := #[x0], argTypes := at' }, ty, pos, af, g⟩).run Try.prog w = .ok (.enter 35 #[v0]) w := by
  simp only [execOp, resolve, List.map_toArray, List.map_cons, List.map_nil, ha.eval h0]
  simp [go_sem, Act.eval]
theorem al_67 (a : Act) (_ : Env n σ a) : (execOp a.eval ⟨dst, .alloc 67, ty, pos, af, g⟩).run Try.prog w = .ok (.value (.pointer (some ⟨w.heap.size, 0, none⟩))) (w.alloc (.cells #[.slice none 0 0, .slice none 0 0, .slice none 0 0] 67)) := by
  simp only [execOp]
  simp [go_sem]
theorem sz_67 : (Try.prog.info? 67).map (·.size) = some 3 := by kernel_rfl
theorem bs_64_0 (a : Act) (_ : Env n σ a) : (execOp a.eval ⟨dst, .buildSlice 64 0 #[], ty, pos, af, g⟩).run Try.prog w = .ok (.value (.slice (some ⟨w.heap.size, 0, none⟩) 0 0)) (w.alloc (.cells #[] 22)) := by
  simp only [execOp]
  go_simp
theorem bs_64_1 {x0 : Operand} {A0 : Option Addr} {m0 c0 : Nat} (h0 : evS σ x0 = some (.slice A0 m0 c0)) (a : Act) (ha : Env n σ a) : (execOp a.eval ⟨dst, .buildSlice 64 1 #[(0, x0)], ty, pos, af, g⟩).run Try.prog w = .ok (.value (.slice (some ⟨w.heap.size, 0, none⟩) 1 1)) (w.alloc (.cells #[.slice A0 m0 c0] 22)) := by
  simp only [execOp, List.map_toArray, List.map_cons, List.map_nil, ha.eval h0]
  go_simp
theorem sz_64 : (Try.prog.info? 64).map (·.size) = some 1 := by kernel_rfl
theorem bs_65_0 (a : Act) (_ : Env n σ a) : (execOp a.eval ⟨dst, .buildSlice 65 0 #[], ty, pos, af, g⟩).run Try.prog w = .ok (.value (.slice (some ⟨w.heap.size, 0, none⟩) 0 0)) (w.alloc (.cells #[] 71)) := by
  simp only [execOp]
  go_simp
theorem sz_65 : (Try.prog.info? 65).map (·.size) = some 1 := by kernel_rfl
end
end Go.Proofs.Ytabgmnmpdjnjoaa
set_option linter.unusedVariables false
set_option linter.unusedSimpArgs false
namespace Go.Proofs.Ytabgmnmpdjnjoaa
open Go Go.RowKit
theorem lps_info : (Try.prog.info? 22).map (fun i => (i.zero, i.size, i.bytes)) = some (some (.slice none 0 0), 1, 24) := by kernel_rfl
theorem lps_elem : Elem Try.prog 64 22 1 24 := Elem.mk' Try.underlying64 lps_info rfl (by omega)
theorem run_info : (Try.prog.info? 71).map (fun i => (i.zero, i.size, i.bytes)) = some (some (.agg #[.int .i64 0, .int .i64 0, .int .i64 0, .int .i64 0, .int .i64 0]), 5, 40) := by kernel_rfl
theorem run_elem : Elem Try.prog 65 71 5 40 := Elem.mk' Try.underlying65 run_info rfl (by omega)
theorem made_prt (n : Nat) : (madeCells (Value.agg #[.int .i64 0, .int .i64 0]).cells (n * 2)).toList = prtsC (List.replicate n prt0) := by
  have h1 : prtsC (List.replicate n prt0) = List.replicate (n * 2) (.int .i64 0) := by
    induction n with
    | zero => rfl
    | succ n ih =>
      rw [List.replicate_succ, Nat.succ_mul, List.replicate_succ', List.replicate_succ', ← ih]
      have e : ∀ m, List.replicate m (Value.int .i64 0) ++ [.int .i64 0] = .int .i64 0 :: List.replicate m (.int .i64 0) := fun m => by rw [← List.replicate_succ', List.replicate_succ]
      rw [ih, e, List.cons_append, e, ← ih]
      rfl
  rw [h1]
  apply List.ext_getElem?
  intro i
  by_cases h : i < n * 2
  · have h2 : i % 2 = 0 ∨ i % 2 = 1 := by omega
    rcases h2 with h2 | h2 <;> simp [madeCells, Value.cells, h, h2]
  · simp [madeCells, h]
section
variable {n : Nat} {σ : Sg} {L : List Oper} {cls : List (List Nat)} {alc : List Nat} {val : Nat → Value} {a : Act} {w1 : World} {i : Nat} {Q : Exit → Act → World → Prop}
theorem hs_makeP {Φ : Nat → (Nat → Value) → World → Prop} {d ty base m : Nat} {x : Operand} {pos : String} {af : Array Edge} (ha : Env n σ a) (ho : nthO L i = some ⟨some d, .makeSlice 22 x x, ty, pos, af, none⟩) (hx : evS σ x = some (.int .i64 (m : Nat))) (hm : m ≤ 1048576) (hbase : base ≤ w1.heap.size) (halc : memB alc i = false)
    (hΦ : ∀ g w', w'.ownsRow base 47 2 (.slice (some ⟨g, 0, none⟩) m m) m (prtsC (List.replicate m prt0)) → Φ i (res (upd val i (.slice (some ⟨g, 0, none⟩) m m)) i (clsAt cls i)) w') : wpOp Try.prog L.toArray Q i (HK L cls alc Φ i val a w1) a w1 := by
  obtain ⟨i0, hi, hz, hs, hb⟩ := info_parts prt_info
  obtain ⟨w', h1, h2, h3⟩ := run_make_full (P := Try.prog) (w := w1) base 22 47 i0 (.agg #[.int .i64 0, .int .i64 0]) 2 Try.underlying22 hi hz hs .i64 .i64 m (by rw [hb]; omega) (by unfold maxLen; omega) hbase
  rw [made_prt] at h2
  refine hs_run ho rfl (v := .slice (some ⟨w1.heap.size, 0, none⟩) m m) ?_ ((Below.refl w1.heap.size w1).grown h3 (Nat.le_refl _) fun g h => by cases h) (hΦ _ w' h2) fun h => by rw [memB_mem.2 h] at halc; cases halc
  simp only [execOp, ha.eval hx, Sem.run_bind, h1, Result.andThen_ok]
  rfl
end
theorem run_cut (l r : List Run) (c : Run) (x : Int) : spl (runsC (l ++ c :: r)) (0 + l.length * 5 + 2) [.int .i64 x] = runsC (l ++ ⟨⟨c.y.fr, c.y.to, x, c.y.room⟩, c.wk⟩ :: r) := by
  have e : ∀ (xs ys : List Value) (n : Nat), n = xs.length → spl (xs ++ ys) (n + 2) [.int .i64 x] = xs ++ spl ys 2 [.int .i64 x] := by
    intro xs
    induction xs with
    | nil => intro ys n hn; subst hn; rfl
    | cons u xs ih =>
      intro ys n hn
      obtain rfl : n = xs.length + 1 := hn
      show u :: spl (xs ++ ys) (xs.length + 2) _ = _
      rw [ih ys xs.length rfl]
      rfl
  rw [runsC_app, runsC_app, Nat.zero_add, e _ _ _ (by rw [runsC_len])]
  simp [runsC, runC, spl, ovr]
theorem spl_run {l : List Run} {k : Nat} {x : Int} (h : k < l.length) : spl (runsC l) (0 + k * 5 + 2) [.int .i64 x] = runsC (l.set k ⟨⟨(l.getD k run0).y.fr, (l.getD k run0).y.to, x, (l.getD k run0).y.room⟩, (l.getD k run0).wk⟩) := by
  have hL : l = l.take k ++ l.getD k run0 :: l.drop (k + 1) := by
    rw [show l.getD k run0 = l[k] by simp [List.getD, h], ← List.drop_eq_getElem_cons h, List.take_append_drop]
  have hl : (l.take k).length = k := by rw [List.length_take]; omega
  have key := run_cut (l.take k) (l.drop (k + 1)) (l.getD k run0) x
  rw [hl, ← hL] at key
  rw [key, List.set_eq_take_append_cons_drop, if_pos h]
theorem own_run_cells {w : World} {base be n c k : Nat} {S : List Run} (h : w.ownsRow base 71 5 (.slice (some ⟨be, 0, none⟩) n c) n (runsC S)) (hk : k < S.length) : RunAt w be (0 + k * 5) (S.getD k run0) := by
  obtain ⟨b, o, e, _, h0⟩ := runs_cells S k hk _ _ _ _ _ (Rd.of_own h)
  injection e with e
  injection e with e1 e2
  subst e1
  subst e2
  exact h0
theorem expand_ok {pl : Plan} (hp : PlanOk pl) (us : List Value) (vp vr vs : Value) (w : World) (B : Nat) (hr : RdPlan w B vp vr vs pl us) (hB : B ≤ w.heap.size) (hl1 : pl.prts.length ≤ 1000) (hl2 : pl.store.length ≤ 1000) (hl3 : pl.runs.length ≤ 1000) :
    Calls Try.prog 35 #[.agg #[vp, vr, vs]] w fun e w' => (∃ v1 v2, e = .returned (.tuple #[.agg #[v1, v2], .int .i64 0]) ∧ OwnNet w' w.heap.size v1 v2 (expN pl)) ∧ Below w.heap.size w w' := by
  refine (expand_any pl us vp vr vs w B hr hB hl1 hl2 hl3).mono ?_
  rintro e w' ⟨⟨v1, v2, er, rfl, her, h⟩, hb⟩
  rw [plan_ok.2 hp] at her
  subst her
  rcases h with ⟨_, h⟩ | ⟨h, _⟩
  · exact ⟨⟨v1, v2, rfl, h⟩, hb⟩
  · exact absurd rfl h
theorem expand_bad {pl : Plan} (hp : ¬planE pl = 0) (us : List Value) (vp vr vs : Value) (w : World) (B : Nat) (hr : RdPlan w B vp vr vs pl us) (hB : B ≤ w.heap.size) (hl1 : pl.prts.length ≤ 1000) (hl2 : pl.store.length ≤ 1000) (hl3 : pl.runs.length ≤ 1000) :
    Calls Try.prog 35 #[.agg #[vp, vr, vs]] w fun e w' => e = .returned (.tuple #[.agg #[.slice none 0 0, .slice none 0 0], .int .i64 (planE pl)]) ∧ Below w.heap.size w w' := by
  refine (expand_any pl us vp vr vs w B hr hB hl1 hl2 hl3).mono ?_
  rintro e w' ⟨⟨v1, v2, er, rfl, her, h⟩, hb⟩
  subst her
  rcases h with ⟨h, _⟩ | ⟨_, rfl, rfl⟩
  · exact absurd h hp
  · exact ⟨rfl, hb⟩
theorem long_w {pl : Plan} : (longP pl).prts.length = pl.prts.length + 1 := by simp [longP]
theorem long_rd {w : World} {B b1 b2 : Nat} {vp vr vs v u : Value} {pl : Plan} {us : List Value} (h : RdPlan w B vp vr vs pl us) (hB : B ≤ w.heap.size) (ho : w.ownsRow b1 22 1 v (pl.prts.length + 1) (us ++ [u])) (hu : w.ownsRow b2 47 2 u pl.store.length (prtsC (List.replicate pl.store.length prt0))) : RdPlan w w.heap.size v vr vs (longP pl) (us ++ [u]) := by
  have hl := h.prts.len
  refine ⟨⟨by rw [long_w, List.length_append, hl]; rfl, by rw [long_w]; exact Rd.of_own ho, fun i hi => ?_⟩, h.runs.more hB, h.store.more hB⟩
  rw [long_w] at hi
  show Rd _ _ _ _ ((pl.prts ++ [List.replicate pl.store.length prt0]).getD i []).length (((pl.prts ++ [List.replicate pl.store.length prt0]).getD i []).flatMap prtC)
  by_cases e : i < pl.prts.length
  · have e1 : (us ++ [u]).getD i undef = us.getD i undef := by rw [List.getD_eq_getElem?_getD, List.getElem?_append_left (by omega), ← List.getD_eq_getElem?_getD]
    have e2 : (pl.prts ++ [List.replicate pl.store.length prt0]).getD i [] = pl.prts.getD i [] := by rw [List.getD_eq_getElem?_getD, List.getElem?_append_left e, ← List.getD_eq_getElem?_getD]
    rw [e1, e2]
    exact (h.prts.row i e).more hB
  · obtain rfl : i = pl.prts.length := by omega
    have e1 : (us ++ [u]).getD pl.prts.length undef = u := by rw [List.getD_eq_getElem?_getD, ← hl]; simp
    have e2 : (pl.prts ++ [List.replicate pl.store.length prt0]).getD pl.prts.length [] = List.replicate pl.store.length prt0 := by rw [List.getD_eq_getElem?_getD]; simp
    rw [e1, e2, List.length_replicate]
    exact Rd.of_own hu
theorem dear_rd {w : World} {B b1 : Nat} {vp vr vs v : Value} {pl : Plan} {us : List Value} (h : RdPlan w B vp vr vs pl us) (hB : B ≤ w.heap.size) (ho : w.ownsRow b1 71 5 v pl.runs.length (runsC (dearTo pl.runs pl.runs.length))) : RdPlan w w.heap.size vp v vs (dearP pl) us :=
  ⟨h.prts.more hB, by rw [show (dearP pl).runs.length = pl.runs.length from dear_len _]; exact Rd.of_own ho, h.store.more hB⟩
set_option maxHeartbeats 4000000 in
set_option maxRecDepth 100000 in
theorem weeks_law (pl : Plan) (us : List Value) (vp vr vs : Value) (w : World) (B : Nat) (hr : RdPlan w B vp vr vs pl us) (hB : B ≤ w.heap.size) (hm1 : pl.prts.length ≤ 9223372036854775807) (hm2 : pl.store.length ≤ 9223372036854775807) (hm3 : pl.runs.length ≤ 9223372036854775807) :
    Calls Try.prog 10 #[.agg #[vp, vr, vs]] w fun e w' => e = .returned (.bool true) ∧ Below w.heap.size w w' := by
  obtain ⟨App, cpp, rfl, _⟩ := hr.prts.rd.shape
  obtain ⟨Arr, crr, rfl, _⟩ := hr.runs.shape
  obtain ⟨Ass, css, rfl, _⟩ := hr.store.shape
  have hbw := Below.refl w.heap.size w
  refine EC.enter 208 Try.func10 rfl rfl rfl ?_
  refine EC.seq ?_
  refine EC.region ?_
  refine EL.newP (bx_67 rfl) rfl ?_
  intro g1 w1 q1 hb1 hg1 hl1
  have bhbw_1 := Nat.le_trans hbw.size hg1
  replace hbw := Below.on hbw hb1 hbw.size
  clear hb1 hg1 hl1
  refine EL.val (x_assign rfl) rfl ?_
  refine EL.nil ?_
  refine EX.seq ?_
  refine EC.seq ?_
  refine EC.seq ?_
  refine EC.region ?_
  refine EL.val (fa_67_0 rfl) rfl ?_
  refine EL.val (ld_64 rfl (q1.at (j := 0) rfl)) rfl ?_
  refine EL.val (ln_64 rfl) rfl ?_
  by_cases lm1 : 5 < pl.prts.length
  ·
    refine EL.val (x_gtr (r := true) rfl rfl (decide_eq_true (by omega))) rfl ?_
    refine EL.val (x_move rfl) rfl ?_
    refine EL.skip rfl rfl rfl rfl ?_
    refine EL.skip rfl rfl rfl rfl ?_
    refine EL.skip rfl rfl rfl rfl ?_
    refine EL.skip rfl rfl rfl rfl ?_
    refine EL.val (x_pick_t rfl rfl) rfl ?_
    refine EL.val (x_move rfl) rfl ?_
    refine EL.skip rfl rfl rfl rfl ?_
    refine EL.skip rfl rfl rfl rfl ?_
    refine EL.skip rfl rfl rfl rfl ?_
    refine EL.skip rfl rfl rfl rfl ?_
    refine EL.val (x_pick_t rfl rfl) rfl ?_
    refine EL.nil ?_
    refine EX.seq ?_
    refine EC.yes rfl ?_
    refine EC.seq ?_
    refine EC.region ?_
    refine EL.call cl_13 rfl (known_any _) ?_
    rintro e w2 ⟨rfl, hc2⟩
    refine ⟨_, rfl, ?_⟩
    replace q1 := q1.below hc2 q1.lt
    replace hbw := Below.on hbw hc2 hbw.size
    clear hc2
    refine EL.val (x_assign rfl) rfl ?_
    refine EL.nil ?_
    refine EX.seq ?_
    refine EC.ret ?_
    refine EX.seq_ret ?_
    exact EX.done (res1 rfl rfl) ⟨rfl, hbw⟩
  ·
    refine EL.val (x_gtr (r := false) rfl rfl (decide_eq_false (by omega))) rfl ?_
    refine EL.val (x_move rfl) rfl ?_
    refine EL.valg rfl rfl (fa_67_2 rfl) rfl ?_
    refine EL.valg rfl rfl (ld_29 rfl (q1.at (j := 2) rfl)) rfl ?_
    refine EL.valg rfl rfl (ln_29 rfl) rfl ?_
    by_cases lm2 : 5 < pl.store.length
    ·
      refine EL.valg rfl rfl (x_gtr (r := true) rfl rfl (decide_eq_true (by omega))) rfl ?_
      refine EL.val (x_pick_f rfl rfl) rfl ?_
      refine EL.val (x_move rfl) rfl ?_
      refine EL.skip rfl rfl rfl rfl ?_
      refine EL.skip rfl rfl rfl rfl ?_
      refine EL.skip rfl rfl rfl rfl ?_
      refine EL.skip rfl rfl rfl rfl ?_
      refine EL.val (x_pick_t rfl rfl) rfl ?_
      refine EL.nil ?_
      refine EX.seq ?_
      refine EC.yes rfl ?_
      refine EC.seq ?_
      refine EC.region ?_
      refine EL.call cl_13 rfl (known_any _) ?_
      rintro e w3 ⟨rfl, hc3⟩
      refine ⟨_, rfl, ?_⟩
      replace q1 := q1.below hc3 q1.lt
      replace hbw := Below.on hbw hc3 hbw.size
      clear hc3
      refine EL.val (x_assign rfl) rfl ?_
      refine EL.nil ?_
      refine EX.seq ?_
      refine EC.ret ?_
      refine EX.seq_ret ?_
      exact EX.done (res1 rfl rfl) ⟨rfl, hbw⟩
    ·
      refine EL.valg rfl rfl (x_gtr (r := false) rfl rfl (decide_eq_false (by omega))) rfl ?_
      refine EL.val (x_pick_f rfl rfl) rfl ?_
      refine EL.val (x_move rfl) rfl ?_
      refine EL.valg rfl rfl (fa_67_1 rfl) rfl ?_
      refine EL.valg rfl rfl (ld_65 rfl (q1.at (j := 1) rfl)) rfl ?_
      refine EL.valg rfl rfl (ln_65 rfl) rfl ?_
      by_cases lm3 : 20 < pl.runs.length
      ·
        refine EL.valg rfl rfl (x_gtr (r := true) rfl rfl (decide_eq_true (by omega))) rfl ?_
        refine EL.val (x_pick_f rfl rfl) rfl ?_
        refine EL.nil ?_
        refine EX.seq ?_
        refine EC.yes rfl ?_
        refine EC.seq ?_
        refine EC.region ?_
        refine EL.call cl_13 rfl (known_any _) ?_
        rintro e w4 ⟨rfl, hc4⟩
        refine ⟨_, rfl, ?_⟩
        replace q1 := q1.below hc4 q1.lt
        replace hbw := Below.on hbw hc4 hbw.size
        clear hc4
        refine EL.val (x_assign rfl) rfl ?_
        refine EL.nil ?_
        refine EX.seq ?_
        refine EC.ret ?_
        refine EX.seq_ret ?_
        exact EX.done (res1 rfl rfl) ⟨rfl, hbw⟩
      ·
        refine EL.valg rfl rfl (x_gtr (r := false) rfl rfl (decide_eq_false (by omega))) rfl ?_
        refine EL.val (x_pick_f rfl rfl) rfl ?_
        refine EL.nil ?_
        refine EX.seq ?_
        refine EC.no rfl ?_
        refine EC.skip ?_
        refine EX.seq ?_
        refine EC.seq ?_
        refine EC.region ?_
        refine EL.val (ld_67 rfl (q1.at (j := 0) rfl) (q1.at (j := 1) rfl) (q1.at (j := 2) rfl)) rfl ?_
        by_cases hpe : planE pl = 0
        ·
          have hok := plan_ok.1 hpe
          have hok2 := long_ok hok (by omega) (by omega) (by omega)
          have hok3 := dear_ok hok (by omega) (by omega) (by omega)
          have hw1_ := hok.w1
          obtain ⟨⟨hA1, hA2⟩, hA3, _⟩ := netB_ok hok.net
          obtain ⟨⟨hB1, hB2⟩, hB3, _⟩ := netB_ok hok2.net
          obtain ⟨⟨hC1, hC2⟩, hC3, _⟩ := netB_ok hok3.net
          have hpl : ((expN pl).ports.length : Int) = ((pl.prts.length : Nat) : Int) * ((pl.store.length : Nat) : Int) := by rw [hok.ports, Int.natCast_mul]
          have hnE : netE (expN pl) = 0 := by rw [netE, if_pos hok.net]
          have hus1 : ∀ u ∈ us, u.oneCell' = true := fun u hu => by obtain ⟨_, _, _, rfl⟩ := hr.slices u hu; rfl
          have husl := hr.prts.len
          refine EL.call (cl_35 rfl) rfl (expand_ok hok us _ _ _ _ B (hr.below (hbw.mono hB)) (Nat.le_trans hB hbw.size) (by omega) (by omega) (by omega)) ?_
          rintro e w6 ⟨⟨v16, v26, rfl, hn1⟩, hc6⟩
          refine ⟨_, rfl, ?_⟩
          replace q1 := q1.below hc6 q1.lt
          replace hbw := Below.on hbw hc6 hbw.size
          clear hc6
          obtain ⟨Bp6, dp6, rfl, _⟩ := (Rd.of_own hn1.ports).shape
          obtain ⟨Bw6, dw6, rfl, _⟩ := (Rd.of_own hn1.ways).shape
          refine EL.val (x_move rfl) rfl ?_
          refine EL.val (x_extract rfl rfl) rfl ?_
          refine EL.val (x_extract rfl rfl) rfl ?_
          refine EL.newP al_25 rfl ?_
          intro g7 w7 q7 hb7 hg7 hl7
          have n1_7 : g1 ≠ g7 := Nat.ne_of_lt (Nat.lt_of_lt_of_le q1.lt hg7)
          have bhbw_7 := Nat.le_trans hbw.size hg7
          replace q1 := q1.below hb7 q1.lt
          replace hn1 := hn1.below hb7
          replace hbw := Below.on hbw hb7 hbw.size
          clear hb7 hg7 hl7
          refine EL.store rfl rfl q7 sz_25 rfl rfl rfl rfl ?_
          intro w8 hq8 hg8
          replace q1 := q1.grown hg8 (fun h => n1_7 (Option.some.inj h))
          replace hn1 := hn1.box q7 rfl rfl hg8
          replace hbw := below_store hbw hg8 bhbw_7
          replace q7 := hq8
          clear hg8 hq8
          refine EL.val (x_assign rfl) rfl ?_
          refine EL.nil ?_
          refine EX.seq ?_
          refine EC.seq ?_
          refine EC.seq ?_
          refine EC.region ?_
          refine EL.val (x_move rfl) rfl ?_
          refine EL.val (x_neq (r := false) rfl rfl (decide_eq_false (fun h => h rfl))) rfl ?_
          refine EL.nil ?_
          refine EX.seq ?_
          refine EC.no rfl ?_
          refine EC.skip ?_
          refine EX.seq ?_
          refine EC.seq ?_
          refine EC.seq ?_
          refine EC.region ?_
          refine EL.val (fa_67_0 rfl) rfl ?_
          refine EL.val (ld_64 rfl (q1.at (j := 0) rfl)) rfl ?_
          refine EL.val (ln_64 rfl) rfl ?_
          refine EL.val (x_eql (r := false) rfl rfl (decide_eq_false (by omega))) rfl ?_
          refine EL.val (x_move rfl) rfl ?_
          refine EL.valg rfl rfl (fa_25_0 rfl) rfl ?_
          refine EL.valg rfl rfl (ld_22 rfl (q7.at (j := 0) rfl)) rfl ?_
          refine EL.valg rfl rfl (ln_22 rfl) rfl ?_
          refine EL.valg rfl rfl (fa_67_0 rfl) rfl ?_
          refine EL.valg rfl rfl (ld_64 rfl (q1.at (j := 0) rfl)) rfl ?_
          refine EL.valg rfl rfl (ln_64 rfl) rfl ?_
          refine EL.valg rfl rfl (fa_67_2 rfl) rfl ?_
          refine EL.valg rfl rfl (ld_29 rfl (q1.at (j := 2) rfl)) rfl ?_
          refine EL.valg rfl rfl (ln_29 rfl) rfl ?_
          refine EL.valg rfl rfl (x_mul rfl rfl (c := ((pl.prts.length : Nat) : Int) * ((pl.store.length : Nat) : Int)) (IntWalk.i64_in _ ⟨by omega, by omega⟩)) rfl ?_
          refine EL.valg rfl rfl (x_neq (r := false) rfl rfl (decide_eq_false (fun h => h hpl))) rfl ?_
          refine EL.val (x_pick_f rfl rfl) rfl ?_
          refine EL.val (x_move rfl) rfl ?_
          refine EL.valg rfl rfl (ld_25 rfl (q7.at (j := 0) rfl) (q7.at (j := 1) rfl)) rfl ?_
          refine EL.callg rfl rfl (cl_14 rfl) rfl (copied_any (expN pl) _ _ _ _ hn1.rd (Nat.le_refl _) (by omega) (by omega)) ?_
          rintro e w9 ⟨⟨vp9, vw9, rfl, ho6⟩, hc9⟩
          refine ⟨_, rfl, ?_⟩
          replace q1 := q1.below hc9 q1.lt
          replace q7 := q7.below hc9 q7.lt
          replace hn1 := hn1.below hc9
          replace hbw := Below.on hbw hc9 hbw.size
          clear hc9
          obtain ⟨Bp9, dp9, rfl, _⟩ := (Rd.of_own ho6.ports).shape
          obtain ⟨Bw9, dw9, rfl, _⟩ := (Rd.of_own ho6.ways).shape
          refine EL.callg rfl rfl (cl_27 rfl) rfl (check_to hnE _ _ _ _ ho6.rd (Nat.le_refl _) (by omega) (by omega)) ?_
          rintro e w10 ⟨rfl, hc10⟩
          refine ⟨_, rfl, ?_⟩
          replace q1 := q1.below hc10 q1.lt
          replace q7 := q7.below hc10 q7.lt
          replace hn1 := hn1.below hc10
          replace ho6 := ho6.below hc10
          replace hbw := Below.on hbw hc10 hbw.size
          clear hc10
          refine EL.valg rfl rfl (x_neq (r := false) rfl rfl (decide_eq_false (fun h => h rfl))) rfl ?_
          refine EL.val (x_pick_f rfl rfl) rfl ?_
          refine EL.val (x_move rfl) rfl ?_
          refine EL.valg rfl rfl (fa_67_0 rfl) rfl ?_
          refine EL.valg rfl rfl (ld_64 rfl (q1.at (j := 0) rfl)) rfl ?_
          refine EL.valg rfl rfl (ln_64 rfl) rfl ?_
          by_cases lm4 : pl.prts.length = 1
          ·
            have hwz : (expN pl).ways.length = 0 := by rw [PlanOk.one lm4]; rfl
            refine EL.valg rfl rfl (x_eql (r := true) rfl rfl (decide_eq_true (by omega))) rfl ?_
            refine EL.valg rfl rfl (x_move rfl) rfl ?_
            refine EL.valg rfl rfl (fa_25_1 rfl) rfl ?_
            refine EL.valg rfl rfl (ld_23 rfl (q7.at (j := 1) rfl)) rfl ?_
            refine EL.valg rfl rfl (ln_23 rfl) rfl ?_
            refine EL.valg rfl rfl (x_neq (r := false) rfl rfl (decide_eq_false (by omega))) rfl ?_
            refine EL.valg rfl rfl (x_pick_t rfl rfl) rfl ?_
            refine EL.val (x_pick_f rfl rfl) rfl ?_
            refine EL.nil ?_
            refine EX.seq ?_
            refine EC.no rfl ?_
            refine EC.skip ?_
            refine EX.seq ?_
            refine EC.seq ?_
            refine EC.region ?_
            refine EL.val (ld_25 rfl (q7.at (j := 0) rfl) (q7.at (j := 1) rfl)) rfl ?_
            refine EL.call (cl_14 rfl) rfl (copied_any (expN pl) _ _ _ _ hn1.rd (Nat.le_refl _) (by omega) (by omega)) ?_
            rintro e w11 ⟨⟨vp11, vw11, rfl, ho8⟩, hc11⟩
            refine ⟨_, rfl, ?_⟩
            replace q1 := q1.below hc11 q1.lt
            replace q7 := q7.below hc11 q7.lt
            replace hn1 := hn1.below hc11
            replace hbw := Below.on hbw hc11 hbw.size
            clear hc11
            obtain ⟨Bp11, dp11, rfl, _⟩ := (Rd.of_own ho8.ports).shape
            obtain ⟨Bw11, dw11, rfl, _⟩ := (Rd.of_own ho8.ways).shape
            refine EL.call (cl_15 rfl) rfl (move_any (expN pl) _ _ _ _ ho8.rd (Nat.le_refl _) (by omega) (by omega)) ?_
            rintro e w12 ⟨⟨vm1, vr1, ml1, c1, pr1, e1, rfl, hmv1, _, _⟩, hc12⟩
            refine ⟨_, rfl, ?_⟩
            replace q1 := q1.below hc12 q1.lt
            replace q7 := q7.below hc12 q7.lt
            replace hbw := Below.on hbw hc12 hbw.size
            clear hc12
            refine EL.val (x_move rfl) rfl ?_
            refine EL.val (x_extract rfl rfl) rfl ?_
            refine EL.val (x_extract rfl rfl) rfl ?_
            refine EL.val (x_extract rfl rfl) rfl ?_
            refine EL.val (x_extract rfl rfl) rfl ?_
            refine EL.val (x_assign rfl) rfl ?_
            refine EL.val (x_assign rfl) rfl ?_
            refine EL.val (x_assign rfl) rfl ?_
            refine EL.val (x_assign rfl) rfl ?_
            refine EL.nil ?_
            refine EX.seq ?_
            refine EC.seq ?_
            have lt_1 := q1.lt
            have lt_7 := q7.lt
            refine EC.regionS [[], [], [], [], [0, 2, 3], [0, 1, 2, 3, 4]] 6 [2, 3] [4, 5] (fun _ w_ => Below w12.heap.size w12 w_) (phiS (fun i_ r => match i_ with | 0 => r 0 = .agg #[.slice App pl.prts.length cpp, .slice Arr pl.runs.length crr, .slice Ass pl.store.length css] | 1 => r 1 = .agg #[.slice App pl.prts.length cpp, .slice Arr pl.runs.length crr, .slice Ass pl.store.length css] | _ => True) [(2, fun fl r w_ => ∃ g_, r 2 = .pointer (some ⟨g_, 0, none⟩) ∧ w12.heap.size ≤ g_ ∧ (fl 4 = false → Blk w_ g_ 67 #[.slice none 0 0, .slice none 0 0, .slice none 0 0])), (3, fun fl r w_ => ∃ g_, r 3 = .pointer (some ⟨g_, 0, none⟩) ∧ w12.heap.size ≤ g_ ∧ (fl 5 = false → Blk w_ g_ 67 #[.slice none 0 0, .slice none 0 0, .slice none 0 0])), (4, fun _ r w_ => ∃ g_, r 2 = .pointer (some ⟨g_, 0, none⟩) ∧ Blk w_ g_ 67 #[.slice App pl.prts.length cpp, .slice Arr pl.runs.length crr, .slice Ass pl.store.length css]), (5, fun _ r w_ => ∃ g_, r 3 = .pointer (some ⟨g_, 0, none⟩) ∧ Blk w_ g_ 67 #[.slice App pl.prts.length cpp, .slice Arr pl.runs.length crr, .slice Ass pl.store.length css])]) (by kernel_rfl) rfl rfl (by intro i hi; simp at hi; first | (subst hi; exact ⟨by simp, by omega⟩) | (rcases hi with rfl | rfl | rfl <;> exact ⟨by simp, by omega⟩) | (rcases hi with rfl | rfl <;> exact ⟨by simp, by omega⟩)) (base_below w12) (phiS_cons monoS_alloc (phiS_cons monoS_alloc (phiS_cons monoS_store (phiS_cons monoS_store (phiS_nil))))) (fun i_ hi_ hs_ => ?_) (fun i_ hi_ => ?_) ?_
            · match i_, hi_ with
              | 0, _ =>
                intro val fl w1 a hb ha hd hfl
                have ha := ha.sub (Sub.ins (d := 1) (Sub.nil _) rfl)
                exact ss_val ha rfl rfl (ld_67 rfl ((q1.below hb q1.lt).at (j := 0) rfl) ((q1.below hb q1.lt).at (j := 1) rfl) ((q1.below hb q1.lt).at (j := 2) rfl)) rfl rfl
              | 1, _ =>
                intro val fl w1 a hb ha hd hfl
                have ha := ha.sub (Sub.ins (d := 1) (Sub.nil _) rfl)
                exact ss_val ha rfl rfl (ld_67 rfl ((q1.below hb q1.lt).at (j := 0) rfl) ((q1.below hb q1.lt).at (j := 1) rfl) ((q1.below hb q1.lt).at (j := 2) rfl)) rfl rfl
              | 2, _ =>
                intro val fl w1 a hb ha hd hfl
                have ha := ha.sub (Sub.nil _)
                exact ss_newP ha rfl rfl al_67 (fun g w' hq _ hge => ⟨g, rfl, Nat.le_trans hb.size hge, fun _ => hq⟩)
              | 3, _ =>
                intro val fl w1 a hb ha hd hfl
                have ha := ha.sub (Sub.nil _)
                exact ss_newP ha rfl rfl al_67 (fun g w' hq _ hge => ⟨g, rfl, Nat.le_trans hb.size hge, fun _ => hq⟩)
              | 4, _ =>
                exact absurd (by simp) hs_
              | 5, _ =>
                exact absurd (by simp) hs_
              | k + 6, h => exact absurd h (by omega)
            · simp only [List.mem_cons, List.not_mem_nil, or_false] at hi_; rcases hi_ with rfl | rfl
              ·
                intro val fl w1 a hb hfi ha hd hfl
                obtain ⟨g2_, e2, hg2_, q2_⟩ := hd 2 (memB_mem.1 rfl)
                change val 2 = _ at e2
                have e0 : val 0 = .agg #[.slice App pl.prts.length cpp, .slice Arr pl.runs.length crr, .slice Ass pl.store.length css] := hd 0 (memB_mem.1 rfl)
                have ha := ha.sub (Sub.ins (d := 99) (Sub.ins (d := 9) (Sub.nil _) (dep_get rfl e2)) (dep_get rfl e0))
                refine ts_store ha rfl rfl rfl (q2_ hfi) sz_67 rfl rfl rfl rfl ?_
                intro w' hq hgr
                refine ⟨undef, rfl, hgr.size, below_store hb hgr hg2_, ⟨g2_, e2, hq⟩, fun j _ hj hn hA => ?_⟩
                exact phiS_cons_st (C := fun j => j ≠ 4 ∧ 4 ∉ clsAt [[], [], [], [], [0, 2, 3], [0, 1, 2, 3, 4]] j ∧ ∀ p ∈ [2, 3], (p = j ∨ p ∈ clsAt [[], [], [], [], [0, 2, 3], [0, 1, 2, 3, 4]] j) → ∀ q ∈ [2, 3], (q = 4 ∨ q ∈ clsAt [[], [], [], [], [0, 2, 3], [0, 1, 2, 3, 4]] 4) → p ≠ q → val p ≠ val q) (fun _ ⟨g, h1, h2, _⟩ => ⟨g, h1, h2, fun h => by rw [fset_eq] at h; cases h⟩) (phiS_cons_st (C := fun j => j ≠ 4 ∧ 4 ∉ clsAt [[], [], [], [], [0, 2, 3], [0, 1, 2, 3, 4]] j ∧ ∀ p ∈ [2, 3], (p = j ∨ p ∈ clsAt [[], [], [], [], [0, 2, 3], [0, 1, 2, 3, 4]] j) → ∀ q ∈ [2, 3], (q = 4 ∨ q ∈ clsAt [[], [], [], [], [0, 2, 3], [0, 1, 2, 3, 4]] 4) → p ≠ q → val p ≠ val q) (fun hc ⟨g, h1, h2, h3⟩ => ⟨g, h1, h2, fun h => (h3 (by rwa [fset_ne rfl] at h)).grown hgr (fun h => hc.2.2 3 (by simp) (.inl rfl) 2 (by simp) (.inr (memB_mem.1 rfl)) (by simp) (by have h1' : val 3 = _ := h1; rw [h1', e2]; injection h with h; rw [h]))⟩) (phiS_cons_st (C := fun j => j ≠ 4 ∧ 4 ∉ clsAt [[], [], [], [], [0, 2, 3], [0, 1, 2, 3, 4]] j ∧ ∀ p ∈ [2, 3], (p = j ∨ p ∈ clsAt [[], [], [], [], [0, 2, 3], [0, 1, 2, 3, 4]] j) → ∀ q ∈ [2, 3], (q = 4 ∨ q ∈ clsAt [[], [], [], [], [0, 2, 3], [0, 1, 2, 3, 4]] 4) → p ≠ q → val p ≠ val q) (fun hc => absurd rfl hc.1) (phiS_cons_st (C := fun j => j ≠ 4 ∧ 4 ∉ clsAt [[], [], [], [], [0, 2, 3], [0, 1, 2, 3, 4]] j ∧ ∀ p ∈ [2, 3], (p = j ∨ p ∈ clsAt [[], [], [], [], [0, 2, 3], [0, 1, 2, 3, 4]] j) → ∀ q ∈ [2, 3], (q = 4 ∨ q ∈ clsAt [[], [], [], [], [0, 2, 3], [0, 1, 2, 3, 4]] 4) → p ≠ q → val p ≠ val q) (fun hc ⟨g, h1, h2⟩ => ⟨g, h1, h2.grown hgr (fun h => hc.2.2 3 (by simp) (.inr (memB_mem.1 rfl)) 2 (by simp) (.inr (memB_mem.1 rfl)) (by simp) (by have h1' : val 3 = _ := h1; rw [h1', e2]; injection h with h; rw [h]))⟩) (fun _ _ h => h)))) j ⟨hj, hn, hA⟩
              ·
                intro val fl w1 a hb hfi ha hd hfl
                obtain ⟨g3_, e3, hg3_, q3_⟩ := hd 3 (memB_mem.1 rfl)
                change val 3 = _ at e3
                have e1 : val 1 = .agg #[.slice App pl.prts.length cpp, .slice Arr pl.runs.length crr, .slice Ass pl.store.length css] := hd 1 (memB_mem.1 rfl)
                have ha := ha.sub (Sub.ins (d := 100) (Sub.ins (d := 10) (Sub.nil _) (dep_get rfl e3)) (dep_get rfl e1))
                refine ts_store ha rfl rfl rfl (q3_ hfi) sz_67 rfl rfl rfl rfl ?_
                intro w' hq hgr
                refine ⟨undef, rfl, hgr.size, below_store hb hgr hg3_, ⟨g3_, e3, hq⟩, fun j _ hj hn hA => ?_⟩
                exact phiS_cons_st (C := fun j => j ≠ 5 ∧ 5 ∉ clsAt [[], [], [], [], [0, 2, 3], [0, 1, 2, 3, 4]] j ∧ ∀ p ∈ [2, 3], (p = j ∨ p ∈ clsAt [[], [], [], [], [0, 2, 3], [0, 1, 2, 3, 4]] j) → ∀ q ∈ [2, 3], (q = 5 ∨ q ∈ clsAt [[], [], [], [], [0, 2, 3], [0, 1, 2, 3, 4]] 5) → p ≠ q → val p ≠ val q) (fun hc ⟨g, h1, h2, h3⟩ => ⟨g, h1, h2, fun h => (h3 (by rwa [fset_ne rfl] at h)).grown hgr (fun h => hc.2.2 2 (by simp) (.inl rfl) 3 (by simp) (.inr (memB_mem.1 rfl)) (by simp) (by have h1' : val 2 = _ := h1; rw [h1', e3]; injection h with h; rw [h]))⟩) (phiS_cons_st (C := fun j => j ≠ 5 ∧ 5 ∉ clsAt [[], [], [], [], [0, 2, 3], [0, 1, 2, 3, 4]] j ∧ ∀ p ∈ [2, 3], (p = j ∨ p ∈ clsAt [[], [], [], [], [0, 2, 3], [0, 1, 2, 3, 4]] j) → ∀ q ∈ [2, 3], (q = 5 ∨ q ∈ clsAt [[], [], [], [], [0, 2, 3], [0, 1, 2, 3, 4]] 5) → p ≠ q → val p ≠ val q) (fun _ ⟨g, h1, h2, _⟩ => ⟨g, h1, h2, fun h => by rw [fset_eq] at h; cases h⟩) (phiS_cons_st (C := fun j => j ≠ 5 ∧ 5 ∉ clsAt [[], [], [], [], [0, 2, 3], [0, 1, 2, 3, 4]] j ∧ ∀ p ∈ [2, 3], (p = j ∨ p ∈ clsAt [[], [], [], [], [0, 2, 3], [0, 1, 2, 3, 4]] j) → ∀ q ∈ [2, 3], (q = 5 ∨ q ∈ clsAt [[], [], [], [], [0, 2, 3], [0, 1, 2, 3, 4]] 5) → p ≠ q → val p ≠ val q) (fun hc ⟨g, h1, h2⟩ => ⟨g, h1, h2.grown hgr (fun h => hc.2.2 2 (by simp) (.inr (memB_mem.1 rfl)) 3 (by simp) (.inr (memB_mem.1 rfl)) (by simp) (by have h1' : val 2 = _ := h1; rw [h1', e3]; injection h with h; rw [h]))⟩) (phiS_cons_st (C := fun j => j ≠ 5 ∧ 5 ∉ clsAt [[], [], [], [], [0, 2, 3], [0, 1, 2, 3, 4]] j ∧ ∀ p ∈ [2, 3], (p = j ∨ p ∈ clsAt [[], [], [], [], [0, 2, 3], [0, 1, 2, 3, 4]] j) → ∀ q ∈ [2, 3], (q = 5 ∨ q ∈ clsAt [[], [], [], [], [0, 2, 3], [0, 1, 2, 3, 4]] 5) → p ≠ q → val p ≠ val q) (fun hc => absurd rfl hc.1) (fun _ _ h => h)))) j ⟨hj, hn, hA⟩
            · intro val fl wR9 hfl hb halc hd
              have e0 : val 0 = .agg #[.slice App pl.prts.length cpp, .slice Arr pl.runs.length crr, .slice Ass pl.store.length css] := hd 0 (by omega)
              have e1 : val 1 = .agg #[.slice App pl.prts.length cpp, .slice Arr pl.runs.length crr, .slice Ass pl.store.length css] := hd 1 (by omega)
              obtain ⟨ga2_9, e2, qa2_9⟩ := hd 4 (by omega)
              change val 2 = _ at e2
              obtain ⟨ga3_9, e3, qa3_9⟩ := hd 5 (by omega)
              change val 3 = _ at e3
              refine EL.ends (cs := [.agg #[.slice App pl.prts.length cpp, .slice Arr pl.runs.length crr, .slice Ass pl.store.length css], .agg #[.slice App pl.prts.length cpp, .slice Arr pl.runs.length crr, .slice Ass pl.store.length css], .pointer (some ⟨ga2_9, 0, none⟩), .pointer (some ⟨ga3_9, 0, none⟩), val 4, val 5]) ⟨e0, e1, e2, e3, rfl, rfl, trivial⟩ rfl ?_
              replace q1 := q1.below hb q1.lt
              replace q7 := q7.below hb q7.lt
              have bge13 := alc_ge halc (i := 2) rfl rfl e2
              have n1_13 : g1 ≠ ga2_9 := Nat.ne_of_lt (Nat.lt_of_lt_of_le lt_1 bge13)
              have n7_13 : g7 ≠ ga2_9 := Nat.ne_of_lt (Nat.lt_of_lt_of_le lt_7 bge13)
              have bhbw_13 := Nat.le_trans hbw.size bge13
              have bge14 := alc_ge halc (i := 3) rfl rfl e3
              have n1_14 : g1 ≠ ga3_9 := Nat.ne_of_lt (Nat.lt_of_lt_of_le lt_1 bge14)
              have n7_14 : g7 ≠ ga3_9 := Nat.ne_of_lt (Nat.lt_of_lt_of_le lt_7 bge14)
              have n13_14 : ga2_9 ≠ ga3_9 := alc_ne halc (i := 2) (j := 3) rfl rfl rfl rfl rfl e2 e3
              have bhbw_14 := Nat.le_trans hbw.size bge14
              replace hbw := Below.on hbw hb hbw.size
              refine EL.nil ?_
              refine EX.seq ?_
              refine EC.seq ?_
              have hszR := hbw.size
              have lt_1 := q1.lt
              have lt_7 := q7.lt
              have lt_13 := qa2_9.lt
              have lt_14 := qa3_9.lt
              refine EC.regionP [[], [], [1], [0, 1, 2], [], [4], [4, 5], [4, 5, 6], [4, 5, 6, 7], [0, 1, 2, 3, 4, 5, 6, 7, 8], [0, 1, 2, 3, 4, 5, 6, 7, 8, 9], [0, 1, 2, 3, 4, 5, 6, 7, 8, 9, 10]] 9 [] (phi (fun i_ r => match i_ with | 1 => r 1 = .pointer (some ⟨g1, 0, none⟩) | 2 => r 2 = .slice App pl.prts.length cpp | 4 => r 4 = .pointer (some ⟨g1, 2, none⟩) | 5 => r 5 = .slice Ass pl.store.length css | 6 => r 6 = .int .i64 (pl.store.length : Nat) | _ => True) [(0, fun r w_ => ∃ g_, r 0 = .slice (some ⟨g_, 0, none⟩) 0 0 ∧ Blk w_ g_ 22 #[] ∧ wR9.heap.size ≤ g_), (3, fun r w_ => ∃ A_ c_, r 3 = .slice A_ pl.prts.length c_ ∧ w_.ownsRow wR9.heap.size 22 1 (.slice A_ pl.prts.length c_) pl.prts.length us), (7, fun r w_ => ∃ g_, r 7 = .slice (some ⟨g_, 0, none⟩) pl.store.length pl.store.length ∧ w_.ownsRow wR9.heap.size 47 2 (.slice (some ⟨g_, 0, none⟩) pl.store.length pl.store.length) pl.store.length (prtsC (List.replicate pl.store.length prt0))), (8, fun r w_ => ∃ g_, r 8 = .slice (some ⟨g_, 0, none⟩) 1 1 ∧ Blk w_ g_ 22 #[r 7] ∧ wR9.heap.size ≤ g_)]) (by kernel_rfl) rfl rfl (phi_cons mono_bs (phi_cons mono_cp (phi_cons (by rintro _ _ _ hb ⟨g, h1, h2⟩; exact ⟨g, h1, own_below h2 hb (Nat.le_refl _)⟩) (phi_cons mono_bs (phi_nil))))) (fun i_ hi_ => ?_) ?_
              · match i_, hi_ with
                | 0, _ =>
                  intro val w1 a hb ha hd
                  have ha := ha.sub (Sub.nil _)
                  exact hs_newS ha rfl rfl (bs_64_0) rfl (fun g w' hq _ hge => ⟨g, rfl, hq, Nat.le_trans hb.size hge⟩)
                | 1, _ =>
                  intro val w1 a hb ha hd
                  have ha := ha.sub (Sub.ins (d := 1) (Sub.nil _) rfl)
                  exact hs_val ha rfl rfl (fa_67_0 rfl) rfl rfl
                | 2, _ =>
                  intro val w1 a hb ha hd
                  have e1 : val 1 = .pointer (some ⟨g1, 0, none⟩) := hd 1 (memB_mem.1 rfl)
                  have ha := ha.sub (Sub.ins (d := 102) (Sub.nil _) (dep_get rfl e1))
                  exact hs_val ha rfl rfl (ld_64 rfl ((q1.below hb q1.lt).at (j := 0) rfl)) rfl rfl
                | 3, _ =>
                  intro val w1 a hb ha hd
                  obtain ⟨g0_, e0, q0_, h0_⟩ := hd 0 (memB_mem.1 rfl)
                  change val 0 = _ at e0
                  have e2 : val 2 = .slice App pl.prts.length cpp := hd 2 (memB_mem.1 rfl)
                  have ha := ha.sub (Sub.ins (d := 103) (Sub.ins (d := 101) (Sub.nil _) (dep_get rfl e0)) (dep_get rfl e2))
                  refine hs_copy lps_elem ha rfl rfl rfl q0_ h0_ (hr.prts.rd.below ((Below.on hbw hb hbw.size).mono hB)) hus1 (by omega) rfl hb.size rfl (fun v' w' ho => ?_)
                  obtain ⟨A, c9, rfl, _⟩ := (Rd.of_own ho).shape
                  exact ⟨A, c9, rfl, ho⟩
                | 4, _ =>
                  intro val w1 a hb ha hd
                  have ha := ha.sub (Sub.ins (d := 1) (Sub.nil _) rfl)
                  exact hs_val ha rfl rfl (fa_67_2 rfl) rfl rfl
                | 5, _ =>
                  intro val w1 a hb ha hd
                  have e4 : val 4 = .pointer (some ⟨g1, 2, none⟩) := hd 4 (memB_mem.1 rfl)
                  have ha := ha.sub (Sub.ins (d := 105) (Sub.nil _) (dep_get rfl e4))
                  exact hs_val ha rfl rfl (ld_29 rfl ((q1.below hb q1.lt).at (j := 2) rfl)) rfl rfl
                | 6, _ =>
                  intro val w1 a hb ha hd
                  have e5 : val 5 = .slice Ass pl.store.length css := hd 5 (memB_mem.1 rfl)
                  have ha := ha.sub (Sub.ins (d := 106) (Sub.nil _) (dep_get rfl e5))
                  exact hs_val ha rfl rfl (ln_29 rfl) rfl rfl
                | 7, _ =>
                  intro val w1 a hb ha hd
                  have e6 : val 6 = .int .i64 (pl.store.length : Nat) := hd 6 (memB_mem.1 rfl)
                  have ha := ha.sub (Sub.ins (d := 107) (Sub.nil _) (dep_get rfl e6))
                  exact hs_makeP (base := wR9.heap.size) ha rfl rfl (by omega) hb.size rfl (fun g w' ho => ⟨g, rfl, ho⟩)
                | 8, _ =>
                  intro val w1 a hb ha hd
                  obtain ⟨ga7_, e7, o7_⟩ := hd 7 (memB_mem.1 rfl)
                  change val 7 = _ at e7
                  have ha := ha.sub (Sub.ins (d := 108) (Sub.nil _) (dep_get rfl e7))
                  exact hs_newS ha rfl rfl (bs_64_1 rfl) rfl (fun g w' hq _ hge => ⟨g, rfl, (by show Blk _ _ _ #[val 7]; rw [e7]; exact hq), Nat.le_trans hb.size hge⟩)
                | k + 9, h => exact absurd h (by omega)
              · intro val wR10 hb halc hd
                obtain ⟨ga0_10, e0, qa0_10, hga0_10⟩ := hd 0 (by omega)
                change val 0 = _ at e0
                change Blk wR10 ga0_10 22 #[] at qa0_10
                have e1 : val 1 = .pointer (some ⟨g1, 0, none⟩) := hd 1 (by omega)
                have e2 : val 2 = .slice App pl.prts.length cpp := hd 2 (by omega)
                obtain ⟨A3_, c3_, e3, o3_⟩ := hd 3 (by omega)
                have e4 : val 4 = .pointer (some ⟨g1, 2, none⟩) := hd 4 (by omega)
                have e5 : val 5 = .slice Ass pl.store.length css := hd 5 (by omega)
                have e6 : val 6 = .int .i64 (pl.store.length : Nat) := hd 6 (by omega)
                obtain ⟨ga7_, e7, o7_⟩ := hd 7 (by omega)
                change val 7 = _ at e7
                obtain ⟨ga8_10, e8, qa8_10, hga8_10⟩ := hd 8 (by omega)
                change val 8 = _ at e8
                change Blk wR10 ga8_10 22 #[val 7] at qa8_10
                rw [e7] at qa8_10
                refine EL.ends (cs := [.slice (some ⟨ga0_10, 0, none⟩) 0 0, .pointer (some ⟨g1, 0, none⟩), .slice App pl.prts.length cpp, .slice A3_ pl.prts.length c3_, .pointer (some ⟨g1, 2, none⟩), .slice Ass pl.store.length css, .int .i64 (pl.store.length : Nat), .slice (some ⟨ga7_, 0, none⟩) pl.store.length pl.store.length, .slice (some ⟨ga8_10, 0, none⟩) 1 1]) ⟨e0, e1, e2, e3, e4, e5, e6, e7, e8, trivial⟩ rfl ?_
                replace q1 := q1.below hb q1.lt
                replace q7 := q7.below hb q7.lt
                replace qa2_9 := qa2_9.below hb qa2_9.lt
                replace qa3_9 := qa3_9.below hb qa3_9.lt
                have n1_15 : g1 ≠ ga0_10 := Nat.ne_of_lt (Nat.lt_of_lt_of_le lt_1 hga0_10)
                have n7_15 : g7 ≠ ga0_10 := Nat.ne_of_lt (Nat.lt_of_lt_of_le lt_7 hga0_10)
                have n13_15 : ga2_9 ≠ ga0_10 := Nat.ne_of_lt (Nat.lt_of_lt_of_le lt_13 hga0_10)
                have n14_15 : ga3_9 ≠ ga0_10 := Nat.ne_of_lt (Nat.lt_of_lt_of_le lt_14 hga0_10)
                have bhbw_15 := Nat.le_trans hbw.size hga0_10
                have n1_16 : g1 ≠ ga8_10 := Nat.ne_of_lt (Nat.lt_of_lt_of_le lt_1 hga8_10)
                have n7_16 : g7 ≠ ga8_10 := Nat.ne_of_lt (Nat.lt_of_lt_of_le lt_7 hga8_10)
                have n13_16 : ga2_9 ≠ ga8_10 := Nat.ne_of_lt (Nat.lt_of_lt_of_le lt_13 hga8_10)
                have n14_16 : ga3_9 ≠ ga8_10 := Nat.ne_of_lt (Nat.lt_of_lt_of_le lt_14 hga8_10)
                have bhbw_16 := Nat.le_trans hbw.size hga8_10
                replace hbw := Below.on hbw hb hbw.size
                clear hb
                replace o3_ := own_less o3_ hszR
                replace o7_ := own_less o7_ hszR
                refine EL.push lps_elem rfl rfl o3_ (rd_one (l := [.slice (some ⟨ga7_, 0, none⟩) pl.store.length pl.store.length]) qa8_10 rfl) (by intro u hu; rw [List.mem_singleton.1 hu]; rfl) (by omega) rfl hbw.size rfl ?_
                intro v17 w17 ho3 hgr hb_ hat
                replace o7_ := own_grown o7_ o3_ rfl hgr
                replace q1 := blk_grown q1 o3_ rfl hgr
                replace q7 := blk_grown q7 o3_ rfl hgr
                replace qa2_9 := blk_grown qa2_9 o3_ rfl hgr
                replace qa3_9 := blk_grown qa3_9 o3_ rfl hgr
                replace hbw := hbw.trans hb_
                clear o3_ hgr hb_ hat
                have o3_ := ho3
                clear ho3
                obtain ⟨AL, cL, rfl, _⟩ := (Rd.of_own o3_).shape
                refine EL.val (fa_67_0 rfl) rfl ?_
                refine EL.store rfl rfl qa2_9 sz_64 rfl rfl rfl rfl ?_
                intro w18 hq18 hg18
                replace q1 := q1.grown hg18 (fun h => n1_13 (Option.some.inj h))
                replace q7 := q7.grown hg18 (fun h => n7_13 (Option.some.inj h))
                replace qa3_9 := qa3_9.grown hg18 (fun h => n13_14.symm (Option.some.inj h))
                replace o3_ := own_type o3_ qa2_9 rfl hg18
                replace o7_ := own_type o7_ qa2_9 rfl hg18
                replace hbw := below_store hbw hg18 bhbw_13
                replace qa2_9 := hq18
                clear hg18 hq18
                refine EL.nil ?_
                refine EX.seq ?_
                refine EC.seq ?_
                refine EC.region ?_
                have hszb := hbw.size
                refine EL.newS bs_65_0 rfl ?_
                intro g19 w19 q19 hb19 hg19 hl19
                have n1_19 : g1 ≠ g19 := Nat.ne_of_lt (Nat.lt_of_lt_of_le q1.lt hg19)
                have n7_19 : g7 ≠ g19 := Nat.ne_of_lt (Nat.lt_of_lt_of_le q7.lt hg19)
                have n13_19 : ga2_9 ≠ g19 := Nat.ne_of_lt (Nat.lt_of_lt_of_le qa2_9.lt hg19)
                have n14_19 : ga3_9 ≠ g19 := Nat.ne_of_lt (Nat.lt_of_lt_of_le qa3_9.lt hg19)
                have bhbw_19 := Nat.le_trans hbw.size hg19
                replace q1 := q1.below hb19 q1.lt
                replace q7 := q7.below hb19 q7.lt
                replace qa2_9 := qa2_9.below hb19 qa2_9.lt
                replace qa3_9 := qa3_9.below hb19 qa3_9.lt
                replace o3_ := own_below o3_ hb19 (Nat.le_refl _)
                replace o7_ := own_below o7_ hb19 (Nat.le_refl _)
                replace hbw := Below.on hbw hb19 hbw.size
                clear hb19 hl19
                refine EL.val (fa_67_1 rfl) rfl ?_
                refine EL.val (ld_65 rfl (q1.at (j := 1) rfl)) rfl ?_
                refine EL.copy run_elem rfl rfl (base := w.heap.size) q19 (Nat.le_trans hszb hg19) ((hr.below (hbw.mono hB)).runs) (runsC_one _) (by omega) (by omega) hbw.size rfl ?_
                intro v20 w20 hod hb20
                replace q1 := q1.below hb20 q1.lt
                replace q7 := q7.below hb20 q7.lt
                replace qa2_9 := qa2_9.below hb20 qa2_9.lt
                replace qa3_9 := qa3_9.below hb20 qa3_9.lt
                replace o3_ := own_below o3_ hb20 (Nat.le_refl _)
                replace o7_ := own_below o7_ hb20 (Nat.le_refl _)
                replace hbw := Below.on hbw hb20 hbw.size
                clear hb20
                obtain ⟨AD, cD, rfl, _⟩ := (Rd.of_own hod).shape
                refine EL.val (fa_67_1 rfl) rfl ?_
                refine EL.store rfl rfl qa3_9 sz_65 rfl rfl rfl rfl ?_
                intro w21 hq21 hg21
                replace q1 := q1.grown hg21 (fun h => n1_14 (Option.some.inj h))
                replace q7 := q7.grown hg21 (fun h => n7_14 (Option.some.inj h))
                replace qa2_9 := qa2_9.grown hg21 (fun h => n13_14 (Option.some.inj h))
                replace o3_ := own_type o3_ qa3_9 rfl hg21
                replace o7_ := own_type o7_ qa3_9 rfl hg21
                replace hod := own_type hod qa3_9 rfl hg21
                replace hbw := below_store hbw hg21 bhbw_14
                replace qa3_9 := hq21
                clear hg21 hq21
                refine EL.nil ?_
                refine EX.seq ?_
                refine EC.seq ?_
                refine EC.seq ?_
                refine EC.region ?_
                refine EL.val (x_assign rfl) rfl ?_
                refine EL.nil ?_
                refine EX.seq ?_
                refine EC.block ?_
                refine EC.loopD [11, 117, 118, 119, 120, 121, 122, 123, 124, 125, 126, 127, 128, 129, 130, 131, 132, 133, 134, 135, 136, 137, 138, 139, 140, 141] (fun x : Nat => [(11, .int .i64 (x : Nat))]) (fun x W => x ≤ pl.runs.length ∧ W.ownsRow w.heap.size 71 5 (.slice AD pl.runs.length cD) pl.runs.length (runsC (dearTo pl.runs x)) ∧ Blk W ga2_9 67 #[.slice AL (pl.prts.length + 1) cL, .slice Arr pl.runs.length crr, .slice Ass pl.store.length css] ∧ Blk W ga3_9 67 #[.slice App pl.prts.length cpp, .slice AD pl.runs.length cD, .slice Ass pl.store.length css] ∧ W.ownsRow w.heap.size 22 1 (.slice AL (pl.prts.length + 1) cL) (pl.prts.length + 1) (us ++ [.slice (some ⟨ga7_, 0, none⟩) pl.store.length pl.store.length]) ∧ W.ownsRow w.heap.size 47 2 (.slice (some ⟨ga7_, 0, none⟩) pl.store.length pl.store.length) pl.store.length (prtsC (List.replicate pl.store.length prt0)) ∧ Below w.heap.size w W) (fun x => pl.runs.length - x) 0 ⟨Nat.zero_le _, hod, qa2_9, qa3_9, o3_, o7_, hbw⟩ ⟨rfl, trivial⟩ ?_
                clear hod qa2_9 qa3_9 o3_ o7_ hbw
                rintro x wx ⟨hx, hod, q9x, q10x, o3_, o7_, hbw⟩
                by_cases hlt : x < pl.runs.length
                ·
                  obtain ⟨gd, rfl⟩ := own_slice hod (by omega)
                  have hdl := dear_len (r := pl.runs) x
                  have rc := (own_run_cells hod (k := x) (by omega)).c2
                  have hda := dear_at (r := pl.runs) hlt x
                  rw [if_neg (Nat.lt_irrefl _)] at hda
                  have hrB := hok.run (pl.runs.getD x run0) (by rw [getD_in hlt]; exact List.getElem_mem hlt)
                  obtain ⟨_, g3_⟩ := runB_iff.1 hrB
                  obtain ⟨_, _, _, ⟨gc0, gc1⟩, _⟩ := wayB_iff.1 g3_
                  rw [← hda] at gc0 gc1
                  have ht3 : 0 ≤ ((x : Nat) : Int).tmod 3 ∧ ((x : Nat) : Int).tmod 3 ≤ 2 := by rw [Int.tmod_eq_emod_of_nonneg (by omega)]; omega
                  obtain ⟨cst, ecs⟩ : ∃ z, z = ((dearTo pl.runs x).getD x run0).y.cost := ⟨_, rfl⟩
                  have hset : (dearTo pl.runs (x + 1)) = (dearTo pl.runs x).set x (dearR1 x ((dearTo pl.runs x).getD x run0)) := rfl
                  rw [← ecs] at rc gc0 gc1
                  obtain ⟨tm, etm⟩ : ∃ z, z = ((x : Nat) : Int).tmod 3 := ⟨_, rfl⟩
                  rw [← etm] at ht3
                  refine EC.seq ?_
                  refine EC.seq ?_
                  refine EC.region ?_
                  refine EL.val (x_move rfl) rfl ?_
                  refine EL.val (fa_67_1 rfl) rfl ?_
                  refine EL.val (ld_65 rfl (q10x.at (j := 1) rfl)) rfl ?_
                  refine EL.val (ln_65 rfl) rfl ?_
                  refine EL.val (x_lss rfl rfl (decide_eq_true (show (((x : Nat) : Int) < ((pl.runs.length : Nat) : Int)) by omega))) rfl ?_
                  refine EL.nil ?_
                  refine EX.seq ?_
                  refine EC.yes rfl ?_
                  refine EC.skip ?_
                  refine EX.seq ?_
                  refine EC.seq ?_
                  refine EC.block ?_
                  have lt_13 := q9x.lt
                  have lt_14 := q10x.lt
                  refine EC.regionP [[], [0], [], [], [3], [], [3, 4, 5], [3, 4, 5, 6], [3, 4, 5, 6, 7], [3, 4, 5, 6, 7, 8], [], [10], [10, 11], [3, 4, 5, 6, 7, 8, 9, 10, 11, 12], [3, 4, 5, 6, 7, 8, 9, 10, 11, 12, 13], [0, 1, 2, 3, 4, 5, 6, 7, 8, 9, 10, 11, 12, 13, 14], [0, 1, 2, 3, 4, 5, 6, 7, 8, 9, 10, 11, 12, 13, 14, 15], [0, 1, 2, 3, 4, 5, 6, 7, 8, 9, 10, 11, 12, 13, 14, 15, 16], [0, 1, 2, 3, 4, 5, 6, 7, 8, 9, 10, 11, 12, 13, 14, 15, 16, 17]] 18 [] (phi (fun i_ r => match i_ with | 0 => r 0 = .pointer (some ⟨ga3_9, 1, none⟩) | 1 => r 1 = .slice (some ⟨gd, 0, none⟩) pl.runs.length cD | 2 => r 2 = .int .i64 (x : Nat) | 3 => r 3 = .pointer (some ⟨ga3_9, 1, none⟩) | 4 => r 4 = .slice (some ⟨gd, 0, none⟩) pl.runs.length cD | 5 => r 5 = .int .i64 (x : Nat) | 6 => r 6 = .pointer (some ⟨gd, 0 + x * 5, none⟩) | 7 => r 7 = .pointer (some ⟨gd, 0 + x * 5, none⟩) | 8 => r 8 = .pointer (some ⟨gd, 0 + x * 5 + 2, none⟩) | 9 => r 9 = .int .i64 cst | 10 => r 10 = .int .i64 (x : Nat) | 11 => r 11 = .int .i64 tm | 12 => r 12 = .int .i64 (7 * tm) | 13 => r 13 = .int .i64 (cst + 7 * tm) | 14 => r 14 = .int .i64 (min 1000000 (cst + 7 * tm)) | 15 => r 15 = .pointer (some ⟨gd, 0 + x * 5, none⟩) | 16 => r 16 = .pointer (some ⟨gd, 0 + x * 5, none⟩) | 17 => r 17 = .pointer (some ⟨gd, 0 + x * 5 + 2, none⟩) | _ => True) []) (by kernel_rfl) rfl rfl (phi_nil) (fun i_ hi_ => ?_) ?_
                  · match i_, hi_ with
                    | 0, _ =>
                      intro val w1 a hb ha hd
                      have ha := ha.sub (Sub.ins (d := 10) (Sub.nil _) rfl)
                      exact hs_val ha rfl rfl (fa_67_1 rfl) rfl rfl
                    | 1, _ =>
                      intro val w1 a hb ha hd
                      have e0 : val 0 = .pointer (some ⟨ga3_9, 1, none⟩) := hd 0 (memB_mem.1 rfl)
                      have ha := ha.sub (Sub.ins (d := 124) (Sub.nil _) (dep_get rfl e0))
                      exact hs_val ha rfl rfl (ld_65 rfl ((q10x.below hb q10x.lt).at (j := 1) rfl)) rfl rfl
                    | 2, _ =>
                      intro val w1 a hb ha hd
                      have ha := ha.sub (Sub.ins (d := 11) (Sub.nil _) rfl)
                      exact hs_val ha rfl rfl (x_move rfl) rfl rfl
                    | 3, _ =>
                      intro val w1 a hb ha hd
                      have ha := ha.sub (Sub.ins (d := 10) (Sub.nil _) rfl)
                      exact hs_val ha rfl rfl (fa_67_1 rfl) rfl rfl
                    | 4, _ =>
                      intro val w1 a hb ha hd
                      have e3 : val 3 = .pointer (some ⟨ga3_9, 1, none⟩) := hd 3 (memB_mem.1 rfl)
                      have ha := ha.sub (Sub.ins (d := 127) (Sub.nil _) (dep_get rfl e3))
                      exact hs_val ha rfl rfl (ld_65 rfl ((q10x.below hb q10x.lt).at (j := 1) rfl)) rfl rfl
                    | 5, _ =>
                      intro val w1 a hb ha hd
                      have ha := ha.sub (Sub.ins (d := 11) (Sub.nil _) rfl)
                      exact hs_val ha rfl rfl (x_move rfl) rfl rfl
                    | 6, _ =>
                      intro val w1 a hb ha hd
                      have e4 : val 4 = .slice (some ⟨gd, 0, none⟩) pl.runs.length cD := hd 4 (memB_mem.1 rfl)
                      have e5 : val 5 = .int .i64 (x : Nat) := hd 5 (memB_mem.1 rfl)
                      have ha := ha.sub (Sub.ins (d := 129) (Sub.ins (d := 128) (Sub.nil _) (dep_get rfl e4)) (dep_get rfl e5))
                      exact hs_val ha rfl rfl (ix_65 rfl rfl hlt) rfl rfl
                    | 7, _ =>
                      intro val w1 a hb ha hd
                      have e6 : val 6 = .pointer (some ⟨gd, 0 + x * 5, none⟩) := hd 6 (memB_mem.1 rfl)
                      have ha := ha.sub (Sub.ins (d := 130) (Sub.nil _) (dep_get rfl e6))
                      exact hs_val ha rfl rfl (fa_71_0 rfl) rfl rfl
                    | 8, _ =>
                      intro val w1 a hb ha hd
                      have e7 : val 7 = .pointer (some ⟨gd, 0 + x * 5, none⟩) := hd 7 (memB_mem.1 rfl)
                      have ha := ha.sub (Sub.ins (d := 131) (Sub.nil _) (dep_get rfl e7))
                      exact hs_val ha rfl rfl (fa_56_2 rfl) rfl rfl
                    | 9, _ =>
                      intro val w1 a hb ha hd
                      have e8 : val 8 = .pointer (some ⟨gd, 0 + x * 5 + 2, none⟩) := hd 8 (memB_mem.1 rfl)
                      have ha := ha.sub (Sub.ins (d := 132) (Sub.nil _) (dep_get rfl e8))
                      exact hs_val ha rfl rfl (ld_3 rfl (below_load hb rc)) rfl rfl
                    | 10, _ =>
                      intro val w1 a hb ha hd
                      have ha := ha.sub (Sub.ins (d := 11) (Sub.nil _) rfl)
                      exact hs_val ha rfl rfl (x_move rfl) rfl rfl
                    | 11, _ =>
                      intro val w1 a hb ha hd
                      have e10 : val 10 = .int .i64 (x : Nat) := hd 10 (memB_mem.1 rfl)
                      have ha := ha.sub (Sub.ins (d := 134) (Sub.nil _) (dep_get rfl e10))
                      exact hs_val ha rfl rfl (x_rem rfl rfl (c := tm) (by decide) etm.symm) rfl rfl
                    | 12, _ =>
                      intro val w1 a hb ha hd
                      have e11 : val 11 = .int .i64 tm := hd 11 (memB_mem.1 rfl)
                      have ha := ha.sub (Sub.ins (d := 135) (Sub.nil _) (dep_get rfl e11))
                      exact hs_val ha rfl rfl (x_mul rfl rfl (c := 7 * tm) (IntWalk.i64_in _ ⟨by omega, by omega⟩)) rfl rfl
                    | 13, _ =>
                      intro val w1 a hb ha hd
                      have e9 : val 9 = .int .i64 cst := hd 9 (memB_mem.1 rfl)
                      have e12 : val 12 = .int .i64 (7 * tm) := hd 12 (memB_mem.1 rfl)
                      have ha := ha.sub (Sub.ins (d := 136) (Sub.ins (d := 133) (Sub.nil _) (dep_get rfl e9)) (dep_get rfl e12))
                      exact hs_val ha rfl rfl (x_add rfl rfl (c := cst + 7 * tm) (IntWalk.i64_in _ ⟨by omega, by omega⟩)) rfl rfl
                    | 14, _ =>
                      intro val w1 a hb ha hd
                      have e13 : val 13 = .int .i64 (cst + 7 * tm) := hd 13 (memB_mem.1 rfl)
                      have ha := ha.sub (Sub.ins (d := 137) (Sub.nil _) (dep_get rfl e13))
                      exact hs_val ha rfl rfl (mm_min rfl rfl rfl) rfl rfl
                    | 15, _ =>
                      intro val w1 a hb ha hd
                      have e1 : val 1 = .slice (some ⟨gd, 0, none⟩) pl.runs.length cD := hd 1 (memB_mem.1 rfl)
                      have e2 : val 2 = .int .i64 (x : Nat) := hd 2 (memB_mem.1 rfl)
                      have ha := ha.sub (Sub.ins (d := 126) (Sub.ins (d := 125) (Sub.nil _) (dep_get rfl e1)) (dep_get rfl e2))
                      exact hs_val ha rfl rfl (ix_65 rfl rfl hlt) rfl rfl
                    | 16, _ =>
                      intro val w1 a hb ha hd
                      have e15 : val 15 = .pointer (some ⟨gd, 0 + x * 5, none⟩) := hd 15 (memB_mem.1 rfl)
                      have ha := ha.sub (Sub.ins (d := 139) (Sub.nil _) (dep_get rfl e15))
                      exact hs_val ha rfl rfl (fa_71_0 rfl) rfl rfl
                    | 17, _ =>
                      intro val w1 a hb ha hd
                      have e16 : val 16 = .pointer (some ⟨gd, 0 + x * 5, none⟩) := hd 16 (memB_mem.1 rfl)
                      have ha := ha.sub (Sub.ins (d := 140) (Sub.nil _) (dep_get rfl e16))
                      exact hs_val ha rfl rfl (fa_56_2 rfl) rfl rfl
                    | k + 18, h => exact absurd h (by omega)
                  · intro val wR15 hb halc hd
                    have e0 : val 0 = .pointer (some ⟨ga3_9, 1, none⟩) := hd 0 (by omega)
                    have e1 : val 1 = .slice (some ⟨gd, 0, none⟩) pl.runs.length cD := hd 1 (by omega)
                    have e2 : val 2 = .int .i64 (x : Nat) := hd 2 (by omega)
                    have e3 : val 3 = .pointer (some ⟨ga3_9, 1, none⟩) := hd 3 (by omega)
                    have e4 : val 4 = .slice (some ⟨gd, 0, none⟩) pl.runs.length cD := hd 4 (by omega)
                    have e5 : val 5 = .int .i64 (x : Nat) := hd 5 (by omega)
                    have e6 : val 6 = .pointer (some ⟨gd, 0 + x * 5, none⟩) := hd 6 (by omega)
                    have e7 : val 7 = .pointer (some ⟨gd, 0 + x * 5, none⟩) := hd 7 (by omega)
                    have e8 : val 8 = .pointer (some ⟨gd, 0 + x * 5 + 2, none⟩) := hd 8 (by omega)
                    have e9 : val 9 = .int .i64 cst := hd 9 (by omega)
                    have e10 : val 10 = .int .i64 (x : Nat) := hd 10 (by omega)
                    have e11 : val 11 = .int .i64 tm := hd 11 (by omega)
                    have e12 : val 12 = .int .i64 (7 * tm) := hd 12 (by omega)
                    have e13 : val 13 = .int .i64 (cst + 7 * tm) := hd 13 (by omega)
                    have e14 : val 14 = .int .i64 (min 1000000 (cst + 7 * tm)) := hd 14 (by omega)
                    have e15 : val 15 = .pointer (some ⟨gd, 0 + x * 5, none⟩) := hd 15 (by omega)
                    have e16 : val 16 = .pointer (some ⟨gd, 0 + x * 5, none⟩) := hd 16 (by omega)
                    have e17 : val 17 = .pointer (some ⟨gd, 0 + x * 5 + 2, none⟩) := hd 17 (by omega)
                    refine EL.ends (cs := [.pointer (some ⟨ga3_9, 1, none⟩), .slice (some ⟨gd, 0, none⟩) pl.runs.length cD, .int .i64 (x : Nat), .pointer (some ⟨ga3_9, 1, none⟩), .slice (some ⟨gd, 0, none⟩) pl.runs.length cD, .int .i64 (x : Nat), .pointer (some ⟨gd, 0 + x * 5, none⟩), .pointer (some ⟨gd, 0 + x * 5, none⟩), .pointer (some ⟨gd, 0 + x * 5 + 2, none⟩), .int .i64 cst, .int .i64 (x : Nat), .int .i64 tm, .int .i64 (7 * tm), .int .i64 (cst + 7 * tm), .int .i64 (min 1000000 (cst + 7 * tm)), .pointer (some ⟨gd, 0 + x * 5, none⟩), .pointer (some ⟨gd, 0 + x * 5, none⟩), .pointer (some ⟨gd, 0 + x * 5 + 2, none⟩)]) ⟨e0, e1, e2, e3, e4, e5, e6, e7, e8, e9, e10, e11, e12, e13, e14, e15, e16, e17, trivial⟩ rfl ?_
                    replace q9x := q9x.below hb q9x.lt
                    replace q10x := q10x.below hb q10x.lt
                    replace hod := own_below hod hb (Nat.le_refl _)
                    replace o3_ := own_below o3_ hb (Nat.le_refl _)
                    replace o7_ := own_below o7_ hb (Nat.le_refl _)
                    replace hbw := Below.on hbw hb hbw.size
                    clear hb
                    refine EL.storeRow (l' := [.int .i64 (min 1000000 (cst + 7 * tm))]) rfl rfl hod sz_3 rfl rfl (by rw [runsC_len]; omega) rfl ?_
                    intro w22 ho2 hgr
                    rw [spl_run (by omega), show (⟨⟨_, _, min 1000000 (cst + 7 * tm), _⟩, _⟩ : Run) = dearR1 x ((dearTo pl.runs x).getD x run0) from by rw [ecs, etm]; rfl, ← hset] at ho2
                    replace o3_ := own_grown o3_ hod rfl hgr
                    replace o7_ := own_grown o7_ hod rfl hgr
                    replace q9x := blk_grown q9x hod rfl hgr
                    replace q10x := blk_grown q10x hod rfl hgr
                    replace hbw := hbw.trans (below_row hod hgr hbw.size)
                    clear hod hgr
                    have hod := ho2
                    clear ho2
                    refine EL.nil ?_
                    refine EX.blk ?_
                    refine EX.seq ?_
                    refine EC.region ?_
                    refine EL.val (x_move rfl) rfl ?_
                    refine EL.val (x_add rfl rfl (c := ((x + 1 : Nat) : Int)) ((IntWalk.i64_in _ ⟨by first | omega | (simp only; omega), by first | omega | (simp only; omega)⟩).trans (by first | omega | (simp only; omega)))) rfl ?_
                    refine EL.val (x_assign rfl) rfl ?_
                    refine EL.nil ?_
                    refine EX.roundD (x + 1) ⟨rfl, trivial⟩ (by repeat first | with_reducible exact Sub.refl _ | refine sub_past rfl ?_ | exact Sub.refl _ | refine sub_del rfl ?_ | refine sub_insL_nil ?_) ⟨hlt, hod, q9x, q10x, o3_, o7_, hbw⟩ (by omega)
                ·
                  have hxe : x = pl.runs.length := by omega
                  subst hxe
                  refine EC.seq ?_
                  refine EC.seq ?_
                  refine EC.region ?_
                  refine EL.val (x_move rfl) rfl ?_
                  refine EL.val (fa_67_1 rfl) rfl ?_
                  refine EL.val (ld_65 rfl (q10x.at (j := 1) rfl)) rfl ?_
                  refine EL.val (ln_65 rfl) rfl ?_
                  refine EL.val (x_lss rfl rfl (decide_eq_false (show ¬(((pl.runs.length : Nat) : Int) < ((pl.runs.length : Nat) : Int)) by omega))) rfl ?_
                  refine EL.nil ?_
                  refine EX.seq ?_
                  refine EC.no rfl ?_
                  refine EC.exit ?_
                  refine EX.seq_exit ?_
                  refine EX.seq_exit ?_
                  refine EX.blk_here ?_
                  refine EX.seq ?_
                  refine EC.seq ?_
                  refine EC.region ?_
                  refine EL.val (ld_67 rfl (q9x.at (j := 0) rfl) (q9x.at (j := 1) rfl) (q9x.at (j := 2) rfl)) rfl ?_
                  have hrL := long_rd (hr.below (hbw.mono hB)) (Nat.le_trans hB hbw.size) o3_ o7_
                  refine EL.call (cl_35 rfl) rfl (expand_ok hok2 _ _ _ _ _ _ hrL (Nat.le_refl _) (by rw [long_w]; omega) (by show pl.store.length ≤ _; omega) (by show pl.runs.length ≤ _; omega)) ?_
                  rintro e w23 ⟨⟨v123, v223, rfl, hn2⟩, hc23⟩
                  refine ⟨_, rfl, ?_⟩
                  clear hrL
                  replace q9x := q9x.below hc23 q9x.lt
                  replace q10x := q10x.below hc23 q10x.lt
                  replace hod := own_below hod hc23 (Nat.le_refl _)
                  replace hbw := Below.on hbw hc23 hbw.size
                  clear hc23
                  obtain ⟨Bp23, dp23, rfl, _⟩ := (Rd.of_own hn2.ports).shape
                  obtain ⟨Bw23, dw23, rfl, _⟩ := (Rd.of_own hn2.ways).shape
                  refine EL.val (x_move rfl) rfl ?_
                  refine EL.val (x_extract rfl rfl) rfl ?_
                  refine EL.val (x_extract rfl rfl) rfl ?_
                  refine EL.newP al_25 rfl ?_
                  intro g24 w24 q24 hb24 hg24 hl24
                  have n13_24 : ga2_9 ≠ g24 := Nat.ne_of_lt (Nat.lt_of_lt_of_le q9x.lt hg24)
                  have n14_24 : ga3_9 ≠ g24 := Nat.ne_of_lt (Nat.lt_of_lt_of_le q10x.lt hg24)
                  have bhbw_24 := Nat.le_trans hbw.size hg24
                  replace q9x := q9x.below hb24 q9x.lt
                  replace q10x := q10x.below hb24 q10x.lt
                  replace hod := own_below hod hb24 (Nat.le_refl _)
                  replace hn2 := hn2.below hb24
                  replace hbw := Below.on hbw hb24 hbw.size
                  clear hb24 hg24 hl24
                  refine EL.store rfl rfl q24 sz_25 rfl rfl rfl rfl ?_
                  intro w25 hq25 hg25
                  replace q9x := q9x.grown hg25 (fun h => n13_24 (Option.some.inj h))
                  replace q10x := q10x.grown hg25 (fun h => n14_24 (Option.some.inj h))
                  replace hod := own_type hod q24 rfl hg25
                  replace hn2 := hn2.box q24 rfl rfl hg25
                  replace hbw := below_store hbw hg25 bhbw_24
                  replace q24 := hq25
                  clear hg25 hq25
                  refine EL.val (x_assign rfl) rfl ?_
                  refine EL.nil ?_
                  refine EX.seq ?_
                  refine EC.seq ?_
                  refine EC.region ?_
                  refine EL.val (ld_67 rfl (q10x.at (j := 0) rfl) (q10x.at (j := 1) rfl) (q10x.at (j := 2) rfl)) rfl ?_
                  have hrD := dear_rd (hr.below (hbw.mono hB)) (Nat.le_trans hB hbw.size) hod
                  refine EL.call (cl_35 rfl) rfl (expand_ok hok3 us _ _ _ _ _ hrD (Nat.le_refl _) (by show pl.prts.length ≤ _; omega) (by show pl.store.length ≤ _; omega) (by rw [show (dearP pl).runs.length = pl.runs.length from dear_len _]; omega)) ?_
                  rintro e w26 ⟨⟨v126, v226, rfl, hn3⟩, hc26⟩
                  refine ⟨_, rfl, ?_⟩
                  clear hrD
                  replace q9x := q9x.below hc26 q9x.lt
                  replace q10x := q10x.below hc26 q10x.lt
                  replace q24 := q24.below hc26 q24.lt
                  replace hn2 := hn2.below hc26
                  replace hbw := Below.on hbw hc26 hbw.size
                  clear hc26
                  obtain ⟨Bp26, dp26, rfl, _⟩ := (Rd.of_own hn3.ports).shape
                  obtain ⟨Bw26, dw26, rfl, _⟩ := (Rd.of_own hn3.ways).shape
                  refine EL.val (x_move rfl) rfl ?_
                  refine EL.val (x_extract rfl rfl) rfl ?_
                  refine EL.val (x_extract rfl rfl) rfl ?_
                  refine EL.newP al_25 rfl ?_
                  intro g27 w27 q27 hb27 hg27 hl27
                  have n13_27 : ga2_9 ≠ g27 := Nat.ne_of_lt (Nat.lt_of_lt_of_le q9x.lt hg27)
                  have n14_27 : ga3_9 ≠ g27 := Nat.ne_of_lt (Nat.lt_of_lt_of_le q10x.lt hg27)
                  have n24_27 : g24 ≠ g27 := Nat.ne_of_lt (Nat.lt_of_lt_of_le q24.lt hg27)
                  have bhbw_27 := Nat.le_trans hbw.size hg27
                  replace q9x := q9x.below hb27 q9x.lt
                  replace q10x := q10x.below hb27 q10x.lt
                  replace q24 := q24.below hb27 q24.lt
                  replace hn2 := hn2.below hb27
                  replace hn3 := hn3.below hb27
                  replace hbw := Below.on hbw hb27 hbw.size
                  clear hb27 hg27 hl27
                  refine EL.store rfl rfl q27 sz_25 rfl rfl rfl rfl ?_
                  intro w28 hq28 hg28
                  replace q9x := q9x.grown hg28 (fun h => n13_27 (Option.some.inj h))
                  replace q10x := q10x.grown hg28 (fun h => n14_27 (Option.some.inj h))
                  replace q24 := q24.grown hg28 (fun h => n24_27 (Option.some.inj h))
                  replace hn2 := hn2.box q27 rfl rfl hg28
                  replace hn3 := hn3.box q27 rfl rfl hg28
                  replace hbw := below_store hbw hg28 bhbw_27
                  replace q27 := hq28
                  clear hg28 hq28
                  refine EL.val (x_assign rfl) rfl ?_
                  refine EL.nil ?_
                  refine EX.seq ?_
                  refine EC.seq ?_
                  refine EC.seq ?_
                  refine EC.region ?_
                  refine EL.val (x_move rfl) rfl ?_
                  refine EL.val (x_neq (r := false) rfl rfl (decide_eq_false (fun h => h rfl))) rfl ?_
                  refine EL.val (x_move rfl) rfl ?_
                  refine EL.valg rfl rfl (x_move rfl) rfl ?_
                  refine EL.valg rfl rfl (x_neq (r := false) rfl rfl (decide_eq_false (fun h => h rfl))) rfl ?_
                  refine EL.val (x_pick_f rfl rfl) rfl ?_
                  refine EL.nil ?_
                  refine EX.seq ?_
                  refine EC.no rfl ?_
                  refine EC.skip ?_
                  refine EX.seq ?_
                  refine EC.seq ?_
                  refine EC.region ?_
                  refine EL.val (ld_25 rfl (q24.at (j := 0) rfl) (q24.at (j := 1) rfl)) rfl ?_
                  refine EL.call (cl_15 rfl) rfl (move_any (expN (longP pl)) _ _ _ _ hn2.rd (Nat.le_refl _) (by omega) (by omega)) ?_
                  rintro e w29 ⟨⟨vm2, vr2, ml2, c2, pr2, e2, rfl, hmv2, _, _⟩, hc29⟩
                  refine ⟨_, rfl, ?_⟩
                  replace q9x := q9x.below hc29 q9x.lt
                  replace q10x := q10x.below hc29 q10x.lt
                  replace q24 := q24.below hc29 q24.lt
                  replace q27 := q27.below hc29 q27.lt
                  replace hn3 := hn3.below hc29
                  replace hbw := Below.on hbw hc29 hbw.size
                  clear hc29
                  refine EL.val (x_move rfl) rfl ?_
                  refine EL.val (x_extract rfl rfl) rfl ?_
                  refine EL.val (x_extract rfl rfl) rfl ?_
                  refine EL.val (x_extract rfl rfl) rfl ?_
                  refine EL.val (x_extract rfl rfl) rfl ?_
                  refine EL.val (x_assign rfl) rfl ?_
                  refine EL.val (x_assign rfl) rfl ?_
                  refine EL.val (x_assign rfl) rfl ?_
                  refine EL.val (x_assign rfl) rfl ?_
                  refine EL.nil ?_
                  refine EX.seq ?_
                  refine EC.seq ?_
                  refine EC.region ?_
                  refine EL.val (ld_25 rfl (q27.at (j := 0) rfl) (q27.at (j := 1) rfl)) rfl ?_
                  refine EL.call (cl_15 rfl) rfl (move_any (expN (dearP pl)) _ _ _ _ hn3.rd (Nat.le_refl _) (by omega) (by omega)) ?_
                  rintro e w30 ⟨⟨vm3, vr3, ml3, c3, pr3, e3, rfl, hmv3, _, _⟩, hc30⟩
                  refine ⟨_, rfl, ?_⟩
                  replace q9x := q9x.below hc30 q9x.lt
                  replace q10x := q10x.below hc30 q10x.lt
                  replace q24 := q24.below hc30 q24.lt
                  replace q27 := q27.below hc30 q27.lt
                  replace hbw := Below.on hbw hc30 hbw.size
                  clear hc30
                  refine EL.val (x_move rfl) rfl ?_
                  refine EL.val (x_extract rfl rfl) rfl ?_
                  refine EL.val (x_extract rfl rfl) rfl ?_
                  refine EL.val (x_extract rfl rfl) rfl ?_
                  refine EL.val (x_extract rfl rfl) rfl ?_
                  refine EL.val (x_assign rfl) rfl ?_
                  refine EL.val (x_assign rfl) rfl ?_
                  refine EL.val (x_assign rfl) rfl ?_
                  refine EL.val (x_assign rfl) rfl ?_
                  refine EL.nil ?_
                  refine EX.seq ?_
                  refine EC.seq ?_
                  refine EC.seq ?_
                  refine EC.region ?_
                  refine EL.val (x_move rfl) rfl ?_
                  obtain ⟨he2, hk2⟩ := week_same hok hok2 hmv1 hmv2
                  obtain ⟨he3, hk3⟩ := dear_same hok hok3 hmv1 hmv3
                  subst he2
                  subst he3
                  rcases move_err hok.net hmv1 with ⟨rfl, _⟩ | ⟨rfl, _⟩
                  ·
                    refine EL.val (x_neq (r := false) rfl rfl (decide_eq_false (fun h => h rfl))) rfl ?_
                    refine EL.nil ?_
                    refine EX.seq ?_
                    refine EC.no rfl ?_
                    refine EC.skip ?_
                    refine EX.seq ?_
                    refine EC.seq ?_
                    refine EC.region ?_
                    refine EL.val (x_move rfl) rfl ?_
                    refine EL.val (x_eql (r := true) rfl rfl (decide_eq_true rfl)) rfl ?_
                    refine EL.val (x_move rfl) rfl ?_
                    refine EL.valg rfl rfl (x_move rfl) rfl ?_
                    refine EL.valg rfl rfl (x_move rfl) rfl ?_
                    refine EL.valg rfl rfl (x_eql (r := true) rfl rfl (decide_eq_true (hk2 rfl))) rfl ?_
                    refine EL.val (x_pick_t rfl rfl) rfl ?_
                    refine EL.val (x_move rfl) rfl ?_
                    refine EL.valg rfl rfl (x_move rfl) rfl ?_
                    refine EL.valg rfl rfl (x_eql (r := true) rfl rfl (decide_eq_true rfl)) rfl ?_
                    refine EL.val (x_pick_t rfl rfl) rfl ?_
                    refine EL.val (x_move rfl) rfl ?_
                    refine EL.valg rfl rfl (x_move rfl) rfl ?_
                    refine EL.valg rfl rfl (x_move rfl) rfl ?_
                    refine EL.valg rfl rfl (x_geq (r := true) rfl rfl (decide_eq_true (by have h_ := hk3 rfl; omega))) rfl ?_
                    refine EL.val (x_pick_t rfl rfl) rfl ?_
                    refine EL.val (x_move rfl) rfl ?_
                    refine EL.callg rfl rfl cl_13 rfl (known_any _) ?_
                    rintro e w31 ⟨rfl, hc31⟩
                    refine ⟨_, rfl, ?_⟩
                    replace q9x := q9x.below hc31 q9x.lt
                    replace q10x := q10x.below hc31 q10x.lt
                    replace q24 := q24.below hc31 q24.lt
                    replace q27 := q27.below hc31 q27.lt
                    replace hbw := Below.on hbw hc31 hbw.size
                    clear hc31
                    refine EL.val (x_pick_t rfl rfl) rfl ?_
                    refine EL.val (x_assign rfl) rfl ?_
                    refine EL.nil ?_
                    refine EX.seq ?_
                    refine EC.ret ?_
                    exact EX.done (res1 rfl rfl) ⟨rfl, hbw⟩
                  ·
                    refine EL.val (x_neq (r := true) rfl rfl (by decide)) rfl ?_
                    refine EL.nil ?_
                    refine EX.seq ?_
                    refine EC.yes rfl ?_
                    refine EC.seq ?_
                    refine EC.region ?_
                    refine EL.val (x_move rfl) rfl ?_
                    refine EL.val (x_eql (r := true) rfl rfl (decide_eq_true rfl)) rfl ?_
                    refine EL.val (x_move rfl) rfl ?_
                    refine EL.valg rfl rfl (x_move rfl) rfl ?_
                    refine EL.valg rfl rfl (x_move rfl) rfl ?_
                    refine EL.valg rfl rfl (x_eql (r := true) rfl rfl (decide_eq_true rfl)) rfl ?_
                    refine EL.val (x_pick_t rfl rfl) rfl ?_
                    refine EL.val (x_move rfl) rfl ?_
                    refine EL.valg rfl rfl (x_move rfl) rfl ?_
                    refine EL.valg rfl rfl (x_move rfl) rfl ?_
                    refine EL.valg rfl rfl (x_eql (r := true) rfl rfl (decide_eq_true rfl)) rfl ?_
                    refine EL.val (x_pick_t rfl rfl) rfl ?_
                    refine EL.val (x_move rfl) rfl ?_
                    refine EL.callg rfl rfl cl_13 rfl (known_any _) ?_
                    rintro e w32 ⟨rfl, hc32⟩
                    refine ⟨_, rfl, ?_⟩
                    replace q9x := q9x.below hc32 q9x.lt
                    replace q10x := q10x.below hc32 q10x.lt
                    replace q24 := q24.below hc32 q24.lt
                    replace q27 := q27.below hc32 q27.lt
                    replace hbw := Below.on hbw hc32 hbw.size
                    clear hc32
                    refine EL.val (x_pick_t rfl rfl) rfl ?_
                    refine EL.val (x_assign rfl) rfl ?_
                    refine EL.nil ?_
                    refine EX.seq ?_
                    refine EC.ret ?_
                    refine EX.seq_ret ?_
                    exact EX.done (res1 rfl rfl) ⟨rfl, hbw⟩
          ·
            refine EL.valg rfl rfl (x_eql (r := false) rfl rfl (decide_eq_false (by omega))) rfl ?_
            refine EL.valg rfl rfl (x_move rfl) rfl ?_
            refine EL.skip rfl rfl rfl rfl ?_
            refine EL.skip rfl rfl rfl rfl ?_
            refine EL.skip rfl rfl rfl rfl ?_
            refine EL.skip rfl rfl rfl rfl ?_
            refine EL.valg rfl rfl (x_pick_f rfl rfl) rfl ?_
            refine EL.val (x_pick_f rfl rfl) rfl ?_
            refine EL.nil ?_
            refine EX.seq ?_
            refine EC.no rfl ?_
            refine EC.skip ?_
            refine EX.seq ?_
            refine EC.seq ?_
            refine EC.region ?_
            refine EL.val (ld_25 rfl (q7.at (j := 0) rfl) (q7.at (j := 1) rfl)) rfl ?_
            refine EL.call (cl_14 rfl) rfl (copied_any (expN pl) _ _ _ _ hn1.rd (Nat.le_refl _) (by omega) (by omega)) ?_
            rintro e w33 ⟨⟨vp33, vw33, rfl, ho8⟩, hc33⟩
            refine ⟨_, rfl, ?_⟩
            replace q1 := q1.below hc33 q1.lt
            replace q7 := q7.below hc33 q7.lt
            replace hn1 := hn1.below hc33
            replace hbw := Below.on hbw hc33 hbw.size
            clear hc33
            obtain ⟨Bp33, dp33, rfl, _⟩ := (Rd.of_own ho8.ports).shape
            obtain ⟨Bw33, dw33, rfl, _⟩ := (Rd.of_own ho8.ways).shape
            refine EL.call (cl_15 rfl) rfl (move_any (expN pl) _ _ _ _ ho8.rd (Nat.le_refl _) (by omega) (by omega)) ?_
            rintro e w34 ⟨⟨vm1, vr1, ml1, c1, pr1, e1, rfl, hmv1, _, _⟩, hc34⟩
            refine ⟨_, rfl, ?_⟩
            replace q1 := q1.below hc34 q1.lt
            replace q7 := q7.below hc34 q7.lt
            replace hbw := Below.on hbw hc34 hbw.size
            clear hc34
            refine EL.val (x_move rfl) rfl ?_
            refine EL.val (x_extract rfl rfl) rfl ?_
            refine EL.val (x_extract rfl rfl) rfl ?_
            refine EL.val (x_extract rfl rfl) rfl ?_
            refine EL.val (x_extract rfl rfl) rfl ?_
            refine EL.val (x_assign rfl) rfl ?_
            refine EL.val (x_assign rfl) rfl ?_
            refine EL.val (x_assign rfl) rfl ?_
            refine EL.val (x_assign rfl) rfl ?_
            refine EL.nil ?_
            refine EX.seq ?_
            refine EC.seq ?_
            have lt_1 := q1.lt
            have lt_7 := q7.lt
            refine EC.regionS [[], [], [], [], [0, 2, 3], [0, 1, 2, 3, 4]] 6 [2, 3] [4, 5] (fun _ w_ => Below w34.heap.size w34 w_) (phiS (fun i_ r => match i_ with | 0 => r 0 = .agg #[.slice App pl.prts.length cpp, .slice Arr pl.runs.length crr, .slice Ass pl.store.length css] | 1 => r 1 = .agg #[.slice App pl.prts.length cpp, .slice Arr pl.runs.length crr, .slice Ass pl.store.length css] | _ => True) [(2, fun fl r w_ => ∃ g_, r 2 = .pointer (some ⟨g_, 0, none⟩) ∧ w34.heap.size ≤ g_ ∧ (fl 4 = false → Blk w_ g_ 67 #[.slice none 0 0, .slice none 0 0, .slice none 0 0])), (3, fun fl r w_ => ∃ g_, r 3 = .pointer (some ⟨g_, 0, none⟩) ∧ w34.heap.size ≤ g_ ∧ (fl 5 = false → Blk w_ g_ 67 #[.slice none 0 0, .slice none 0 0, .slice none 0 0])), (4, fun _ r w_ => ∃ g_, r 2 = .pointer (some ⟨g_, 0, none⟩) ∧ Blk w_ g_ 67 #[.slice App pl.prts.length cpp, .slice Arr pl.runs.length crr, .slice Ass pl.store.length css]), (5, fun _ r w_ => ∃ g_, r 3 = .pointer (some ⟨g_, 0, none⟩) ∧ Blk w_ g_ 67 #[.slice App pl.prts.length cpp, .slice Arr pl.runs.length crr, .slice Ass pl.store.length css])]) (by kernel_rfl) rfl rfl (by intro i hi; simp at hi; first | (subst hi; exact ⟨by simp, by omega⟩) | (rcases hi with rfl | rfl | rfl <;> exact ⟨by simp, by omega⟩) | (rcases hi with rfl | rfl <;> exact ⟨by simp, by omega⟩)) (base_below w34) (phiS_cons monoS_alloc (phiS_cons monoS_alloc (phiS_cons monoS_store (phiS_cons monoS_store (phiS_nil))))) (fun i_ hi_ hs_ => ?_) (fun i_ hi_ => ?_) ?_
            · match i_, hi_ with
              | 0, _ =>
                intro val fl w1 a hb ha hd hfl
                have ha := ha.sub (Sub.ins (d := 1) (Sub.nil _) rfl)
                exact ss_val ha rfl rfl (ld_67 rfl ((q1.below hb q1.lt).at (j := 0) rfl) ((q1.below hb q1.lt).at (j := 1) rfl) ((q1.below hb q1.lt).at (j := 2) rfl)) rfl rfl
              | 1, _ =>
                intro val fl w1 a hb ha hd hfl
                have ha := ha.sub (Sub.ins (d := 1) (Sub.nil _) rfl)
                exact ss_val ha rfl rfl (ld_67 rfl ((q1.below hb q1.lt).at (j := 0) rfl) ((q1.below hb q1.lt).at (j := 1) rfl) ((q1.below hb q1.lt).at (j := 2) rfl)) rfl rfl
              | 2, _ =>
                intro val fl w1 a hb ha hd hfl
                have ha := ha.sub (Sub.nil _)
                exact ss_newP ha rfl rfl al_67 (fun g w' hq _ hge => ⟨g, rfl, Nat.le_trans hb.size hge, fun _ => hq⟩)
              | 3, _ =>
                intro val fl w1 a hb ha hd hfl
                have ha := ha.sub (Sub.nil _)
                exact ss_newP ha rfl rfl al_67 (fun g w' hq _ hge => ⟨g, rfl, Nat.le_trans hb.size hge, fun _ => hq⟩)
              | 4, _ =>
                exact absurd (by simp) hs_
              | 5, _ =>
                exact absurd (by simp) hs_
              | k + 6, h => exact absurd h (by omega)
            · simp only [List.mem_cons, List.not_mem_nil, or_false] at hi_; rcases hi_ with rfl | rfl
              ·
                intro val fl w1 a hb hfi ha hd hfl
                obtain ⟨g2_, e2, hg2_, q2_⟩ := hd 2 (memB_mem.1 rfl)
                change val 2 = _ at e2
                have e0 : val 0 = .agg #[.slice App pl.prts.length cpp, .slice Arr pl.runs.length crr, .slice Ass pl.store.length css] := hd 0 (memB_mem.1 rfl)
                have ha := ha.sub (Sub.ins (d := 99) (Sub.ins (d := 9) (Sub.nil _) (dep_get rfl e2)) (dep_get rfl e0))
                refine ts_store ha rfl rfl rfl (q2_ hfi) sz_67 rfl rfl rfl rfl ?_
                intro w' hq hgr
                refine ⟨undef, rfl, hgr.size, below_store hb hgr hg2_, ⟨g2_, e2, hq⟩, fun j _ hj hn hA => ?_⟩
                exact phiS_cons_st (C := fun j => j ≠ 4 ∧ 4 ∉ clsAt [[], [], [], [], [0, 2, 3], [0, 1, 2, 3, 4]] j ∧ ∀ p ∈ [2, 3], (p = j ∨ p ∈ clsAt [[], [], [], [], [0, 2, 3], [0, 1, 2, 3, 4]] j) → ∀ q ∈ [2, 3], (q = 4 ∨ q ∈ clsAt [[], [], [], [], [0, 2, 3], [0, 1, 2, 3, 4]] 4) → p ≠ q → val p ≠ val q) (fun _ ⟨g, h1, h2, _⟩ => ⟨g, h1, h2, fun h => by rw [fset_eq] at h; cases h⟩) (phiS_cons_st (C := fun j => j ≠ 4 ∧ 4 ∉ clsAt [[], [], [], [], [0, 2, 3], [0, 1, 2, 3, 4]] j ∧ ∀ p ∈ [2, 3], (p = j ∨ p ∈ clsAt [[], [], [], [], [0, 2, 3], [0, 1, 2, 3, 4]] j) → ∀ q ∈ [2, 3], (q = 4 ∨ q ∈ clsAt [[], [], [], [], [0, 2, 3], [0, 1, 2, 3, 4]] 4) → p ≠ q → val p ≠ val q) (fun hc ⟨g, h1, h2, h3⟩ => ⟨g, h1, h2, fun h => (h3 (by rwa [fset_ne rfl] at h)).grown hgr (fun h => hc.2.2 3 (by simp) (.inl rfl) 2 (by simp) (.inr (memB_mem.1 rfl)) (by simp) (by have h1' : val 3 = _ := h1; rw [h1', e2]; injection h with h; rw [h]))⟩) (phiS_cons_st (C := fun j => j ≠ 4 ∧ 4 ∉ clsAt [[], [], [], [], [0, 2, 3], [0, 1, 2, 3, 4]] j ∧ ∀ p ∈ [2, 3], (p = j ∨ p ∈ clsAt [[], [], [], [], [0, 2, 3], [0, 1, 2, 3, 4]] j) → ∀ q ∈ [2, 3], (q = 4 ∨ q ∈ clsAt [[], [], [], [], [0, 2, 3], [0, 1, 2, 3, 4]] 4) → p ≠ q → val p ≠ val q) (fun hc => absurd rfl hc.1) (phiS_cons_st (C := fun j => j ≠ 4 ∧ 4 ∉ clsAt [[], [], [], [], [0, 2, 3], [0, 1, 2, 3, 4]] j ∧ ∀ p ∈ [2, 3], (p = j ∨ p ∈ clsAt [[], [], [], [], [0, 2, 3], [0, 1, 2, 3, 4]] j) → ∀ q ∈ [2, 3], (q = 4 ∨ q ∈ clsAt [[], [], [], [], [0, 2, 3], [0, 1, 2, 3, 4]] 4) → p ≠ q → val p ≠ val q) (fun hc ⟨g, h1, h2⟩ => ⟨g, h1, h2.grown hgr (fun h => hc.2.2 3 (by simp) (.inr (memB_mem.1 rfl)) 2 (by simp) (.inr (memB_mem.1 rfl)) (by simp) (by have h1' : val 3 = _ := h1; rw [h1', e2]; injection h with h; rw [h]))⟩) (fun _ _ h => h)))) j ⟨hj, hn, hA⟩
              ·
                intro val fl w1 a hb hfi ha hd hfl
                obtain ⟨g3_, e3, hg3_, q3_⟩ := hd 3 (memB_mem.1 rfl)
                change val 3 = _ at e3
                have e1 : val 1 = .agg #[.slice App pl.prts.length cpp, .slice Arr pl.runs.length crr, .slice Ass pl.store.length css] := hd 1 (memB_mem.1 rfl)
                have ha := ha.sub (Sub.ins (d := 100) (Sub.ins (d := 10) (Sub.nil _) (dep_get rfl e3)) (dep_get rfl e1))
                refine ts_store ha rfl rfl rfl (q3_ hfi) sz_67 rfl rfl rfl rfl ?_
                intro w' hq hgr
                refine ⟨undef, rfl, hgr.size, below_store hb hgr hg3_, ⟨g3_, e3, hq⟩, fun j _ hj hn hA => ?_⟩
                exact phiS_cons_st (C := fun j => j ≠ 5 ∧ 5 ∉ clsAt [[], [], [], [], [0, 2, 3], [0, 1, 2, 3, 4]] j ∧ ∀ p ∈ [2, 3], (p = j ∨ p ∈ clsAt [[], [], [], [], [0, 2, 3], [0, 1, 2, 3, 4]] j) → ∀ q ∈ [2, 3], (q = 5 ∨ q ∈ clsAt [[], [], [], [], [0, 2, 3], [0, 1, 2, 3, 4]] 5) → p ≠ q → val p ≠ val q) (fun hc ⟨g, h1, h2, h3⟩ => ⟨g, h1, h2, fun h => (h3 (by rwa [fset_ne rfl] at h)).grown hgr (fun h => hc.2.2 2 (by simp) (.inl rfl) 3 (by simp) (.inr (memB_mem.1 rfl)) (by simp) (by have h1' : val 2 = _ := h1; rw [h1', e3]; injection h with h; rw [h]))⟩) (phiS_cons_st (C := fun j => j ≠ 5 ∧ 5 ∉ clsAt [[], [], [], [], [0, 2, 3], [0, 1, 2, 3, 4]] j ∧ ∀ p ∈ [2, 3], (p = j ∨ p ∈ clsAt [[], [], [], [], [0, 2, 3], [0, 1, 2, 3, 4]] j) → ∀ q ∈ [2, 3], (q = 5 ∨ q ∈ clsAt [[], [], [], [], [0, 2, 3], [0, 1, 2, 3, 4]] 5) → p ≠ q → val p ≠ val q) (fun _ ⟨g, h1, h2, _⟩ => ⟨g, h1, h2, fun h => by rw [fset_eq] at h; cases h⟩) (phiS_cons_st (C := fun j => j ≠ 5 ∧ 5 ∉ clsAt [[], [], [], [], [0, 2, 3], [0, 1, 2, 3, 4]] j ∧ ∀ p ∈ [2, 3], (p = j ∨ p ∈ clsAt [[], [], [], [], [0, 2, 3], [0, 1, 2, 3, 4]] j) → ∀ q ∈ [2, 3], (q = 5 ∨ q ∈ clsAt [[], [], [], [], [0, 2, 3], [0, 1, 2, 3, 4]] 5) → p ≠ q → val p ≠ val q) (fun hc ⟨g, h1, h2⟩ => ⟨g, h1, h2.grown hgr (fun h => hc.2.2 2 (by simp) (.inr (memB_mem.1 rfl)) 3 (by simp) (.inr (memB_mem.1 rfl)) (by simp) (by have h1' : val 2 = _ := h1; rw [h1', e3]; injection h with h; rw [h]))⟩) (phiS_cons_st (C := fun j => j ≠ 5 ∧ 5 ∉ clsAt [[], [], [], [], [0, 2, 3], [0, 1, 2, 3, 4]] j ∧ ∀ p ∈ [2, 3], (p = j ∨ p ∈ clsAt [[], [], [], [], [0, 2, 3], [0, 1, 2, 3, 4]] j) → ∀ q ∈ [2, 3], (q = 5 ∨ q ∈ clsAt [[], [], [], [], [0, 2, 3], [0, 1, 2, 3, 4]] 5) → p ≠ q → val p ≠ val q) (fun hc => absurd rfl hc.1) (fun _ _ h => h)))) j ⟨hj, hn, hA⟩
            · intro val fl wR9 hfl hb halc hd
              have e0 : val 0 = .agg #[.slice App pl.prts.length cpp, .slice Arr pl.runs.length crr, .slice Ass pl.store.length css] := hd 0 (by omega)
              have e1 : val 1 = .agg #[.slice App pl.prts.length cpp, .slice Arr pl.runs.length crr, .slice Ass pl.store.length css] := hd 1 (by omega)
              obtain ⟨ga2_9, e2, qa2_9⟩ := hd 4 (by omega)
              change val 2 = _ at e2
              obtain ⟨ga3_9, e3, qa3_9⟩ := hd 5 (by omega)
              change val 3 = _ at e3
              refine EL.ends (cs := [.agg #[.slice App pl.prts.length cpp, .slice Arr pl.runs.length crr, .slice Ass pl.store.length css], .agg #[.slice App pl.prts.length cpp, .slice Arr pl.runs.length crr, .slice Ass pl.store.length css], .pointer (some ⟨ga2_9, 0, none⟩), .pointer (some ⟨ga3_9, 0, none⟩), val 4, val 5]) ⟨e0, e1, e2, e3, rfl, rfl, trivial⟩ rfl ?_
              replace q1 := q1.below hb q1.lt
              replace q7 := q7.below hb q7.lt
              have bge35 := alc_ge halc (i := 2) rfl rfl e2
              have n1_35 : g1 ≠ ga2_9 := Nat.ne_of_lt (Nat.lt_of_lt_of_le lt_1 bge35)
              have n7_35 : g7 ≠ ga2_9 := Nat.ne_of_lt (Nat.lt_of_lt_of_le lt_7 bge35)
              have bhbw_35 := Nat.le_trans hbw.size bge35
              have bge36 := alc_ge halc (i := 3) rfl rfl e3
              have n1_36 : g1 ≠ ga3_9 := Nat.ne_of_lt (Nat.lt_of_lt_of_le lt_1 bge36)
              have n7_36 : g7 ≠ ga3_9 := Nat.ne_of_lt (Nat.lt_of_lt_of_le lt_7 bge36)
              have n35_36 : ga2_9 ≠ ga3_9 := alc_ne halc (i := 2) (j := 3) rfl rfl rfl rfl rfl e2 e3
              have bhbw_36 := Nat.le_trans hbw.size bge36
              replace hbw := Below.on hbw hb hbw.size
              refine EL.nil ?_
              refine EX.seq ?_
              refine EC.seq ?_
              have hszR := hbw.size
              have lt_1 := q1.lt
              have lt_7 := q7.lt
              have lt_35 := qa2_9.lt
              have lt_36 := qa3_9.lt
              refine EC.regionP [[], [], [1], [0, 1, 2], [], [4], [4, 5], [4, 5, 6], [4, 5, 6, 7], [0, 1, 2, 3, 4, 5, 6, 7, 8], [0, 1, 2, 3, 4, 5, 6, 7, 8, 9], [0, 1, 2, 3, 4, 5, 6, 7, 8, 9, 10]] 9 [] (phi (fun i_ r => match i_ with | 1 => r 1 = .pointer (some ⟨g1, 0, none⟩) | 2 => r 2 = .slice App pl.prts.length cpp | 4 => r 4 = .pointer (some ⟨g1, 2, none⟩) | 5 => r 5 = .slice Ass pl.store.length css | 6 => r 6 = .int .i64 (pl.store.length : Nat) | _ => True) [(0, fun r w_ => ∃ g_, r 0 = .slice (some ⟨g_, 0, none⟩) 0 0 ∧ Blk w_ g_ 22 #[] ∧ wR9.heap.size ≤ g_), (3, fun r w_ => ∃ A_ c_, r 3 = .slice A_ pl.prts.length c_ ∧ w_.ownsRow wR9.heap.size 22 1 (.slice A_ pl.prts.length c_) pl.prts.length us), (7, fun r w_ => ∃ g_, r 7 = .slice (some ⟨g_, 0, none⟩) pl.store.length pl.store.length ∧ w_.ownsRow wR9.heap.size 47 2 (.slice (some ⟨g_, 0, none⟩) pl.store.length pl.store.length) pl.store.length (prtsC (List.replicate pl.store.length prt0))), (8, fun r w_ => ∃ g_, r 8 = .slice (some ⟨g_, 0, none⟩) 1 1 ∧ Blk w_ g_ 22 #[r 7] ∧ wR9.heap.size ≤ g_)]) (by kernel_rfl) rfl rfl (phi_cons mono_bs (phi_cons mono_cp (phi_cons (by rintro _ _ _ hb ⟨g, h1, h2⟩; exact ⟨g, h1, own_below h2 hb (Nat.le_refl _)⟩) (phi_cons mono_bs (phi_nil))))) (fun i_ hi_ => ?_) ?_
              · match i_, hi_ with
                | 0, _ =>
                  intro val w1 a hb ha hd
                  have ha := ha.sub (Sub.nil _)
                  exact hs_newS ha rfl rfl (bs_64_0) rfl (fun g w' hq _ hge => ⟨g, rfl, hq, Nat.le_trans hb.size hge⟩)
                | 1, _ =>
                  intro val w1 a hb ha hd
                  have ha := ha.sub (Sub.ins (d := 1) (Sub.nil _) rfl)
                  exact hs_val ha rfl rfl (fa_67_0 rfl) rfl rfl
                | 2, _ =>
                  intro val w1 a hb ha hd
                  have e1 : val 1 = .pointer (some ⟨g1, 0, none⟩) := hd 1 (memB_mem.1 rfl)
                  have ha := ha.sub (Sub.ins (d := 102) (Sub.nil _) (dep_get rfl e1))
                  exact hs_val ha rfl rfl (ld_64 rfl ((q1.below hb q1.lt).at (j := 0) rfl)) rfl rfl
                | 3, _ =>
                  intro val w1 a hb ha hd
                  obtain ⟨g0_, e0, q0_, h0_⟩ := hd 0 (memB_mem.1 rfl)
                  change val 0 = _ at e0
                  have e2 : val 2 = .slice App pl.prts.length cpp := hd 2 (memB_mem.1 rfl)
                  have ha := ha.sub (Sub.ins (d := 103) (Sub.ins (d := 101) (Sub.nil _) (dep_get rfl e0)) (dep_get rfl e2))
                  refine hs_copy lps_elem ha rfl rfl rfl q0_ h0_ (hr.prts.rd.below ((Below.on hbw hb hbw.size).mono hB)) hus1 (by omega) rfl hb.size rfl (fun v' w' ho => ?_)
                  obtain ⟨A, c9, rfl, _⟩ := (Rd.of_own ho).shape
                  exact ⟨A, c9, rfl, ho⟩
                | 4, _ =>
                  intro val w1 a hb ha hd
                  have ha := ha.sub (Sub.ins (d := 1) (Sub.nil _) rfl)
                  exact hs_val ha rfl rfl (fa_67_2 rfl) rfl rfl
                | 5, _ =>
                  intro val w1 a hb ha hd
                  have e4 : val 4 = .pointer (some ⟨g1, 2, none⟩) := hd 4 (memB_mem.1 rfl)
                  have ha := ha.sub (Sub.ins (d := 105) (Sub.nil _) (dep_get rfl e4))
                  exact hs_val ha rfl rfl (ld_29 rfl ((q1.below hb q1.lt).at (j := 2) rfl)) rfl rfl
                | 6, _ =>
                  intro val w1 a hb ha hd
                  have e5 : val 5 = .slice Ass pl.store.length css := hd 5 (memB_mem.1 rfl)
                  have ha := ha.sub (Sub.ins (d := 106) (Sub.nil _) (dep_get rfl e5))
                  exact hs_val ha rfl rfl (ln_29 rfl) rfl rfl
                | 7, _ =>
                  intro val w1 a hb ha hd
                  have e6 : val 6 = .int .i64 (pl.store.length : Nat) := hd 6 (memB_mem.1 rfl)
                  have ha := ha.sub (Sub.ins (d := 107) (Sub.nil _) (dep_get rfl e6))
                  exact hs_makeP (base := wR9.heap.size) ha rfl rfl (by omega) hb.size rfl (fun g w' ho => ⟨g, rfl, ho⟩)
                | 8, _ =>
                  intro val w1 a hb ha hd
                  obtain ⟨ga7_, e7, o7_⟩ := hd 7 (memB_mem.1 rfl)
                  change val 7 = _ at e7
                  have ha := ha.sub (Sub.ins (d := 108) (Sub.nil _) (dep_get rfl e7))
                  exact hs_newS ha rfl rfl (bs_64_1 rfl) rfl (fun g w' hq _ hge => ⟨g, rfl, (by show Blk _ _ _ #[val 7]; rw [e7]; exact hq), Nat.le_trans hb.size hge⟩)
                | k + 9, h => exact absurd h (by omega)
              · intro val wR10 hb halc hd
                obtain ⟨ga0_10, e0, qa0_10, hga0_10⟩ := hd 0 (by omega)
                change val 0 = _ at e0
                change Blk wR10 ga0_10 22 #[] at qa0_10
                have e1 : val 1 = .pointer (some ⟨g1, 0, none⟩) := hd 1 (by omega)
                have e2 : val 2 = .slice App pl.prts.length cpp := hd 2 (by omega)
                obtain ⟨A3_, c3_, e3, o3_⟩ := hd 3 (by omega)
                have e4 : val 4 = .pointer (some ⟨g1, 2, none⟩) := hd 4 (by omega)
                have e5 : val 5 = .slice Ass pl.store.length css := hd 5 (by omega)
                have e6 : val 6 = .int .i64 (pl.store.length : Nat) := hd 6 (by omega)
                obtain ⟨ga7_, e7, o7_⟩ := hd 7 (by omega)
                change val 7 = _ at e7
                obtain ⟨ga8_10, e8, qa8_10, hga8_10⟩ := hd 8 (by omega)
                change val 8 = _ at e8
                change Blk wR10 ga8_10 22 #[val 7] at qa8_10
                rw [e7] at qa8_10
                refine EL.ends (cs := [.slice (some ⟨ga0_10, 0, none⟩) 0 0, .pointer (some ⟨g1, 0, none⟩), .slice App pl.prts.length cpp, .slice A3_ pl.prts.length c3_, .pointer (some ⟨g1, 2, none⟩), .slice Ass pl.store.length css, .int .i64 (pl.store.length : Nat), .slice (some ⟨ga7_, 0, none⟩) pl.store.length pl.store.length, .slice (some ⟨ga8_10, 0, none⟩) 1 1]) ⟨e0, e1, e2, e3, e4, e5, e6, e7, e8, trivial⟩ rfl ?_
                replace q1 := q1.below hb q1.lt
                replace q7 := q7.below hb q7.lt
                replace qa2_9 := qa2_9.below hb qa2_9.lt
                replace qa3_9 := qa3_9.below hb qa3_9.lt
                have n1_37 : g1 ≠ ga0_10 := Nat.ne_of_lt (Nat.lt_of_lt_of_le lt_1 hga0_10)
                have n7_37 : g7 ≠ ga0_10 := Nat.ne_of_lt (Nat.lt_of_lt_of_le lt_7 hga0_10)
                have n35_37 : ga2_9 ≠ ga0_10 := Nat.ne_of_lt (Nat.lt_of_lt_of_le lt_35 hga0_10)
                have n36_37 : ga3_9 ≠ ga0_10 := Nat.ne_of_lt (Nat.lt_of_lt_of_le lt_36 hga0_10)
                have bhbw_37 := Nat.le_trans hbw.size hga0_10
                have n1_38 : g1 ≠ ga8_10 := Nat.ne_of_lt (Nat.lt_of_lt_of_le lt_1 hga8_10)
                have n7_38 : g7 ≠ ga8_10 := Nat.ne_of_lt (Nat.lt_of_lt_of_le lt_7 hga8_10)
                have n35_38 : ga2_9 ≠ ga8_10 := Nat.ne_of_lt (Nat.lt_of_lt_of_le lt_35 hga8_10)
                have n36_38 : ga3_9 ≠ ga8_10 := Nat.ne_of_lt (Nat.lt_of_lt_of_le lt_36 hga8_10)
                have bhbw_38 := Nat.le_trans hbw.size hga8_10
                replace hbw := Below.on hbw hb hbw.size
                clear hb
                replace o3_ := own_less o3_ hszR
                replace o7_ := own_less o7_ hszR
                refine EL.push lps_elem rfl rfl o3_ (rd_one (l := [.slice (some ⟨ga7_, 0, none⟩) pl.store.length pl.store.length]) qa8_10 rfl) (by intro u hu; rw [List.mem_singleton.1 hu]; rfl) (by omega) rfl hbw.size rfl ?_
                intro v39 w39 ho3 hgr hb_ hat
                replace o7_ := own_grown o7_ o3_ rfl hgr
                replace q1 := blk_grown q1 o3_ rfl hgr
                replace q7 := blk_grown q7 o3_ rfl hgr
                replace qa2_9 := blk_grown qa2_9 o3_ rfl hgr
                replace qa3_9 := blk_grown qa3_9 o3_ rfl hgr
                replace hbw := hbw.trans hb_
                clear o3_ hgr hb_ hat
                have o3_ := ho3
                clear ho3
                obtain ⟨AL, cL, rfl, _⟩ := (Rd.of_own o3_).shape
                refine EL.val (fa_67_0 rfl) rfl ?_
                refine EL.store rfl rfl qa2_9 sz_64 rfl rfl rfl rfl ?_
                intro w40 hq40 hg40
                replace q1 := q1.grown hg40 (fun h => n1_35 (Option.some.inj h))
                replace q7 := q7.grown hg40 (fun h => n7_35 (Option.some.inj h))
                replace qa3_9 := qa3_9.grown hg40 (fun h => n35_36.symm (Option.some.inj h))
                replace o3_ := own_type o3_ qa2_9 rfl hg40
                replace o7_ := own_type o7_ qa2_9 rfl hg40
                replace hbw := below_store hbw hg40 bhbw_35
                replace qa2_9 := hq40
                clear hg40 hq40
                refine EL.nil ?_
                refine EX.seq ?_
                refine EC.seq ?_
                refine EC.region ?_
                have hszb := hbw.size
                refine EL.newS bs_65_0 rfl ?_
                intro g41 w41 q41 hb41 hg41 hl41
                have n1_41 : g1 ≠ g41 := Nat.ne_of_lt (Nat.lt_of_lt_of_le q1.lt hg41)
                have n7_41 : g7 ≠ g41 := Nat.ne_of_lt (Nat.lt_of_lt_of_le q7.lt hg41)
                have n35_41 : ga2_9 ≠ g41 := Nat.ne_of_lt (Nat.lt_of_lt_of_le qa2_9.lt hg41)
                have n36_41 : ga3_9 ≠ g41 := Nat.ne_of_lt (Nat.lt_of_lt_of_le qa3_9.lt hg41)
                have bhbw_41 := Nat.le_trans hbw.size hg41
                replace q1 := q1.below hb41 q1.lt
                replace q7 := q7.below hb41 q7.lt
                replace qa2_9 := qa2_9.below hb41 qa2_9.lt
                replace qa3_9 := qa3_9.below hb41 qa3_9.lt
                replace o3_ := own_below o3_ hb41 (Nat.le_refl _)
                replace o7_ := own_below o7_ hb41 (Nat.le_refl _)
                replace hbw := Below.on hbw hb41 hbw.size
                clear hb41 hl41
                refine EL.val (fa_67_1 rfl) rfl ?_
                refine EL.val (ld_65 rfl (q1.at (j := 1) rfl)) rfl ?_
                refine EL.copy run_elem rfl rfl (base := w.heap.size) q41 (Nat.le_trans hszb hg41) ((hr.below (hbw.mono hB)).runs) (runsC_one _) (by omega) (by omega) hbw.size rfl ?_
                intro v42 w42 hod hb42
                replace q1 := q1.below hb42 q1.lt
                replace q7 := q7.below hb42 q7.lt
                replace qa2_9 := qa2_9.below hb42 qa2_9.lt
                replace qa3_9 := qa3_9.below hb42 qa3_9.lt
                replace o3_ := own_below o3_ hb42 (Nat.le_refl _)
                replace o7_ := own_below o7_ hb42 (Nat.le_refl _)
                replace hbw := Below.on hbw hb42 hbw.size
                clear hb42
                obtain ⟨AD, cD, rfl, _⟩ := (Rd.of_own hod).shape
                refine EL.val (fa_67_1 rfl) rfl ?_
                refine EL.store rfl rfl qa3_9 sz_65 rfl rfl rfl rfl ?_
                intro w43 hq43 hg43
                replace q1 := q1.grown hg43 (fun h => n1_36 (Option.some.inj h))
                replace q7 := q7.grown hg43 (fun h => n7_36 (Option.some.inj h))
                replace qa2_9 := qa2_9.grown hg43 (fun h => n35_36 (Option.some.inj h))
                replace o3_ := own_type o3_ qa3_9 rfl hg43
                replace o7_ := own_type o7_ qa3_9 rfl hg43
                replace hod := own_type hod qa3_9 rfl hg43
                replace hbw := below_store hbw hg43 bhbw_36
                replace qa3_9 := hq43
                clear hg43 hq43
                refine EL.nil ?_
                refine EX.seq ?_
                refine EC.seq ?_
                refine EC.seq ?_
                refine EC.region ?_
                refine EL.val (x_assign rfl) rfl ?_
                refine EL.nil ?_
                refine EX.seq ?_
                refine EC.block ?_
                refine EC.loopD [11, 117, 118, 119, 120, 121, 122, 123, 124, 125, 126, 127, 128, 129, 130, 131, 132, 133, 134, 135, 136, 137, 138, 139, 140, 141] (fun x : Nat => [(11, .int .i64 (x : Nat))]) (fun x W => x ≤ pl.runs.length ∧ W.ownsRow w.heap.size 71 5 (.slice AD pl.runs.length cD) pl.runs.length (runsC (dearTo pl.runs x)) ∧ Blk W ga2_9 67 #[.slice AL (pl.prts.length + 1) cL, .slice Arr pl.runs.length crr, .slice Ass pl.store.length css] ∧ Blk W ga3_9 67 #[.slice App pl.prts.length cpp, .slice AD pl.runs.length cD, .slice Ass pl.store.length css] ∧ W.ownsRow w.heap.size 22 1 (.slice AL (pl.prts.length + 1) cL) (pl.prts.length + 1) (us ++ [.slice (some ⟨ga7_, 0, none⟩) pl.store.length pl.store.length]) ∧ W.ownsRow w.heap.size 47 2 (.slice (some ⟨ga7_, 0, none⟩) pl.store.length pl.store.length) pl.store.length (prtsC (List.replicate pl.store.length prt0)) ∧ Below w.heap.size w W) (fun x => pl.runs.length - x) 0 ⟨Nat.zero_le _, hod, qa2_9, qa3_9, o3_, o7_, hbw⟩ ⟨rfl, trivial⟩ ?_
                clear hod qa2_9 qa3_9 o3_ o7_ hbw
                rintro x wx ⟨hx, hod, q9x, q10x, o3_, o7_, hbw⟩
                by_cases hlt : x < pl.runs.length
                ·
                  obtain ⟨gd, rfl⟩ := own_slice hod (by omega)
                  have hdl := dear_len (r := pl.runs) x
                  have rc := (own_run_cells hod (k := x) (by omega)).c2
                  have hda := dear_at (r := pl.runs) hlt x
                  rw [if_neg (Nat.lt_irrefl _)] at hda
                  have hrB := hok.run (pl.runs.getD x run0) (by rw [getD_in hlt]; exact List.getElem_mem hlt)
                  obtain ⟨_, g3_⟩ := runB_iff.1 hrB
                  obtain ⟨_, _, _, ⟨gc0, gc1⟩, _⟩ := wayB_iff.1 g3_
                  rw [← hda] at gc0 gc1
                  have ht3 : 0 ≤ ((x : Nat) : Int).tmod 3 ∧ ((x : Nat) : Int).tmod 3 ≤ 2 := by rw [Int.tmod_eq_emod_of_nonneg (by omega)]; omega
                  obtain ⟨cst, ecs⟩ : ∃ z, z = ((dearTo pl.runs x).getD x run0).y.cost := ⟨_, rfl⟩
                  have hset : (dearTo pl.runs (x + 1)) = (dearTo pl.runs x).set x (dearR1 x ((dearTo pl.runs x).getD x run0)) := rfl
                  rw [← ecs] at rc gc0 gc1
                  obtain ⟨tm, etm⟩ : ∃ z, z = ((x : Nat) : Int).tmod 3 := ⟨_, rfl⟩
                  rw [← etm] at ht3
                  refine EC.seq ?_
                  refine EC.seq ?_
                  refine EC.region ?_
                  refine EL.val (x_move rfl) rfl ?_
                  refine EL.val (fa_67_1 rfl) rfl ?_
                  refine EL.val (ld_65 rfl (q10x.at (j := 1) rfl)) rfl ?_
                  refine EL.val (ln_65 rfl) rfl ?_
                  refine EL.val (x_lss rfl rfl (decide_eq_true (show (((x : Nat) : Int) < ((pl.runs.length : Nat) : Int)) by omega))) rfl ?_
                  refine EL.nil ?_
                  refine EX.seq ?_
                  refine EC.yes rfl ?_
                  refine EC.skip ?_
                  refine EX.seq ?_
                  refine EC.seq ?_
                  refine EC.block ?_
                  have lt_35 := q9x.lt
                  have lt_36 := q10x.lt
                  refine EC.regionP [[], [0], [], [], [3], [], [3, 4, 5], [3, 4, 5, 6], [3, 4, 5, 6, 7], [3, 4, 5, 6, 7, 8], [], [10], [10, 11], [3, 4, 5, 6, 7, 8, 9, 10, 11, 12], [3, 4, 5, 6, 7, 8, 9, 10, 11, 12, 13], [0, 1, 2, 3, 4, 5, 6, 7, 8, 9, 10, 11, 12, 13, 14], [0, 1, 2, 3, 4, 5, 6, 7, 8, 9, 10, 11, 12, 13, 14, 15], [0, 1, 2, 3, 4, 5, 6, 7, 8, 9, 10, 11, 12, 13, 14, 15, 16], [0, 1, 2, 3, 4, 5, 6, 7, 8, 9, 10, 11, 12, 13, 14, 15, 16, 17]] 18 [] (phi (fun i_ r => match i_ with | 0 => r 0 = .pointer (some ⟨ga3_9, 1, none⟩) | 1 => r 1 = .slice (some ⟨gd, 0, none⟩) pl.runs.length cD | 2 => r 2 = .int .i64 (x : Nat) | 3 => r 3 = .pointer (some ⟨ga3_9, 1, none⟩) | 4 => r 4 = .slice (some ⟨gd, 0, none⟩) pl.runs.length cD | 5 => r 5 = .int .i64 (x : Nat) | 6 => r 6 = .pointer (some ⟨gd, 0 + x * 5, none⟩) | 7 => r 7 = .pointer (some ⟨gd, 0 + x * 5, none⟩) | 8 => r 8 = .pointer (some ⟨gd, 0 + x * 5 + 2, none⟩) | 9 => r 9 = .int .i64 cst | 10 => r 10 = .int .i64 (x : Nat) | 11 => r 11 = .int .i64 tm | 12 => r 12 = .int .i64 (7 * tm) | 13 => r 13 = .int .i64 (cst + 7 * tm) | 14 => r 14 = .int .i64 (min 1000000 (cst + 7 * tm)) | 15 => r 15 = .pointer (some ⟨gd, 0 + x * 5, none⟩) | 16 => r 16 = .pointer (some ⟨gd, 0 + x * 5, none⟩) | 17 => r 17 = .pointer (some ⟨gd, 0 + x * 5 + 2, none⟩) | _ => True) []) (by kernel_rfl) rfl rfl (phi_nil) (fun i_ hi_ => ?_) ?_
                  · match i_, hi_ with
                    | 0, _ =>
                      intro val w1 a hb ha hd
                      have ha := ha.sub (Sub.ins (d := 10) (Sub.nil _) rfl)
                      exact hs_val ha rfl rfl (fa_67_1 rfl) rfl rfl
                    | 1, _ =>
                      intro val w1 a hb ha hd
                      have e0 : val 0 = .pointer (some ⟨ga3_9, 1, none⟩) := hd 0 (memB_mem.1 rfl)
                      have ha := ha.sub (Sub.ins (d := 124) (Sub.nil _) (dep_get rfl e0))
                      exact hs_val ha rfl rfl (ld_65 rfl ((q10x.below hb q10x.lt).at (j := 1) rfl)) rfl rfl
                    | 2, _ =>
                      intro val w1 a hb ha hd
                      have ha := ha.sub (Sub.ins (d := 11) (Sub.nil _) rfl)
                      exact hs_val ha rfl rfl (x_move rfl) rfl rfl
                    | 3, _ =>
                      intro val w1 a hb ha hd
                      have ha := ha.sub (Sub.ins (d := 10) (Sub.nil _) rfl)
                      exact hs_val ha rfl rfl (fa_67_1 rfl) rfl rfl
                    | 4, _ =>
                      intro val w1 a hb ha hd
                      have e3 : val 3 = .pointer (some ⟨ga3_9, 1, none⟩) := hd 3 (memB_mem.1 rfl)
                      have ha := ha.sub (Sub.ins (d := 127) (Sub.nil _) (dep_get rfl e3))
                      exact hs_val ha rfl rfl (ld_65 rfl ((q10x.below hb q10x.lt).at (j := 1) rfl)) rfl rfl
                    | 5, _ =>
                      intro val w1 a hb ha hd
                      have ha := ha.sub (Sub.ins (d := 11) (Sub.nil _) rfl)
                      exact hs_val ha rfl rfl (x_move rfl) rfl rfl
                    | 6, _ =>
                      intro val w1 a hb ha hd
                      have e4 : val 4 = .slice (some ⟨gd, 0, none⟩) pl.runs.length cD := hd 4 (memB_mem.1 rfl)
                      have e5 : val 5 = .int .i64 (x : Nat) := hd 5 (memB_mem.1 rfl)
                      have ha := ha.sub (Sub.ins (d := 129) (Sub.ins (d := 128) (Sub.nil _) (dep_get rfl e4)) (dep_get rfl e5))
                      exact hs_val ha rfl rfl (ix_65 rfl rfl hlt) rfl rfl
                    | 7, _ =>
                      intro val w1 a hb ha hd
                      have e6 : val 6 = .pointer (some ⟨gd, 0 + x * 5, none⟩) := hd 6 (memB_mem.1 rfl)
                      have ha := ha.sub (Sub.ins (d := 130) (Sub.nil _) (dep_get rfl e6))
                      exact hs_val ha rfl rfl (fa_71_0 rfl) rfl rfl
                    | 8, _ =>
                      intro val w1 a hb ha hd
                      have e7 : val 7 = .pointer (some ⟨gd, 0 + x * 5, none⟩) := hd 7 (memB_mem.1 rfl)
                      have ha := ha.sub (Sub.ins (d := 131) (Sub.nil _) (dep_get rfl e7))
                      exact hs_val ha rfl rfl (fa_56_2 rfl) rfl rfl
                    | 9, _ =>
                      intro val w1 a hb ha hd
                      have e8 : val 8 = .pointer (some ⟨gd, 0 + x * 5 + 2, none⟩) := hd 8 (memB_mem.1 rfl)
                      have ha := ha.sub (Sub.ins (d := 132) (Sub.nil _) (dep_get rfl e8))
                      exact hs_val ha rfl rfl (ld_3 rfl (below_load hb rc)) rfl rfl
                    | 10, _ =>
                      intro val w1 a hb ha hd
                      have ha := ha.sub (Sub.ins (d := 11) (Sub.nil _) rfl)
                      exact hs_val ha rfl rfl (x_move rfl) rfl rfl
                    | 11, _ =>
                      intro val w1 a hb ha hd
                      have e10 : val 10 = .int .i64 (x : Nat) := hd 10 (memB_mem.1 rfl)
                      have ha := ha.sub (Sub.ins (d := 134) (Sub.nil _) (dep_get rfl e10))
                      exact hs_val ha rfl rfl (x_rem rfl rfl (c := tm) (by decide) etm.symm) rfl rfl
                    | 12, _ =>
                      intro val w1 a hb ha hd
                      have e11 : val 11 = .int .i64 tm := hd 11 (memB_mem.1 rfl)
                      have ha := ha.sub (Sub.ins (d := 135) (Sub.nil _) (dep_get rfl e11))
                      exact hs_val ha rfl rfl (x_mul rfl rfl (c := 7 * tm) (IntWalk.i64_in _ ⟨by omega, by omega⟩)) rfl rfl
                    | 13, _ =>
                      intro val w1 a hb ha hd
                      have e9 : val 9 = .int .i64 cst := hd 9 (memB_mem.1 rfl)
                      have e12 : val 12 = .int .i64 (7 * tm) := hd 12 (memB_mem.1 rfl)
                      have ha := ha.sub (Sub.ins (d := 136) (Sub.ins (d := 133) (Sub.nil _) (dep_get rfl e9)) (dep_get rfl e12))
                      exact hs_val ha rfl rfl (x_add rfl rfl (c := cst + 7 * tm) (IntWalk.i64_in _ ⟨by omega, by omega⟩)) rfl rfl
                    | 14, _ =>
                      intro val w1 a hb ha hd
                      have e13 : val 13 = .int .i64 (cst + 7 * tm) := hd 13 (memB_mem.1 rfl)
                      have ha := ha.sub (Sub.ins (d := 137) (Sub.nil _) (dep_get rfl e13))
                      exact hs_val ha rfl rfl (mm_min rfl rfl rfl) rfl rfl
                    | 15, _ =>
                      intro val w1 a hb ha hd
                      have e1 : val 1 = .slice (some ⟨gd, 0, none⟩) pl.runs.length cD := hd 1 (memB_mem.1 rfl)
                      have e2 : val 2 = .int .i64 (x : Nat) := hd 2 (memB_mem.1 rfl)
                      have ha := ha.sub (Sub.ins (d := 126) (Sub.ins (d := 125) (Sub.nil _) (dep_get rfl e1)) (dep_get rfl e2))
                      exact hs_val ha rfl rfl (ix_65 rfl rfl hlt) rfl rfl
                    | 16, _ =>
                      intro val w1 a hb ha hd
                      have e15 : val 15 = .pointer (some ⟨gd, 0 + x * 5, none⟩) := hd 15 (memB_mem.1 rfl)
                      have ha := ha.sub (Sub.ins (d := 139) (Sub.nil _) (dep_get rfl e15))
                      exact hs_val ha rfl rfl (fa_71_0 rfl) rfl rfl
                    | 17, _ =>
                      intro val w1 a hb ha hd
                      have e16 : val 16 = .pointer (some ⟨gd, 0 + x * 5, none⟩) := hd 16 (memB_mem.1 rfl)
                      have ha := ha.sub (Sub.ins (d := 140) (Sub.nil _) (dep_get rfl e16))
                      exact hs_val ha rfl rfl (fa_56_2 rfl) rfl rfl
                    | k + 18, h => exact absurd h (by omega)
                  · intro val wR15 hb halc hd
                    have e0 : val 0 = .pointer (some ⟨ga3_9, 1, none⟩) := hd 0 (by omega)
                    have e1 : val 1 = .slice (some ⟨gd, 0, none⟩) pl.runs.length cD := hd 1 (by omega)
                    have e2 : val 2 = .int .i64 (x : Nat) := hd 2 (by omega)
                    have e3 : val 3 = .pointer (some ⟨ga3_9, 1, none⟩) := hd 3 (by omega)
                    have e4 : val 4 = .slice (some ⟨gd, 0, none⟩) pl.runs.length cD := hd 4 (by omega)
                    have e5 : val 5 = .int .i64 (x : Nat) := hd 5 (by omega)
                    have e6 : val 6 = .pointer (some ⟨gd, 0 + x * 5, none⟩) := hd 6 (by omega)
                    have e7 : val 7 = .pointer (some ⟨gd, 0 + x * 5, none⟩) := hd 7 (by omega)
                    have e8 : val 8 = .pointer (some ⟨gd, 0 + x * 5 + 2, none⟩) := hd 8 (by omega)
                    have e9 : val 9 = .int .i64 cst := hd 9 (by omega)
                    have e10 : val 10 = .int .i64 (x : Nat) := hd 10 (by omega)
                    have e11 : val 11 = .int .i64 tm := hd 11 (by omega)
                    have e12 : val 12 = .int .i64 (7 * tm) := hd 12 (by omega)
                    have e13 : val 13 = .int .i64 (cst + 7 * tm) := hd 13 (by omega)
                    have e14 : val 14 = .int .i64 (min 1000000 (cst + 7 * tm)) := hd 14 (by omega)
                    have e15 : val 15 = .pointer (some ⟨gd, 0 + x * 5, none⟩) := hd 15 (by omega)
                    have e16 : val 16 = .pointer (some ⟨gd, 0 + x * 5, none⟩) := hd 16 (by omega)
                    have e17 : val 17 = .pointer (some ⟨gd, 0 + x * 5 + 2, none⟩) := hd 17 (by omega)
                    refine EL.ends (cs := [.pointer (some ⟨ga3_9, 1, none⟩), .slice (some ⟨gd, 0, none⟩) pl.runs.length cD, .int .i64 (x : Nat), .pointer (some ⟨ga3_9, 1, none⟩), .slice (some ⟨gd, 0, none⟩) pl.runs.length cD, .int .i64 (x : Nat), .pointer (some ⟨gd, 0 + x * 5, none⟩), .pointer (some ⟨gd, 0 + x * 5, none⟩), .pointer (some ⟨gd, 0 + x * 5 + 2, none⟩), .int .i64 cst, .int .i64 (x : Nat), .int .i64 tm, .int .i64 (7 * tm), .int .i64 (cst + 7 * tm), .int .i64 (min 1000000 (cst + 7 * tm)), .pointer (some ⟨gd, 0 + x * 5, none⟩), .pointer (some ⟨gd, 0 + x * 5, none⟩), .pointer (some ⟨gd, 0 + x * 5 + 2, none⟩)]) ⟨e0, e1, e2, e3, e4, e5, e6, e7, e8, e9, e10, e11, e12, e13, e14, e15, e16, e17, trivial⟩ rfl ?_
                    replace q9x := q9x.below hb q9x.lt
                    replace q10x := q10x.below hb q10x.lt
                    replace hod := own_below hod hb (Nat.le_refl _)
                    replace o3_ := own_below o3_ hb (Nat.le_refl _)
                    replace o7_ := own_below o7_ hb (Nat.le_refl _)
                    replace hbw := Below.on hbw hb hbw.size
                    clear hb
                    refine EL.storeRow (l' := [.int .i64 (min 1000000 (cst + 7 * tm))]) rfl rfl hod sz_3 rfl rfl (by rw [runsC_len]; omega) rfl ?_
                    intro w44 ho2 hgr
                    rw [spl_run (by omega), show (⟨⟨_, _, min 1000000 (cst + 7 * tm), _⟩, _⟩ : Run) = dearR1 x ((dearTo pl.runs x).getD x run0) from by rw [ecs, etm]; rfl, ← hset] at ho2
                    replace o3_ := own_grown o3_ hod rfl hgr
                    replace o7_ := own_grown o7_ hod rfl hgr
                    replace q9x := blk_grown q9x hod rfl hgr
                    replace q10x := blk_grown q10x hod rfl hgr
                    replace hbw := hbw.trans (below_row hod hgr hbw.size)
                    clear hod hgr
                    have hod := ho2
                    clear ho2
                    refine EL.nil ?_
                    refine EX.blk ?_
                    refine EX.seq ?_
                    refine EC.region ?_
                    refine EL.val (x_move rfl) rfl ?_
                    refine EL.val (x_add rfl rfl (c := ((x + 1 : Nat) : Int)) ((IntWalk.i64_in _ ⟨by first | omega | (simp only; omega), by first | omega | (simp only; omega)⟩).trans (by first | omega | (simp only; omega)))) rfl ?_
                    refine EL.val (x_assign rfl) rfl ?_
                    refine EL.nil ?_
                    refine EX.roundD (x + 1) ⟨rfl, trivial⟩ (by repeat first | with_reducible exact Sub.refl _ | refine sub_past rfl ?_ | exact Sub.refl _ | refine sub_del rfl ?_ | refine sub_insL_nil ?_) ⟨hlt, hod, q9x, q10x, o3_, o7_, hbw⟩ (by omega)
                ·
                  have hxe : x = pl.runs.length := by omega
                  subst hxe
                  refine EC.seq ?_
                  refine EC.seq ?_
                  refine EC.region ?_
                  refine EL.val (x_move rfl) rfl ?_
                  refine EL.val (fa_67_1 rfl) rfl ?_
                  refine EL.val (ld_65 rfl (q10x.at (j := 1) rfl)) rfl ?_
                  refine EL.val (ln_65 rfl) rfl ?_
                  refine EL.val (x_lss rfl rfl (decide_eq_false (show ¬(((pl.runs.length : Nat) : Int) < ((pl.runs.length : Nat) : Int)) by omega))) rfl ?_
                  refine EL.nil ?_
                  refine EX.seq ?_
                  refine EC.no rfl ?_
                  refine EC.exit ?_
                  refine EX.seq_exit ?_
                  refine EX.seq_exit ?_
                  refine EX.blk_here ?_
                  refine EX.seq ?_
                  refine EC.seq ?_
                  refine EC.region ?_
                  refine EL.val (ld_67 rfl (q9x.at (j := 0) rfl) (q9x.at (j := 1) rfl) (q9x.at (j := 2) rfl)) rfl ?_
                  have hrL := long_rd (hr.below (hbw.mono hB)) (Nat.le_trans hB hbw.size) o3_ o7_
                  refine EL.call (cl_35 rfl) rfl (expand_ok hok2 _ _ _ _ _ _ hrL (Nat.le_refl _) (by rw [long_w]; omega) (by show pl.store.length ≤ _; omega) (by show pl.runs.length ≤ _; omega)) ?_
                  rintro e w45 ⟨⟨v145, v245, rfl, hn2⟩, hc45⟩
                  refine ⟨_, rfl, ?_⟩
                  clear hrL
                  replace q9x := q9x.below hc45 q9x.lt
                  replace q10x := q10x.below hc45 q10x.lt
                  replace hod := own_below hod hc45 (Nat.le_refl _)
                  replace hbw := Below.on hbw hc45 hbw.size
                  clear hc45
                  obtain ⟨Bp45, dp45, rfl, _⟩ := (Rd.of_own hn2.ports).shape
                  obtain ⟨Bw45, dw45, rfl, _⟩ := (Rd.of_own hn2.ways).shape
                  refine EL.val (x_move rfl) rfl ?_
                  refine EL.val (x_extract rfl rfl) rfl ?_
                  refine EL.val (x_extract rfl rfl) rfl ?_
                  refine EL.newP al_25 rfl ?_
                  intro g46 w46 q46 hb46 hg46 hl46
                  have n35_46 : ga2_9 ≠ g46 := Nat.ne_of_lt (Nat.lt_of_lt_of_le q9x.lt hg46)
                  have n36_46 : ga3_9 ≠ g46 := Nat.ne_of_lt (Nat.lt_of_lt_of_le q10x.lt hg46)
                  have bhbw_46 := Nat.le_trans hbw.size hg46
                  replace q9x := q9x.below hb46 q9x.lt
                  replace q10x := q10x.below hb46 q10x.lt
                  replace hod := own_below hod hb46 (Nat.le_refl _)
                  replace hn2 := hn2.below hb46
                  replace hbw := Below.on hbw hb46 hbw.size
                  clear hb46 hg46 hl46
                  refine EL.store rfl rfl q46 sz_25 rfl rfl rfl rfl ?_
                  intro w47 hq47 hg47
                  replace q9x := q9x.grown hg47 (fun h => n35_46 (Option.some.inj h))
                  replace q10x := q10x.grown hg47 (fun h => n36_46 (Option.some.inj h))
                  replace hod := own_type hod q46 rfl hg47
                  replace hn2 := hn2.box q46 rfl rfl hg47
                  replace hbw := below_store hbw hg47 bhbw_46
                  replace q46 := hq47
                  clear hg47 hq47
                  refine EL.val (x_assign rfl) rfl ?_
                  refine EL.nil ?_
                  refine EX.seq ?_
                  refine EC.seq ?_
                  refine EC.region ?_
                  refine EL.val (ld_67 rfl (q10x.at (j := 0) rfl) (q10x.at (j := 1) rfl) (q10x.at (j := 2) rfl)) rfl ?_
                  have hrD := dear_rd (hr.below (hbw.mono hB)) (Nat.le_trans hB hbw.size) hod
                  refine EL.call (cl_35 rfl) rfl (expand_ok hok3 us _ _ _ _ _ hrD (Nat.le_refl _) (by show pl.prts.length ≤ _; omega) (by show pl.store.length ≤ _; omega) (by rw [show (dearP pl).runs.length = pl.runs.length from dear_len _]; omega)) ?_
                  rintro e w48 ⟨⟨v148, v248, rfl, hn3⟩, hc48⟩
                  refine ⟨_, rfl, ?_⟩
                  clear hrD
                  replace q9x := q9x.below hc48 q9x.lt
                  replace q10x := q10x.below hc48 q10x.lt
                  replace q46 := q46.below hc48 q46.lt
                  replace hn2 := hn2.below hc48
                  replace hbw := Below.on hbw hc48 hbw.size
                  clear hc48
                  obtain ⟨Bp48, dp48, rfl, _⟩ := (Rd.of_own hn3.ports).shape
                  obtain ⟨Bw48, dw48, rfl, _⟩ := (Rd.of_own hn3.ways).shape
                  refine EL.val (x_move rfl) rfl ?_
                  refine EL.val (x_extract rfl rfl) rfl ?_
                  refine EL.val (x_extract rfl rfl) rfl ?_
                  refine EL.newP al_25 rfl ?_
                  intro g49 w49 q49 hb49 hg49 hl49
                  have n35_49 : ga2_9 ≠ g49 := Nat.ne_of_lt (Nat.lt_of_lt_of_le q9x.lt hg49)
                  have n36_49 : ga3_9 ≠ g49 := Nat.ne_of_lt (Nat.lt_of_lt_of_le q10x.lt hg49)
                  have n46_49 : g46 ≠ g49 := Nat.ne_of_lt (Nat.lt_of_lt_of_le q46.lt hg49)
                  have bhbw_49 := Nat.le_trans hbw.size hg49
                  replace q9x := q9x.below hb49 q9x.lt
                  replace q10x := q10x.below hb49 q10x.lt
                  replace q46 := q46.below hb49 q46.lt
                  replace hn2 := hn2.below hb49
                  replace hn3 := hn3.below hb49
                  replace hbw := Below.on hbw hb49 hbw.size
                  clear hb49 hg49 hl49
                  refine EL.store rfl rfl q49 sz_25 rfl rfl rfl rfl ?_
                  intro w50 hq50 hg50
                  replace q9x := q9x.grown hg50 (fun h => n35_49 (Option.some.inj h))
                  replace q10x := q10x.grown hg50 (fun h => n36_49 (Option.some.inj h))
                  replace q46 := q46.grown hg50 (fun h => n46_49 (Option.some.inj h))
                  replace hn2 := hn2.box q49 rfl rfl hg50
                  replace hn3 := hn3.box q49 rfl rfl hg50
                  replace hbw := below_store hbw hg50 bhbw_49
                  replace q49 := hq50
                  clear hg50 hq50
                  refine EL.val (x_assign rfl) rfl ?_
                  refine EL.nil ?_
                  refine EX.seq ?_
                  refine EC.seq ?_
                  refine EC.seq ?_
                  refine EC.region ?_
                  refine EL.val (x_move rfl) rfl ?_
                  refine EL.val (x_neq (r := false) rfl rfl (decide_eq_false (fun h => h rfl))) rfl ?_
                  refine EL.val (x_move rfl) rfl ?_
                  refine EL.valg rfl rfl (x_move rfl) rfl ?_
                  refine EL.valg rfl rfl (x_neq (r := false) rfl rfl (decide_eq_false (fun h => h rfl))) rfl ?_
                  refine EL.val (x_pick_f rfl rfl) rfl ?_
                  refine EL.nil ?_
                  refine EX.seq ?_
                  refine EC.no rfl ?_
                  refine EC.skip ?_
                  refine EX.seq ?_
                  refine EC.seq ?_
                  refine EC.region ?_
                  refine EL.val (ld_25 rfl (q46.at (j := 0) rfl) (q46.at (j := 1) rfl)) rfl ?_
                  refine EL.call (cl_15 rfl) rfl (move_any (expN (longP pl)) _ _ _ _ hn2.rd (Nat.le_refl _) (by omega) (by omega)) ?_
                  rintro e w51 ⟨⟨vm2, vr2, ml2, c2, pr2, e2, rfl, hmv2, _, _⟩, hc51⟩
                  refine ⟨_, rfl, ?_⟩
                  replace q9x := q9x.below hc51 q9x.lt
                  replace q10x := q10x.below hc51 q10x.lt
                  replace q46 := q46.below hc51 q46.lt
                  replace q49 := q49.below hc51 q49.lt
                  replace hn3 := hn3.below hc51
                  replace hbw := Below.on hbw hc51 hbw.size
                  clear hc51
                  refine EL.val (x_move rfl) rfl ?_
                  refine EL.val (x_extract rfl rfl) rfl ?_
                  refine EL.val (x_extract rfl rfl) rfl ?_
                  refine EL.val (x_extract rfl rfl) rfl ?_
                  refine EL.val (x_extract rfl rfl) rfl ?_
                  refine EL.val (x_assign rfl) rfl ?_
                  refine EL.val (x_assign rfl) rfl ?_
                  refine EL.val (x_assign rfl) rfl ?_
                  refine EL.val (x_assign rfl) rfl ?_
                  refine EL.nil ?_
                  refine EX.seq ?_
                  refine EC.seq ?_
                  refine EC.region ?_
                  refine EL.val (ld_25 rfl (q49.at (j := 0) rfl) (q49.at (j := 1) rfl)) rfl ?_
                  refine EL.call (cl_15 rfl) rfl (move_any (expN (dearP pl)) _ _ _ _ hn3.rd (Nat.le_refl _) (by omega) (by omega)) ?_
                  rintro e w52 ⟨⟨vm3, vr3, ml3, c3, pr3, e3, rfl, hmv3, _, _⟩, hc52⟩
                  refine ⟨_, rfl, ?_⟩
                  replace q9x := q9x.below hc52 q9x.lt
                  replace q10x := q10x.below hc52 q10x.lt
                  replace q46 := q46.below hc52 q46.lt
                  replace q49 := q49.below hc52 q49.lt
                  replace hbw := Below.on hbw hc52 hbw.size
                  clear hc52
                  refine EL.val (x_move rfl) rfl ?_
                  refine EL.val (x_extract rfl rfl) rfl ?_
                  refine EL.val (x_extract rfl rfl) rfl ?_
                  refine EL.val (x_extract rfl rfl) rfl ?_
                  refine EL.val (x_extract rfl rfl) rfl ?_
                  refine EL.val (x_assign rfl) rfl ?_
                  refine EL.val (x_assign rfl) rfl ?_
                  refine EL.val (x_assign rfl) rfl ?_
                  refine EL.val (x_assign rfl) rfl ?_
                  refine EL.nil ?_
                  refine EX.seq ?_
                  refine EC.seq ?_
                  refine EC.seq ?_
                  refine EC.region ?_
                  refine EL.val (x_move rfl) rfl ?_
                  obtain ⟨he2, hk2⟩ := week_same hok hok2 hmv1 hmv2
                  obtain ⟨he3, hk3⟩ := dear_same hok hok3 hmv1 hmv3
                  subst he2
                  subst he3
                  rcases move_err hok.net hmv1 with ⟨rfl, _⟩ | ⟨rfl, _⟩
                  ·
                    refine EL.val (x_neq (r := false) rfl rfl (decide_eq_false (fun h => h rfl))) rfl ?_
                    refine EL.nil ?_
                    refine EX.seq ?_
                    refine EC.no rfl ?_
                    refine EC.skip ?_
                    refine EX.seq ?_
                    refine EC.seq ?_
                    refine EC.region ?_
                    refine EL.val (x_move rfl) rfl ?_
                    refine EL.val (x_eql (r := true) rfl rfl (decide_eq_true rfl)) rfl ?_
                    refine EL.val (x_move rfl) rfl ?_
                    refine EL.valg rfl rfl (x_move rfl) rfl ?_
                    refine EL.valg rfl rfl (x_move rfl) rfl ?_
                    refine EL.valg rfl rfl (x_eql (r := true) rfl rfl (decide_eq_true (hk2 rfl))) rfl ?_
                    refine EL.val (x_pick_t rfl rfl) rfl ?_
                    refine EL.val (x_move rfl) rfl ?_
                    refine EL.valg rfl rfl (x_move rfl) rfl ?_
                    refine EL.valg rfl rfl (x_eql (r := true) rfl rfl (decide_eq_true rfl)) rfl ?_
                    refine EL.val (x_pick_t rfl rfl) rfl ?_
                    refine EL.val (x_move rfl) rfl ?_
                    refine EL.valg rfl rfl (x_move rfl) rfl ?_
                    refine EL.valg rfl rfl (x_move rfl) rfl ?_
                    refine EL.valg rfl rfl (x_geq (r := true) rfl rfl (decide_eq_true (by have h_ := hk3 rfl; omega))) rfl ?_
                    refine EL.val (x_pick_t rfl rfl) rfl ?_
                    refine EL.val (x_move rfl) rfl ?_
                    refine EL.callg rfl rfl cl_13 rfl (known_any _) ?_
                    rintro e w53 ⟨rfl, hc53⟩
                    refine ⟨_, rfl, ?_⟩
                    replace q9x := q9x.below hc53 q9x.lt
                    replace q10x := q10x.below hc53 q10x.lt
                    replace q46 := q46.below hc53 q46.lt
                    replace q49 := q49.below hc53 q49.lt
                    replace hbw := Below.on hbw hc53 hbw.size
                    clear hc53
                    refine EL.val (x_pick_t rfl rfl) rfl ?_
                    refine EL.val (x_assign rfl) rfl ?_
                    refine EL.nil ?_
                    refine EX.seq ?_
                    refine EC.ret ?_
                    exact EX.done (res1 rfl rfl) ⟨rfl, hbw⟩
                  ·
                    refine EL.val (x_neq (r := true) rfl rfl (by decide)) rfl ?_
                    refine EL.nil ?_
                    refine EX.seq ?_
                    refine EC.yes rfl ?_
                    refine EC.seq ?_
                    refine EC.region ?_
                    refine EL.val (x_move rfl) rfl ?_
                    refine EL.val (x_eql (r := true) rfl rfl (decide_eq_true rfl)) rfl ?_
                    refine EL.val (x_move rfl) rfl ?_
                    refine EL.valg rfl rfl (x_move rfl) rfl ?_
                    refine EL.valg rfl rfl (x_move rfl) rfl ?_
                    refine EL.valg rfl rfl (x_eql (r := true) rfl rfl (decide_eq_true rfl)) rfl ?_
                    refine EL.val (x_pick_t rfl rfl) rfl ?_
                    refine EL.val (x_move rfl) rfl ?_
                    refine EL.valg rfl rfl (x_move rfl) rfl ?_
                    refine EL.valg rfl rfl (x_move rfl) rfl ?_
                    refine EL.valg rfl rfl (x_eql (r := true) rfl rfl (decide_eq_true rfl)) rfl ?_
                    refine EL.val (x_pick_t rfl rfl) rfl ?_
                    refine EL.val (x_move rfl) rfl ?_
                    refine EL.callg rfl rfl cl_13 rfl (known_any _) ?_
                    rintro e w54 ⟨rfl, hc54⟩
                    refine ⟨_, rfl, ?_⟩
                    replace q9x := q9x.below hc54 q9x.lt
                    replace q10x := q10x.below hc54 q10x.lt
                    replace q46 := q46.below hc54 q46.lt
                    replace q49 := q49.below hc54 q49.lt
                    replace hbw := Below.on hbw hc54 hbw.size
                    clear hc54
                    refine EL.val (x_pick_t rfl rfl) rfl ?_
                    refine EL.val (x_assign rfl) rfl ?_
                    refine EL.nil ?_
                    refine EX.seq ?_
                    refine EC.ret ?_
                    refine EX.seq_ret ?_
                    exact EX.done (res1 rfl rfl) ⟨rfl, hbw⟩
        ·
          refine EL.call (cl_35 rfl) rfl (expand_bad hpe us _ _ _ _ B (hr.below (hbw.mono hB)) (Nat.le_trans hB hbw.size) (by omega) (by omega) (by omega)) ?_
          rintro e w55 ⟨rfl, hc55⟩
          refine ⟨_, rfl, ?_⟩
          replace q1 := q1.below hc55 q1.lt
          replace hbw := Below.on hbw hc55 hbw.size
          clear hc55
          refine EL.val (x_move rfl) rfl ?_
          refine EL.val (x_extract rfl rfl) rfl ?_
          refine EL.val (x_extract rfl rfl) rfl ?_
          refine EL.newP al_25 rfl ?_
          intro g56 w56 q56 hb56 hg56 hl56
          have n1_56 : g1 ≠ g56 := Nat.ne_of_lt (Nat.lt_of_lt_of_le q1.lt hg56)
          have bhbw_56 := Nat.le_trans hbw.size hg56
          replace q1 := q1.below hb56 q1.lt
          replace hbw := Below.on hbw hb56 hbw.size
          clear hb56 hg56 hl56
          refine EL.store rfl rfl q56 sz_25 rfl rfl rfl rfl ?_
          intro w57 hq57 hg57
          replace q1 := q1.grown hg57 (fun h => n1_56 (Option.some.inj h))
          replace hbw := below_store hbw hg57 bhbw_56
          replace q56 := hq57
          clear hg57 hq57
          refine EL.val (x_assign rfl) rfl ?_
          refine EL.nil ?_
          refine EX.seq ?_
          refine EC.seq ?_
          refine EC.seq ?_
          refine EC.region ?_
          refine EL.val (x_move rfl) rfl ?_
          refine EL.val (x_neq (r := true) rfl rfl (decide_eq_true hpe)) rfl ?_
          refine EL.nil ?_
          refine EX.seq ?_
          refine EC.yes rfl ?_
          refine EC.seq ?_
          refine EC.region ?_
          refine EL.val (fa_25_0 rfl) rfl ?_
          refine EL.val (ld_22 rfl (q56.at (j := 0) rfl)) rfl ?_
          refine EL.val (ln_22 rfl) rfl ?_
          refine EL.val (fa_25_1 rfl) rfl ?_
          refine EL.val (ld_23 rfl (q56.at (j := 1) rfl)) rfl ?_
          refine EL.val (ln_23 rfl) rfl ?_
          refine EL.val (x_add rfl rfl (c := 0) rfl) rfl ?_
          refine EL.val (x_eql (r := true) rfl rfl (decide_eq_true rfl)) rfl ?_
          refine EL.val (x_move rfl) rfl ?_
          refine EL.callg rfl rfl cl_13 rfl (known_any _) ?_
          rintro e w58 ⟨rfl, hc58⟩
          refine ⟨_, rfl, ?_⟩
          replace q1 := q1.below hc58 q1.lt
          replace q56 := q56.below hc58 q56.lt
          replace hbw := Below.on hbw hc58 hbw.size
          clear hc58
          refine EL.val (x_pick_t rfl rfl) rfl ?_
          refine EL.val (x_assign rfl) rfl ?_
          refine EL.nil ?_
          refine EX.seq ?_
          refine EC.ret ?_
          refine EX.seq_ret ?_
          exact EX.done (res1 rfl rfl) ⟨rfl, hbw⟩
end Go.Proofs.Ytabgmnmpdjnjoaa
namespace Go.Proofs.Ytabgmnmpdjnjoaa
open Go Go.ChangeShapes Go.WideShapes Go.Deep Go.RowKit Go.Joins
section
variable {H : Type} {enc : TypeId × Value → H} {w : World} {base : Nat} {spare : Nat → Bool} {held : Bool}
set_option maxRecDepth 100000 in
theorem cells_71 {fuel : Nat} {cs : List Value} {x : DataW H × List MemPlace} (hl : cs.length = 5) (h : DataW.trod enc Try.prog w base spare held fuel 71 cs = some x) : ∃ (z0 : Int) (z1 : Int) (z2 : Int) (z3 : Int) (z4 : Int), cs = [.int .i64 z0, .int .i64 z1, .int .i64 z2, .int .i64 z3, .int .i64 z4] := by
  obtain ⟨ys, n, _, _, _, hyl, hf⟩ := DataW.trod_struct Try.underlying71 h
  match cs, hl with
  | [u0, u1, u2, u3, u4], _ =>
    match ys, hyl with
    | [y0, y1], _ =>
      have q0 : DataW.trod enc Try.prog w base spare held n 56 [u0, u1, u2, u3] = some y0 := fld_of hf (j := 0) rfl rfl rfl co_56
      obtain ⟨a0, a1, a2, a3, e0⟩ := cells_56 rfl q0
      simp only [List.cons.injEq, and_true] at e0
      obtain ⟨rfl, rfl, rfl, rfl⟩ := e0
      have q1 : DataW.trod enc Try.prog w base spare held n 3 [u4] = some y1 := fld_of hf (j := 1) rfl rfl rfl co_3
      obtain ⟨z4, hz4, _, _⟩ := DataW.trod_int Try.underlying3 q1
      injection hz4 with hz4
      subst hz4
      exact ⟨a0, a1, a2, a3, z4, rfl⟩
theorem co_71 : Try.prog.cellsOf 71 = 5 := by kernel_rfl
theorem co_65 : Try.prog.cellsOf 65 = 1 := by kernel_rfl
theorem co_64 : Try.prog.cellsOf 64 = 1 := by kernel_rfl
theorem co_29 : Try.prog.cellsOf 29 = 1 := by kernel_rfl
set_option maxRecDepth 100000 in
theorem cells_67 {fuel : Nat} {cs : List Value} {x : DataW H × List MemPlace} (hl : cs.length = 3) (h : DataW.trod enc Try.prog w base spare held fuel 67 cs = some x) : ∃ (v0 : Value) (v1 : Value) (v2 : Value), cs = [v0, v1, v2] ∧ (∃ n x, DataW.trod enc Try.prog w base spare held n 64 [v0] = some x) ∧ (∃ n x, DataW.trod enc Try.prog w base spare held n 65 [v1] = some x) ∧ (∃ n x, DataW.trod enc Try.prog w base spare held n 29 [v2] = some x) := by
  obtain ⟨ys, n, _, _, _, hyl, hf⟩ := DataW.trod_struct Try.underlying67 h
  match cs, hl with
  | [u0, u1, u2], _ =>
    match ys, hyl with
    | [y0, y1, y2], _ =>
      have q0 : DataW.trod enc Try.prog w base spare held n 64 [u0] = some y0 := fld_of hf (j := 0) rfl rfl rfl co_64
      have q1 : DataW.trod enc Try.prog w base spare held n 65 [u1] = some y1 := fld_of hf (j := 1) rfl rfl rfl co_65
      have q2 : DataW.trod enc Try.prog w base spare held n 29 [u2] = some y2 := fld_of hf (j := 2) rfl rfl rfl co_29
      exact ⟨u0, u1, u2, rfl, ⟨_, _, q0⟩, ⟨_, _, q1⟩, ⟨_, _, q2⟩⟩
theorem co_67 : Try.prog.cellsOf 67 = 3 := by kernel_rfl
theorem cells_len_67 {fuel : Nat} {v : Value} {x : DataW H × List MemPlace} (h : DataW.trod enc Try.prog w base spare held fuel 67 v.cells.toList = some x) : v.cells.toList.length = 3 := by
  obtain ⟨_, _, _, _, hlen, _, _⟩ := DataW.trod_struct Try.underlying67 h
  rw [hlen]
  exact co_67
instance : Inhabited Run := ⟨run0⟩
instance : Inhabited (List Prt × Value) := ⟨([], .slice none 0 0)⟩
theorem rd_runs {fuel : Nat} {v : Value} {x : DataW H × List MemPlace} (h : DataW.trod enc Try.prog w base spare held fuel 65 [v] = some x) : ∃ l : List Run, Rd w w.heap.size 5 v l.length (runsC l) ∧ l.length ≤ maxLen := by
  obtain ⟨l, h1, _, h2⟩ := rd_list (f := runC) (Good := fun _ => True) runC_len (by omega) Try.underlying65 co_71 (fun _ cs _ hl ht => by
    obtain ⟨a, b, c, d, e, rfl⟩ := cells_71 hl ht
    exact ⟨⟨⟨a, b, c, d⟩, e⟩, rfl, trivial⟩) h
  exact ⟨l, h1, h2⟩
theorem flat_snd {α β : Type} : ∀ l : List (α × β), l.flatMap (fun p => [p.2]) = l.map Prod.snd
  | [] => rfl
  | (a, b) :: l => by simp [flat_snd l]
theorem rd_rows {fuel : Nat} {v : Value} {x : DataW H × List MemPlace} (h : DataW.trod enc Try.prog w base spare held fuel 64 [v] = some x) : ∃ (l : List (List Prt)) (vs : List Value), RdLL prtC 2 w w.heap.size v l vs ∧ l.length ≤ maxLen := by
  obtain ⟨l, h1, h3, h2⟩ := rd_list (α := List Prt × Value) (s := 1) (f := fun p => [p.2]) (Good := fun p => Rd w w.heap.size 2 p.2 p.1.length (prtsC p.1) ∧ p.1.length ≤ maxLen) (fun _ => rfl) (by omega) Try.underlying64 co_22 (fun _ cs _ hl ht => by
    match cs, hl with
    | [u], _ =>
      obtain ⟨l, h1, h2⟩ := rd_prts ht
      exact ⟨(l, u), rfl, h1, h2⟩) h
  rw [flat_snd] at h1
  refine ⟨l.map Prod.fst, l.map Prod.snd, ⟨by simp, by simpa using h1, fun i hi => ?_⟩, by simpa using h2⟩
  have hi' : i < l.length := by simpa using hi
  have e1 : (l.map Prod.fst).getD i [] = l[i].1 := by simp [hi']
  have e2 : (l.map Prod.snd).getD i undef = l[i].2 := by simp [hi']
  rw [e1, e2]
  exact (h3 _ (List.getElem_mem hi')).1
theorem plan_of {v : Value} {d : DataW H} {p : List MemPlace} (h : DataW.Trod enc Try.prog w base spare held 67 v d p) : ∃ (pl : Plan) (us : List Value) (vp vr vs : Value), v = .agg #[vp, vr, vs] ∧ RdPlan w w.heap.size vp vr vs pl us ∧ pl.prts.length ≤ maxLen ∧ pl.store.length ≤ maxLen ∧ pl.runs.length ≤ maxLen := by
  obtain ⟨fuel, hf⟩ := h
  obtain ⟨a, b, c, he, ⟨_, _, ha⟩, ⟨_, _, hb⟩, ⟨_, _, hc⟩⟩ := cells_67 (cells_len_67 hf) hf
  obtain ⟨l, us, h1, h2⟩ := rd_rows ha
  obtain ⟨m, h3, h4⟩ := rd_runs hb
  obtain ⟨s, h5, h6⟩ := rd_ints hc
  refine ⟨⟨l, m, s⟩, us, a, b, c, ?_, ⟨h1, h3, h5⟩, h2, h6, h4⟩
  cases v with
    | agg cs =>
      have : cs = #[a, b, c] := by
        apply Array.ext'
        simpa [Value.cells] using he
      rw [this]
    | _ => simp [Value.cells] at he
end
end Go.Proofs.Ytabgmnmpdjnjoaa
