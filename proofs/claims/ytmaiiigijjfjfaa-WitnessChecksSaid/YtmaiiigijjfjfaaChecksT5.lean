/- X20: what WitnessChecksProof needs of them (merged by trimpack.py). -/
import Derived.Test.YtmaiiigijjfjfaaChecksT4
set_option linter.unusedVariables false
set_option linter.unusedSimpArgs false
namespace Go.Proofs.Ytmaiiigijjfjfaa
open Go Go.RowKit
section
variable {n : Nat} {σ : Sg} {w : World} {dst : Option Tmp} {ty : TypeId} {t' : TypeId} {pos : String} {af : Array Edge} {g : Option (Nat × Bool)} {x y z : Operand}
theorem neq_bool {p q r : Bool} (hx : evS σ x = some (.bool p)) (hy : evS σ y = some (.bool q)) (hr : (p != q) = r) : Gives Try.prog n σ w ⟨dst, .binOp .neq 4 x y t', ty, pos, af, g⟩ (.bool r) := fun a ha => by
  simp only [execOp, ha.eval hx, ha.eval hy]
  subst hr
  cases p <;> cases q <;> simp [go_sem]
end
theorem check_ok {c : Case} (hc : caseB c = true) (vc vl : Value) (vs : List Value) (w : World) (B : Nat) (hr : RdCase w B vc vl c vs) (hB : B ≤ w.heap.size) (hn1 : c.clocks.length ≤ 1073741824) (hn2 : c.clues.length ≤ 1073741824) :
    Calls Try.prog 25 #[.agg #[.int .i64 c.events, vc, vl]] w fun e w' => e = .returned (.int .i64 0) ∧ Below w.heap.size w w' := by
  have h := check_any c vc vl vs w B hr hB hn1 hn2
  rw [if_pos hc] at h
  exact h
theorem check_bad {c : Case} (hc : ¬caseB c = true) (vc vl : Value) (vs : List Value) (w : World) (B : Nat) (hr : RdCase w B vc vl c vs) (hB : B ≤ w.heap.size) (hn1 : c.clocks.length ≤ 1073741824) (hn2 : c.clues.length ≤ 1073741824) :
    Calls Try.prog 25 #[.agg #[.int .i64 c.events, vc, vl]] w fun e w' => e = .returned (.int .i64 2) ∧ Below w.heap.size w w' := by
  have h := check_any c vc vl vs w B hr hB hn1 hn2
  rw [if_neg hc] at h
  exact h
theorem possible_to {c : Case} {l : List Int} {p : Bool} {E : Int} (hp : possS c l = p) (he : startErr c l = E) (vc vl : Value) (vs : List Value) (w : World) (B : Nat) (hr : RdCase w B vc vl c vs) (hB : B ≤ w.heap.size) (hn1 : c.clocks.length ≤ 1073741824) (hn2 : c.clues.length ≤ 1073741824) (vi : Value) (hrl : Rd w B 1 vi l.length (ints l)) (hnl : l.length ≤ 1073741824) :
    Calls Try.prog 26 #[.agg #[.int .i64 c.events, vc, vl], vi] w fun e w' => e = .returned (.tuple #[.bool p, .int .i64 E]) ∧ Below w.heap.size w w' := hp ▸ he ▸ possible_any c vc vl vs w B hr hB hn1 hn2 l vi hrl hnl
theorem times_to {c : Case} {l : List Int} {L : List Bd} {E : Int} (he : timesErr c l = E) (hL : timesL c l = L) (vc vl : Value) (vs : List Value) (w : World) (B : Nat) (hr : RdCase w B vc vl c vs) (hB : B ≤ w.heap.size) (hn1 : c.clocks.length ≤ 1073741824) (hn2 : c.clues.length ≤ 1073741824) (vi : Value) (hrl : Rd w B 1 vi l.length (ints l)) (hnl : l.length ≤ 1073741824) :
    Calls Try.prog 27 #[.agg #[.int .i64 c.events, vc, vl], vi] w fun e w' => (∃ v, e = .returned (.tuple #[v, .int .i64 E]) ∧ Rd w' w'.heap.size 2 v L.length (bdsC L)) ∧ Below w.heap.size w w' := he ▸ hL ▸ times_any c vc vl vs w B hr hB hn1 hn2 l vi hrl hnl
theorem between_to {c : Case} {l : List Int} {S : Bd} {E a b : Int} (he : btwErr c l a b = E) (hS : btwS c l a b = S) (vc vl : Value) (vs : List Value) (w : World) (B : Nat) (hr : RdCase w B vc vl c vs) (hB : B ≤ w.heap.size) (hn1 : c.clocks.length ≤ 1073741824) (hn2 : c.clues.length ≤ 1073741824) (vi : Value) (hrl : Rd w B 1 vi l.length (ints l)) (hnl : l.length ≤ 1073741824) :
    Calls Try.prog 28 #[.agg #[.int .i64 c.events, vc, vl], vi, .int .i64 a, .int .i64 b] w fun e w' => e = .returned (.tuple #[.agg #[.int .i64 S.lo, .int .i64 S.hi], .int .i64 E]) ∧ Below w.heap.size w w' := he ▸ hS ▸ between_any c vc vl vs w B hr hB hn1 hn2 l vi hrl hnl a b
theorem rstart_to {c : Case} {l : List Int} {E : Int} (he : startErr c l = E) (vc vl : Value) (vs : List Value) (w : World) (B : Nat) (hr : RdCase w B vc vl c vs) (hB : B ≤ w.heap.size) (hn1 : c.clocks.length ≤ 1073741824) (hn2 : c.clues.length ≤ 1073741824) (vi : Value) (hrl : Rd w B 1 vi l.length (ints l)) (hnl : l.length ≤ 1073741824) :
    Calls Try.prog 16 #[.agg #[.int .i64 c.events, vc, vl], vi] w fun e w' => e = .returned (.int .i64 E) ∧ Below w.heap.size w w' := he ▸ rstart_any c vc vl vs w B hr hB hn1 hn2 l vi hrl hnl
theorem rpossible_to {c : Case} {l : List Int} {p : Bool} (hp : okC c l = p) (vc vl : Value) (vs : List Value) (w : World) (B : Nat) (hr : RdCase w B vc vl c vs) (hB : B ≤ w.heap.size) (hn1 : c.clocks.length ≤ 1073741824) (hn2 : c.clues.length ≤ 1073741824) (vi : Value) (hrl : Rd w B 1 vi l.length (ints l)) (hc : caseB c = true) (hcr : inCourseN c l) (hbd : NoOver c l) :
    Calls Try.prog 17 #[.agg #[.int .i64 c.events, vc, vl], vi] w fun e w' => e = .returned (.bool p) ∧ Below w.heap.size w w' := hp ▸ rpossible_any c vc vl vs w B hr hB hn1 hn2 l vi hrl hc hcr hbd
theorem poss_bad {c : Case} {l : List Int} (h : startErr c l ≠ 0) : possS c l = false := by simp [possS, h]
theorem poss_ok {c : Case} {l : List Int} (h : startErr c l = 0) (hf : fitsS c l = true) : possS c l = true := by simp [possS, h, hf]
theorem poss_no {c : Case} {l : List Int} (h : startErr c l = 0) (hf : fitsS c l = false) : possS c l = false := by simp [possS, hf]
theorem btw_start {c : Case} {l : List Int} {a b : Int} (h : startErr c l ≠ 0) : btwErr c l a b = startErr c l ∧ btwS c l a b = bd0 := by simp [btwErr, btwS, h]
theorem btw_none {c : Case} {l : List Int} {a b : Int} (h : startErr c l = 0) (hi : (inB 0 (c.events - 1) a && inB 0 (c.events - 1) b) = false) : btwErr c l a b = 7 ∧ btwS c l a b = bd0 := by
  have e : btwErr c l a b = 7 := by rw [btwErr, if_neg (by omega), if_pos hi]
  exact ⟨e, by rw [btwS, e]; rfl⟩
theorem btw_fit {c : Case} {l : List Int} {a b : Int} (h : startErr c l = 0) (hi : (inB 0 (c.events - 1) a && inB 0 (c.events - 1) b) = true) (hf : fitsS c l = false) : btwErr c l a b = 9 ∧ btwS c l a b = bd0 := by
  have e : btwErr c l a b = 9 := by rw [btwErr, if_neg (by omega), if_neg (by rw [hi]; decide), if_pos hf]
  exact ⟨e, by rw [btwS, e]; rfl⟩
theorem btw_ok {c : Case} {l : List Int} {a b : Int} (h : startErr c l = 0) (hi : (inB 0 (c.events - 1) a && inB 0 (c.events - 1) b) = true) (hf : fitsS c l = true) : btwErr c l a b = 0 ∧ btwS c l a b = apartS c l (1 + a.toNat) (1 + b.toNat) := by
  have e : btwErr c l a b = 0 := by rw [btwErr, if_neg (by omega), if_neg (by rw [hi]; decide), if_neg (by rw [hf]; decide)]
  exact ⟨e, by rw [btwS, if_pos e]⟩
theorem apart_dist {c : Case} {l : List Int} (hc : caseB c = true) (hcr : inCourse c l) (hok : okC c l = true) {x y : Nat} (hx : 1 + x < nOf c) (hy : 1 + y < nOf c) : apartS c l (1 + ((x : Nat) : Int).toNat) (1 + ((y : Nat) : Int).toNat) = ⟨-(dist c l (1 + y) (1 + x)), dist c l (1 + x) (1 + y)⟩ := by
  rw [Int.toNat_natCast, Int.toNat_natCast, apartS, rch_dist hc hcr.neg hok hy hx, rch_dist hc hcr.neg hok hx hy]
theorem timesN_dist {c : Case} {l : List Int} (hc : caseB c = true) (hcr : inCourse c l) (hok : okC c l = true) : timesN c l c.events.toNat = rTimes c l c.events.toNat := by
  unfold timesN rTimes
  refine List.map_congr_left fun i hi => ?_
  have hi := List.mem_range.1 hi
  rw [apartS, rch_dist hc hcr.neg hok (by unfold nOf; omega) (by unfold nOf; omega), rch_dist hc hcr.neg hok (by unfold nOf; omega) (by unfold nOf; omega)]
theorem checks_three (c : Case) (l : List Int) : startErr c l ≠ 0 ∨ (startErr c l = 0 ∧ fitsS c l = true) ∨ (startErr c l = 0 ∧ fitsS c l = false) := by
  by_cases h : startErr c l = 0
  · cases hf : fitsS c l
    · exact .inr (.inr ⟨h, rfl⟩)
    · exact .inr (.inl ⟨h, rfl⟩)
  · exact .inl h
theorem in_three (c : Case) (x y : Int) : inB 0 (c.events - 1) x = false ∨ (inB 0 (c.events - 1) x = true ∧ inB 0 (c.events - 1) y = false) ∨ (inB 0 (c.events - 1) x = true ∧ inB 0 (c.events - 1) y = true) := by
  cases inB 0 (c.events - 1) x <;> cases inB 0 (c.events - 1) y <;> simp
set_option maxHeartbeats 4000000 in
set_option maxRecDepth 100000 in
theorem checks_law (c : Case) (vc vl : Value) (vs : List Value) (w : World) (B : Nat) (hr : RdCase w B vc vl c vs) (hB : B ≤ w.heap.size) (hn1 : c.clocks.length ≤ 9223372036854775807) (hn2 : c.clues.length ≤ 9223372036854775807) (l : List Int) (vi : Value) (hrl : Rd w B 1 vi l.length (ints l)) (hnl : l.length ≤ 9223372036854775807) (x y : Int) :
    Calls Try.prog 5 #[.agg #[.int .i64 c.events, vc, vl], vi, .agg #[.int .i64 x, .int .i64 y]] w fun e w' => e = .returned (.bool true) ∧ Below w.heap.size w w' := by
  obtain ⟨Ac, cc_, rfl, _⟩ := hr.clocks.shape
  obtain ⟨Al, cl_, rfl, _⟩ := hr.clues.rd.shape
  obtain ⟨Ai, ci_, rfl, _⟩ := hrl.shape
  have hbw := Below.refl w.heap.size w
  refine EC.enter 211 Try.func5 rfl rfl rfl ?_
  refine EC.seq ?_
  refine EC.region ?_
  refine EL.newP (bx_25 rfl) rfl ?_
  intro g1 w1 q1 hb1 hg1 hl1
  have bhbw_1 := Nat.le_trans hbw.size hg1
  replace hbw := Below.on hbw hb1 hbw.size
  clear hb1 hg1 hl1
  refine EL.newP (bx_47 rfl) rfl ?_
  intro g2 w2 q2 hb2 hg2 hl2
  have n1_2 : g1 ≠ g2 := Nat.ne_of_lt (Nat.lt_of_lt_of_le q1.lt hg2)
  have bhbw_2 := Nat.le_trans hbw.size hg2
  replace q1 := q1.below hb2 q1.lt
  replace hbw := Below.on hbw hb2 hbw.size
  clear hb2 hg2 hl2
  refine EL.val (x_assign rfl) rfl ?_
  refine EL.nil ?_
  refine EX.seq ?_
  refine EC.seq ?_
  refine EC.seq ?_
  refine EC.region ?_
  refine EL.val (ld_25 rfl (q1.at (j := 0) rfl) (q1.at (j := 1) rfl) (q1.at (j := 2) rfl)) rfl ?_
  refine EL.call (cl_11 rfl) rfl (large_any c _ _ vs _ B (hr.below (hbw.mono hB)) (Nat.le_trans hB hbw.size) hn1 hn2) ?_
  rintro e wB ⟨⟨bB, rfl, hsm⟩, hcB⟩
  cases bB
  ·
    replace hsm := hsm rfl
    have hn1 : c.clocks.length ≤ 1073741824 := by have := hsm.clocks; omega
    have hn2 : c.clues.length ≤ 1073741824 := by have := hsm.clues; omega
    refine ⟨_, rfl, ?_⟩
    replace q1 := q1.below hcB q1.lt
    replace q2 := q2.below hcB q2.lt
    replace hbw := Below.on hbw hcB hbw.size
    clear hcB
    refine EL.val (x_move rfl) rfl ?_
    refine EL.valg rfl rfl (x_move rfl) rfl ?_
    refine EL.valg rfl rfl (ln_26 rfl) rfl ?_
    by_cases hlong : 25 < l.length
    ·
      refine EL.valg rfl rfl (x_gtr rfl rfl (by first | assumption | exact decide_eq_true (by omega))) rfl ?_
      refine EL.val (x_pick_f rfl rfl) rfl ?_
      refine EL.nil ?_
      refine EX.seq ?_
      refine EC.yes rfl ?_
      refine EC.seq ?_
      refine EC.region ?_
      refine EL.call cl_12 rfl (known_any _) ?_
      rintro e w3 ⟨rfl, hc3⟩
      refine ⟨_, rfl, ?_⟩
      replace q1 := q1.below hc3 q1.lt
      replace q2 := q2.below hc3 q2.lt
      replace hbw := Below.on hbw hc3 hbw.size
      clear hc3
      refine EL.val (x_assign rfl) rfl ?_
      refine EL.nil ?_
      refine EX.seq ?_
      refine EC.ret ?_
      refine EX.seq_ret ?_
      exact EX.done (res1 rfl rfl) ⟨rfl, hbw⟩
    ·
      have hnl : l.length ≤ 1073741824 := by omega
      refine EL.valg rfl rfl (x_gtr rfl rfl (by first | assumption | exact decide_eq_false (by omega))) rfl ?_
      refine EL.val (x_pick_f rfl rfl) rfl ?_
      refine EL.nil ?_
      refine EX.seq ?_
      refine EC.no rfl ?_
      refine EC.skip ?_
      refine EX.seq ?_
      refine EC.seq ?_
      refine EC.region ?_
      refine EL.val (ld_25 rfl (q1.at (j := 0) rfl) (q1.at (j := 1) rfl) (q1.at (j := 2) rfl)) rfl ?_
      refine EL.call (cl_14 rfl) rfl (copied_any c _ _ vs _ B (hr.below (hbw.mono hB)) (Nat.le_trans hB hbw.size) hn1 hn2 hsm) ?_
      rintro e w4 ⟨⟨va_, vb_, ws, rfl, hoc⟩, hc4⟩
      refine ⟨_, rfl, ?_⟩
      replace q1 := q1.below hc4 q1.lt
      replace q2 := q2.below hc4 q2.lt
      replace hbw := Below.on hbw hc4 hbw.size
      clear hc4
      have hrc := hoc.rd
      obtain ⟨Ad, cd_, rfl, _⟩ := hrc.clocks.shape
      obtain ⟨Am, cm_, rfl, _⟩ := hrc.clues.rd.shape
      have hb1 := Below.refl w4.heap.size w4
      refine EL.val (x_move rfl) rfl ?_
      refine EL.call (cl_15 rfl) rfl (ints_any l _ _ B (hrl.below (hbw.mono hB)) (Nat.le_trans hB hbw.size) (by omega)) ?_
      rintro e w5 ⟨⟨vl_, rfl, hol⟩, hc5⟩
      refine ⟨_, rfl, ?_⟩
      replace q1 := q1.below hc5 q1.lt
      replace q2 := q2.below hc5 q2.lt
      replace hbw := Below.on hbw hc5 hbw.size
      replace hb1 := Below.on hb1 hc5 hb1.size
      clear hc5
      have hrl2 := Rd.of_own hol
      obtain ⟨Ai2, ci2, rfl, _⟩ := hrl2.shape
      have hsz12 := hb1.size
      have hsw := hbw.size
      have hb2 := Below.refl w5.heap.size w5
      refine EL.newP al_25 rfl ?_
      intro g6 w6 q6 hb6 hg6 hl6
      have n1_6 : g1 ≠ g6 := Nat.ne_of_lt (Nat.lt_of_lt_of_le q1.lt hg6)
      have n2_6 : g2 ≠ g6 := Nat.ne_of_lt (Nat.lt_of_lt_of_le q2.lt hg6)
      have bhbw_6 := Nat.le_trans hbw.size hg6
      have bhb1_6 := Nat.le_trans hb1.size hg6
      have bhb2_6 := Nat.le_trans hb2.size hg6
      replace q1 := q1.below hb6 q1.lt
      replace q2 := q2.below hb6 q2.lt
      replace hbw := Below.on hbw hb6 hbw.size
      replace hb1 := Below.on hb1 hb6 hb1.size
      replace hb2 := Below.on hb2 hb6 hb2.size
      clear hb6 hg6 hl6
      refine EL.store rfl rfl q6 sz_25 rfl rfl rfl rfl ?_
      intro w7 hq7 hg7
      replace q1 := q1.grown hg7 (fun h => n1_6 (Option.some.inj h))
      replace q2 := q2.grown hg7 (fun h => n2_6 (Option.some.inj h))
      replace hbw := below_store hbw hg7 bhbw_6
      replace hb1 := below_store hb1 hg7 bhb1_6
      replace hb2 := below_store hb2 hg7 bhb2_6
      replace q6 := hq7
      clear hg7 hq7
      refine EL.val (x_assign rfl) rfl ?_
      refine EL.nil ?_
      refine EX.seq ?_
      refine EC.seq ?_
      refine EC.region ?_
      refine EL.val (ld_25 rfl (q6.at (j := 0) rfl) (q6.at (j := 1) rfl) (q6.at (j := 2) rfl)) rfl ?_
      by_cases hcb : caseB c = true
      ·
        refine EL.call (cl_25 rfl) rfl (check_ok hcb _ _ ws _ _ ((hrc.below hb1).more hsz12) hb2.size hn1 hn2) ?_
        rintro e w8 ⟨rfl, hc8⟩
        refine ⟨_, rfl, ?_⟩
        replace q1 := q1.below hc8 q1.lt
        replace q2 := q2.below hc8 q2.lt
        replace q6 := q6.below hc8 q6.lt
        replace hbw := Below.on hbw hc8 hbw.size
        replace hb1 := Below.on hb1 hc8 hb1.size
        replace hb2 := Below.on hb2 hc8 hb2.size
        clear hc8
        refine EL.val (x_assign rfl) rfl ?_
        refine EL.nil ?_
        refine EX.seq ?_
        refine EC.seq ?_
        refine EC.region ?_
        refine EL.val (ld_25 rfl (q6.at (j := 0) rfl) (q6.at (j := 1) rfl) (q6.at (j := 2) rfl)) rfl ?_
        refine EL.val (x_move rfl) rfl ?_
        rcases checks_three c l with hst | ⟨hst, hfit⟩ | ⟨hst, hfit⟩
        ·
          refine EL.call (cl_26 rfl rfl) rfl (possible_to (poss_bad hst) (E := startErr c l) rfl _ _ ws _ _ ((hrc.below hb1).more hsz12) hb2.size hn1 hn2 _ (hrl2.below hb2) hnl) ?_
          rintro e w9 ⟨rfl, hc9⟩
          refine ⟨_, rfl, ?_⟩
          replace q1 := q1.below hc9 q1.lt
          replace q2 := q2.below hc9 q2.lt
          replace q6 := q6.below hc9 q6.lt
          replace hbw := Below.on hbw hc9 hbw.size
          replace hb1 := Below.on hb1 hc9 hb1.size
          replace hb2 := Below.on hb2 hc9 hb2.size
          clear hc9
          refine EL.val (x_move rfl) rfl ?_
          refine EL.val (x_extract rfl rfl) rfl ?_
          refine EL.val (x_extract rfl rfl) rfl ?_
          refine EL.val (x_assign rfl) rfl ?_
          refine EL.val (x_assign rfl) rfl ?_
          refine EL.nil ?_
          refine EX.seq ?_
          refine EC.seq ?_
          refine EC.region ?_
          refine EL.val (ld_25 rfl (q6.at (j := 0) rfl) (q6.at (j := 1) rfl) (q6.at (j := 2) rfl)) rfl ?_
          refine EL.val (x_move rfl) rfl ?_
          refine EL.call (cl_27 rfl rfl) rfl (times_to (times_start hst).1 (times_start hst).2 _ _ ws _ _ ((hrc.below hb1).more hsz12) hb2.size hn1 hn2 _ (hrl2.below hb2) hnl) ?_
          rintro e w10 ⟨⟨vT, rfl, hrT⟩, hc10⟩
          refine ⟨_, rfl, ?_⟩
          replace q1 := q1.below hc10 q1.lt
          replace q2 := q2.below hc10 q2.lt
          replace q6 := q6.below hc10 q6.lt
          replace hbw := Below.on hbw hc10 hbw.size
          replace hb1 := Below.on hb1 hc10 hb1.size
          replace hb2 := Below.on hb2 hc10 hb2.size
          clear hc10
          obtain ⟨AT, cT, rfl, _⟩ := hrT.shape
          have hbT := Below.refl w10.heap.size w10
          refine EL.val (x_move rfl) rfl ?_
          refine EL.val (x_extract rfl rfl) rfl ?_
          refine EL.val (x_extract rfl rfl) rfl ?_
          refine EL.val (x_assign rfl) rfl ?_
          refine EL.val (x_assign rfl) rfl ?_
          refine EL.nil ?_
          refine EX.seq ?_
          refine EC.seq ?_
          refine EC.region ?_
          refine EL.val (ld_25 rfl (q6.at (j := 0) rfl) (q6.at (j := 1) rfl) (q6.at (j := 2) rfl)) rfl ?_
          refine EL.val (x_move rfl) rfl ?_
          refine EL.val (ixa_47 (k := 0) rfl rfl (by omega)) rfl ?_
          refine EL.val (ld_3 rfl (q2.at (j := 0) rfl)) rfl ?_
          refine EL.val (ixa_47 (k := 1) rfl rfl (by omega)) rfl ?_
          refine EL.val (ld_3 rfl (q2.at (j := 1) rfl)) rfl ?_
          refine EL.call (cl_28 rfl rfl rfl rfl) rfl (between_to (btw_start hst).1 (btw_start hst).2 _ _ ws _ _ ((hrc.below hb1).more hsz12) hb2.size hn1 hn2 _ (hrl2.below hb2) hnl) ?_
          rintro e w11 ⟨rfl, hc11⟩
          refine ⟨_, rfl, ?_⟩
          replace q1 := q1.below hc11 q1.lt
          replace q2 := q2.below hc11 q2.lt
          replace q6 := q6.below hc11 q6.lt
          replace hbw := Below.on hbw hc11 hbw.size
          replace hb1 := Below.on hb1 hc11 hb1.size
          replace hb2 := Below.on hb2 hc11 hb2.size
          replace hbT := Below.on hbT hc11 hbT.size
          clear hc11
          refine EL.val (x_move rfl) rfl ?_
          refine EL.val (x_extract rfl rfl) rfl ?_
          refine EL.val (x_extract rfl rfl) rfl ?_
          refine EL.newP al_54 rfl ?_
          intro g12 w12 q12 hb12 hg12 hl12
          have n1_12 : g1 ≠ g12 := Nat.ne_of_lt (Nat.lt_of_lt_of_le q1.lt hg12)
          have n2_12 : g2 ≠ g12 := Nat.ne_of_lt (Nat.lt_of_lt_of_le q2.lt hg12)
          have n6_12 : g6 ≠ g12 := Nat.ne_of_lt (Nat.lt_of_lt_of_le q6.lt hg12)
          have bhbw_12 := Nat.le_trans hbw.size hg12
          have bhb1_12 := Nat.le_trans hb1.size hg12
          have bhb2_12 := Nat.le_trans hb2.size hg12
          have bhbT_12 := Nat.le_trans hbT.size hg12
          replace q1 := q1.below hb12 q1.lt
          replace q2 := q2.below hb12 q2.lt
          replace q6 := q6.below hb12 q6.lt
          replace hbw := Below.on hbw hb12 hbw.size
          replace hb1 := Below.on hb1 hb12 hb1.size
          replace hb2 := Below.on hb2 hb12 hb2.size
          replace hbT := Below.on hbT hb12 hbT.size
          clear hb12 hg12 hl12
          refine EL.store rfl rfl q12 sz_54 rfl rfl rfl rfl ?_
          intro w13 hq13 hg13
          replace q1 := q1.grown hg13 (fun h => n1_12 (Option.some.inj h))
          replace q2 := q2.grown hg13 (fun h => n2_12 (Option.some.inj h))
          replace q6 := q6.grown hg13 (fun h => n6_12 (Option.some.inj h))
          replace hbw := below_store hbw hg13 bhbw_12
          replace hb1 := below_store hb1 hg13 bhb1_12
          replace hb2 := below_store hb2 hg13 bhb2_12
          replace hbT := below_store hbT hg13 bhbT_12
          replace q12 := hq13
          clear hg13 hq13
          refine EL.val (x_assign rfl) rfl ?_
          refine EL.nil ?_
          refine EX.seq ?_
          refine EC.seq ?_
          refine EC.seq ?_
          refine EC.region ?_
          refine EL.val (ld_25 rfl (q6.at (j := 0) rfl) (q6.at (j := 1) rfl) (q6.at (j := 2) rfl)) rfl ?_
          refine EL.val (ld_25 rfl (q1.at (j := 0) rfl) (q1.at (j := 1) rfl) (q1.at (j := 2) rfl)) rfl ?_
          refine EL.call (cl_22 rfl rfl) rfl (unchanged_same c hsm _ _ _ _ ws vs _ _ ((hrc.below hb1).more hsz12) ((hr.below (hbw.mono hB)).more (Nat.le_trans hB hsw)) ) ?_
          rintro e w14 ⟨rfl, hc14⟩
          refine ⟨_, rfl, ?_⟩
          replace q1 := q1.below hc14 q1.lt
          replace q2 := q2.below hc14 q2.lt
          replace q6 := q6.below hc14 q6.lt
          replace q12 := q12.below hc14 q12.lt
          replace hbw := Below.on hbw hc14 hbw.size
          replace hb1 := Below.on hb1 hc14 hb1.size
          replace hb2 := Below.on hb2 hc14 hb2.size
          replace hbT := Below.on hbT hc14 hbT.size
          clear hc14
          refine EL.val (x_not rfl) rfl ?_
          refine EL.val (x_move rfl) rfl ?_
          refine EL.valg rfl rfl (x_move rfl) rfl ?_
          refine EL.valg rfl rfl (x_move rfl) rfl ?_
          refine EL.callg rfl rfl (cl_29 rfl rfl) rfl (equal_same l _ _ _ _ (hrl2.below hb2) ((hrl.below (hbw.mono hB)).more (Nat.le_trans hB hsw)) hb2.size (by omega)) ?_
          rintro e w15 ⟨rfl, hc15⟩
          refine ⟨_, rfl, ?_⟩
          replace q1 := q1.below hc15 q1.lt
          replace q2 := q2.below hc15 q2.lt
          replace q6 := q6.below hc15 q6.lt
          replace q12 := q12.below hc15 q12.lt
          replace hbw := Below.on hbw hc15 hbw.size
          replace hb1 := Below.on hb1 hc15 hb1.size
          replace hb2 := Below.on hb2 hc15 hb2.size
          replace hbT := Below.on hbT hc15 hbT.size
          clear hc15
          refine EL.valg rfl rfl (x_not rfl) rfl ?_
          refine EL.val (x_pick_f rfl rfl) rfl ?_
          refine EL.val (x_move rfl) rfl ?_
          refine EL.valg rfl rfl (x_move rfl) rfl ?_
          refine EL.valg rfl rfl (x_eql (r := true) rfl rfl (by decide)) rfl ?_
          refine EL.valg rfl rfl (ld_25 rfl (q1.at (j := 0) rfl) (q1.at (j := 1) rfl) (q1.at (j := 2) rfl)) rfl ?_
          refine EL.callg rfl rfl (cl_19 rfl) rfl (rcase_any c _ _ vs _ B (hr.below (hbw.mono hB)) (Nat.le_trans hB hbw.size) hn1 hn2 hcb) ?_
          rintro e w16 ⟨rfl, hc16⟩
          refine ⟨_, rfl, ?_⟩
          replace q1 := q1.below hc16 q1.lt
          replace q2 := q2.below hc16 q2.lt
          replace q6 := q6.below hc16 q6.lt
          replace q12 := q12.below hc16 q12.lt
          replace hbw := Below.on hbw hc16 hbw.size
          replace hb1 := Below.on hb1 hc16 hb1.size
          replace hb2 := Below.on hb2 hc16 hb2.size
          replace hbT := Below.on hbT hc16 hbT.size
          clear hc16
          refine EL.valg rfl rfl (neq_bool rfl rfl rfl) rfl ?_
          refine EL.val (x_pick_f rfl rfl) rfl ?_
          refine EL.val (x_move rfl) rfl ?_
          refine EL.valg rfl rfl (x_move rfl) rfl ?_
          refine EL.valg rfl rfl (x_neq (r := false) rfl rfl (by decide)) rfl ?_
          refine EL.valg rfl rfl (x_move rfl) rfl ?_
          refine EL.skip rfl rfl rfl rfl ?_
          refine EL.skip rfl rfl rfl rfl ?_
          refine EL.valg rfl rfl (x_pick_f rfl rfl) rfl ?_
          refine EL.val (x_pick_f rfl rfl) rfl ?_
          refine EL.nil ?_
          refine EX.seq ?_
          refine EC.no rfl ?_
          refine EC.skip ?_
          refine EX.seq ?_
          refine EC.seq ?_
          refine EC.seq ?_
          refine EC.region ?_
          refine EL.val (ld_25 rfl (q1.at (j := 0) rfl) (q1.at (j := 1) rfl) (q1.at (j := 2) rfl)) rfl ?_
          refine EL.val (x_move rfl) rfl ?_
          refine EL.call (cl_16 rfl rfl) rfl (rstart_to (E := startErr c l) rfl _ _ vs _ B (hr.below (hbw.mono hB)) (Nat.le_trans hB hbw.size) hn1 hn2 _ (hrl.below (hbw.mono hB)) hnl) ?_
          rintro e w17 ⟨rfl, hc17⟩
          refine ⟨_, rfl, ?_⟩
          replace q1 := q1.below hc17 q1.lt
          replace q2 := q2.below hc17 q2.lt
          replace q6 := q6.below hc17 q6.lt
          replace q12 := q12.below hc17 q12.lt
          replace hbw := Below.on hbw hc17 hbw.size
          replace hb1 := Below.on hb1 hc17 hb1.size
          replace hb2 := Below.on hb2 hc17 hb2.size
          replace hbT := Below.on hbT hc17 hbT.size
          clear hc17
          refine EL.val (x_assign rfl) rfl ?_
          refine EL.nil ?_
          refine EX.seq ?_
          refine EC.seq ?_
          refine EC.region ?_
          refine EL.val (x_move rfl) rfl ?_
          refine EL.val (x_neq (r := true) rfl rfl (decide_eq_true hst)) rfl ?_
          refine EL.nil ?_
          refine EX.seq ?_
          refine EC.yes rfl ?_
          refine EC.seq ?_
          refine EC.region ?_
          refine EL.val (x_move rfl) rfl ?_
          refine EL.val (x_move rfl) rfl ?_
          refine EL.val (x_eql (r := true) rfl rfl (decide_eq_true rfl)) rfl ?_
          refine EL.val (x_move rfl) rfl ?_
          refine EL.valg rfl rfl (x_move rfl) rfl ?_
          refine EL.valg rfl rfl (x_move rfl) rfl ?_
          refine EL.valg rfl rfl (x_eql (r := true) rfl rfl (decide_eq_true rfl)) rfl ?_
          refine EL.val (x_pick_t rfl rfl) rfl ?_
          refine EL.val (x_move rfl) rfl ?_
          refine EL.valg rfl rfl (x_move rfl) rfl ?_
          refine EL.valg rfl rfl (x_move rfl) rfl ?_
          refine EL.valg rfl rfl (x_eql (r := true) rfl rfl (decide_eq_true rfl)) rfl ?_
          refine EL.val (x_pick_t rfl rfl) rfl ?_
          refine EL.val (x_move rfl) rfl ?_
          refine EL.valg rfl rfl (x_move rfl) rfl ?_
          refine EL.valg rfl rfl (x_not rfl) rfl ?_
          refine EL.val (x_pick_t rfl rfl) rfl ?_
          refine EL.val (x_move rfl) rfl ?_
          refine EL.valg rfl rfl (x_move rfl) rfl ?_
          refine EL.valg rfl rfl (ln_22 rfl) rfl ?_
          refine EL.valg rfl rfl (x_eql (r := true) rfl rfl (decide_eq_true rfl)) rfl ?_
          refine EL.val (x_pick_t rfl rfl) rfl ?_
          refine EL.val (x_move rfl) rfl ?_
          refine EL.valg rfl rfl (ld_54 rfl (q12.at (j := 0) rfl) (q12.at (j := 1) rfl)) rfl ?_
          refine EL.valg rfl rfl (bd_54_) rfl ?_
          refine EL.valg rfl rfl (eql_54 (r := true) rfl rfl (by simp [bd0])) rfl ?_
          refine EL.val (x_pick_t rfl rfl) rfl ?_
          refine EL.val (x_move rfl) rfl ?_
          refine EL.callg rfl rfl cl_12 rfl (known_any _) ?_
          rintro e w18 ⟨rfl, hc18⟩
          refine ⟨_, rfl, ?_⟩
          replace q1 := q1.below hc18 q1.lt
          replace q2 := q2.below hc18 q2.lt
          replace q6 := q6.below hc18 q6.lt
          replace q12 := q12.below hc18 q12.lt
          replace hbw := Below.on hbw hc18 hbw.size
          replace hb1 := Below.on hb1 hc18 hb1.size
          replace hb2 := Below.on hb2 hc18 hb2.size
          replace hbT := Below.on hbT hc18 hbT.size
          clear hc18
          refine EL.val (x_pick_t rfl rfl) rfl ?_
          refine EL.val (x_assign rfl) rfl ?_
          refine EL.nil ?_
          refine EX.seq ?_
          refine EC.ret ?_
          refine EX.seq_ret ?_
          exact EX.done (res1 rfl rfl) ⟨rfl, hbw⟩
        ·
          obtain ⟨_, hlen, _, hcr⟩ := start_ok hst
          have hbd := noOver hcb hcr.neg
          have hev := (caseB_ok hcb).1
          have hok : okC c l = true := (fits_okC hcb hcr.neg).symm.trans hfit
          have hdist := dist_bd hcb hcr.neg hok
          refine EL.call (cl_26 rfl rfl) rfl (possible_to (poss_ok hst hfit) hst _ _ ws _ _ ((hrc.below hb1).more hsz12) hb2.size hn1 hn2 _ (hrl2.below hb2) hnl) ?_
          rintro e w19 ⟨rfl, hc19⟩
          refine ⟨_, rfl, ?_⟩
          replace q1 := q1.below hc19 q1.lt
          replace q2 := q2.below hc19 q2.lt
          replace q6 := q6.below hc19 q6.lt
          replace hbw := Below.on hbw hc19 hbw.size
          replace hb1 := Below.on hb1 hc19 hb1.size
          replace hb2 := Below.on hb2 hc19 hb2.size
          clear hc19
          refine EL.val (x_move rfl) rfl ?_
          refine EL.val (x_extract rfl rfl) rfl ?_
          refine EL.val (x_extract rfl rfl) rfl ?_
          refine EL.val (x_assign rfl) rfl ?_
          refine EL.val (x_assign rfl) rfl ?_
          refine EL.nil ?_
          refine EX.seq ?_
          refine EC.seq ?_
          refine EC.region ?_
          refine EL.val (ld_25 rfl (q6.at (j := 0) rfl) (q6.at (j := 1) rfl) (q6.at (j := 2) rfl)) rfl ?_
          refine EL.val (x_move rfl) rfl ?_
          refine EL.call (cl_27 rfl rfl) rfl (times_to (times_ok hst hfit).1 ((times_ok hst hfit).2.trans (timesN_dist hcb hcr hok)) _ _ ws _ _ ((hrc.below hb1).more hsz12) hb2.size hn1 hn2 _ (hrl2.below hb2) hnl) ?_
          rintro e w20 ⟨⟨vT, rfl, hrT⟩, hc20⟩
          refine ⟨_, rfl, ?_⟩
          replace q1 := q1.below hc20 q1.lt
          replace q2 := q2.below hc20 q2.lt
          replace q6 := q6.below hc20 q6.lt
          replace hbw := Below.on hbw hc20 hbw.size
          replace hb1 := Below.on hb1 hc20 hb1.size
          replace hb2 := Below.on hb2 hc20 hb2.size
          clear hc20
          obtain ⟨AT, cT, rfl, _⟩ := hrT.shape
          have hbT := Below.refl w20.heap.size w20
          refine EL.val (x_move rfl) rfl ?_
          refine EL.val (x_extract rfl rfl) rfl ?_
          refine EL.val (x_extract rfl rfl) rfl ?_
          refine EL.val (x_assign rfl) rfl ?_
          refine EL.val (x_assign rfl) rfl ?_
          refine EL.nil ?_
          refine EX.seq ?_
          refine EC.seq ?_
          refine EC.region ?_
          refine EL.val (ld_25 rfl (q6.at (j := 0) rfl) (q6.at (j := 1) rfl) (q6.at (j := 2) rfl)) rfl ?_
          refine EL.val (x_move rfl) rfl ?_
          refine EL.val (ixa_47 (k := 0) rfl rfl (by omega)) rfl ?_
          refine EL.val (ld_3 rfl (q2.at (j := 0) rfl)) rfl ?_
          refine EL.val (ixa_47 (k := 1) rfl rfl (by omega)) rfl ?_
          refine EL.val (ld_3 rfl (q2.at (j := 1) rfl)) rfl ?_
          rcases in_three c x y with hinx | ⟨hinx, hiny⟩ | ⟨hinx, hiny⟩
          ·
            have hin : (inB 0 (c.events - 1) x && inB 0 (c.events - 1) y) = false := by rw [hinx]; rfl
            refine EL.call (cl_28 rfl rfl rfl rfl) rfl (between_to (btw_none hst hin).1 (btw_none hst hin).2 _ _ ws _ _ ((hrc.below hb1).more hsz12) hb2.size hn1 hn2 _ (hrl2.below hb2) hnl) ?_
            rintro e w21 ⟨rfl, hc21⟩
            refine ⟨_, rfl, ?_⟩
            replace q1 := q1.below hc21 q1.lt
            replace q2 := q2.below hc21 q2.lt
            replace q6 := q6.below hc21 q6.lt
            replace hbw := Below.on hbw hc21 hbw.size
            replace hb1 := Below.on hb1 hc21 hb1.size
            replace hb2 := Below.on hb2 hc21 hb2.size
            replace hbT := Below.on hbT hc21 hbT.size
            clear hc21
            refine EL.val (x_move rfl) rfl ?_
            refine EL.val (x_extract rfl rfl) rfl ?_
            refine EL.val (x_extract rfl rfl) rfl ?_
            refine EL.newP al_54 rfl ?_
            intro g22 w22 q22 hb22 hg22 hl22
            have n1_22 : g1 ≠ g22 := Nat.ne_of_lt (Nat.lt_of_lt_of_le q1.lt hg22)
            have n2_22 : g2 ≠ g22 := Nat.ne_of_lt (Nat.lt_of_lt_of_le q2.lt hg22)
            have n6_22 : g6 ≠ g22 := Nat.ne_of_lt (Nat.lt_of_lt_of_le q6.lt hg22)
            have bhbw_22 := Nat.le_trans hbw.size hg22
            have bhb1_22 := Nat.le_trans hb1.size hg22
            have bhb2_22 := Nat.le_trans hb2.size hg22
            have bhbT_22 := Nat.le_trans hbT.size hg22
            replace q1 := q1.below hb22 q1.lt
            replace q2 := q2.below hb22 q2.lt
            replace q6 := q6.below hb22 q6.lt
            replace hbw := Below.on hbw hb22 hbw.size
            replace hb1 := Below.on hb1 hb22 hb1.size
            replace hb2 := Below.on hb2 hb22 hb2.size
            replace hbT := Below.on hbT hb22 hbT.size
            clear hb22 hg22 hl22
            refine EL.store rfl rfl q22 sz_54 rfl rfl rfl rfl ?_
            intro w23 hq23 hg23
            replace q1 := q1.grown hg23 (fun h => n1_22 (Option.some.inj h))
            replace q2 := q2.grown hg23 (fun h => n2_22 (Option.some.inj h))
            replace q6 := q6.grown hg23 (fun h => n6_22 (Option.some.inj h))
            replace hbw := below_store hbw hg23 bhbw_22
            replace hb1 := below_store hb1 hg23 bhb1_22
            replace hb2 := below_store hb2 hg23 bhb2_22
            replace hbT := below_store hbT hg23 bhbT_22
            replace q22 := hq23
            clear hg23 hq23
            refine EL.val (x_assign rfl) rfl ?_
            refine EL.nil ?_
            refine EX.seq ?_
            refine EC.seq ?_
            refine EC.seq ?_
            refine EC.region ?_
            refine EL.val (ld_25 rfl (q6.at (j := 0) rfl) (q6.at (j := 1) rfl) (q6.at (j := 2) rfl)) rfl ?_
            refine EL.val (ld_25 rfl (q1.at (j := 0) rfl) (q1.at (j := 1) rfl) (q1.at (j := 2) rfl)) rfl ?_
            refine EL.call (cl_22 rfl rfl) rfl (unchanged_same c hsm _ _ _ _ ws vs _ _ ((hrc.below hb1).more hsz12) ((hr.below (hbw.mono hB)).more (Nat.le_trans hB hsw)) ) ?_
            rintro e w24 ⟨rfl, hc24⟩
            refine ⟨_, rfl, ?_⟩
            replace q1 := q1.below hc24 q1.lt
            replace q2 := q2.below hc24 q2.lt
            replace q6 := q6.below hc24 q6.lt
            replace q22 := q22.below hc24 q22.lt
            replace hbw := Below.on hbw hc24 hbw.size
            replace hb1 := Below.on hb1 hc24 hb1.size
            replace hb2 := Below.on hb2 hc24 hb2.size
            replace hbT := Below.on hbT hc24 hbT.size
            clear hc24
            refine EL.val (x_not rfl) rfl ?_
            refine EL.val (x_move rfl) rfl ?_
            refine EL.valg rfl rfl (x_move rfl) rfl ?_
            refine EL.valg rfl rfl (x_move rfl) rfl ?_
            refine EL.callg rfl rfl (cl_29 rfl rfl) rfl (equal_same l _ _ _ _ (hrl2.below hb2) ((hrl.below (hbw.mono hB)).more (Nat.le_trans hB hsw)) hb2.size (by omega)) ?_
            rintro e w25 ⟨rfl, hc25⟩
            refine ⟨_, rfl, ?_⟩
            replace q1 := q1.below hc25 q1.lt
            replace q2 := q2.below hc25 q2.lt
            replace q6 := q6.below hc25 q6.lt
            replace q22 := q22.below hc25 q22.lt
            replace hbw := Below.on hbw hc25 hbw.size
            replace hb1 := Below.on hb1 hc25 hb1.size
            replace hb2 := Below.on hb2 hc25 hb2.size
            replace hbT := Below.on hbT hc25 hbT.size
            clear hc25
            refine EL.valg rfl rfl (x_not rfl) rfl ?_
            refine EL.val (x_pick_f rfl rfl) rfl ?_
            refine EL.val (x_move rfl) rfl ?_
            refine EL.valg rfl rfl (x_move rfl) rfl ?_
            refine EL.valg rfl rfl (x_eql (r := true) rfl rfl (by decide)) rfl ?_
            refine EL.valg rfl rfl (ld_25 rfl (q1.at (j := 0) rfl) (q1.at (j := 1) rfl) (q1.at (j := 2) rfl)) rfl ?_
            refine EL.callg rfl rfl (cl_19 rfl) rfl (rcase_any c _ _ vs _ B (hr.below (hbw.mono hB)) (Nat.le_trans hB hbw.size) hn1 hn2 hcb) ?_
            rintro e w26 ⟨rfl, hc26⟩
            refine ⟨_, rfl, ?_⟩
            replace q1 := q1.below hc26 q1.lt
            replace q2 := q2.below hc26 q2.lt
            replace q6 := q6.below hc26 q6.lt
            replace q22 := q22.below hc26 q22.lt
            replace hbw := Below.on hbw hc26 hbw.size
            replace hb1 := Below.on hb1 hc26 hb1.size
            replace hb2 := Below.on hb2 hc26 hb2.size
            replace hbT := Below.on hbT hc26 hbT.size
            clear hc26
            refine EL.valg rfl rfl (neq_bool rfl rfl rfl) rfl ?_
            refine EL.val (x_pick_f rfl rfl) rfl ?_
            refine EL.val (x_move rfl) rfl ?_
            refine EL.valg rfl rfl (x_move rfl) rfl ?_
            refine EL.valg rfl rfl (x_neq (r := false) rfl rfl (by decide)) rfl ?_
            refine EL.valg rfl rfl (x_move rfl) rfl ?_
            refine EL.skip rfl rfl rfl rfl ?_
            refine EL.skip rfl rfl rfl rfl ?_
            refine EL.valg rfl rfl (x_pick_f rfl rfl) rfl ?_
            refine EL.val (x_pick_f rfl rfl) rfl ?_
            refine EL.nil ?_
            refine EX.seq ?_
            refine EC.no rfl ?_
            refine EC.skip ?_
            refine EX.seq ?_
            refine EC.seq ?_
            refine EC.seq ?_
            refine EC.region ?_
            refine EL.val (ld_25 rfl (q1.at (j := 0) rfl) (q1.at (j := 1) rfl) (q1.at (j := 2) rfl)) rfl ?_
            refine EL.val (x_move rfl) rfl ?_
            refine EL.call (cl_16 rfl rfl) rfl (rstart_to hst _ _ vs _ B (hr.below (hbw.mono hB)) (Nat.le_trans hB hbw.size) hn1 hn2 _ (hrl.below (hbw.mono hB)) hnl) ?_
            rintro e w27 ⟨rfl, hc27⟩
            refine ⟨_, rfl, ?_⟩
            replace q1 := q1.below hc27 q1.lt
            replace q2 := q2.below hc27 q2.lt
            replace q6 := q6.below hc27 q6.lt
            replace q22 := q22.below hc27 q22.lt
            replace hbw := Below.on hbw hc27 hbw.size
            replace hb1 := Below.on hb1 hc27 hb1.size
            replace hb2 := Below.on hb2 hc27 hb2.size
            replace hbT := Below.on hbT hc27 hbT.size
            clear hc27
            refine EL.val (x_assign rfl) rfl ?_
            refine EL.nil ?_
            refine EX.seq ?_
            refine EC.seq ?_
            refine EC.region ?_
            refine EL.val (x_move rfl) rfl ?_
            refine EL.val (x_neq (r := false) rfl rfl (by decide)) rfl ?_
            refine EL.nil ?_
            refine EX.seq ?_
            refine EC.no rfl ?_
            refine EC.skip ?_
            refine EX.seq ?_
            refine EC.seq ?_
            refine EC.region ?_
            refine EL.val (ld_25 rfl (q1.at (j := 0) rfl) (q1.at (j := 1) rfl) (q1.at (j := 2) rfl)) rfl ?_
            refine EL.val (x_move rfl) rfl ?_
            refine EL.call (cl_17 rfl rfl) rfl (rpossible_to hok _ _ vs _ B (hr.below (hbw.mono hB)) (Nat.le_trans hB hbw.size) hn1 hn2 _ (hrl.below (hbw.mono hB)) hcb hcr.neg hbd) ?_
            rintro e w28 ⟨rfl, hc28⟩
            refine ⟨_, rfl, ?_⟩
            replace q1 := q1.below hc28 q1.lt
            replace q2 := q2.below hc28 q2.lt
            replace q6 := q6.below hc28 q6.lt
            replace q22 := q22.below hc28 q22.lt
            replace hbw := Below.on hbw hc28 hbw.size
            replace hb1 := Below.on hb1 hc28 hb1.size
            replace hb2 := Below.on hb2 hc28 hb2.size
            replace hbT := Below.on hbT hc28 hbT.size
            clear hc28
            refine EL.val (x_assign rfl) rfl ?_
            refine EL.nil ?_
            refine EX.seq ?_
            refine EC.seq ?_
            refine EC.seq ?_
            refine EC.region ?_
            refine EL.val (x_move rfl) rfl ?_
            refine EL.val (x_neq (r := false) rfl rfl (by decide)) rfl ?_
            refine EL.val (x_move rfl) rfl ?_
            refine EL.valg rfl rfl (x_move rfl) rfl ?_
            refine EL.valg rfl rfl (x_move rfl) rfl ?_
            refine EL.valg rfl rfl (neq_bool rfl rfl rfl) rfl ?_
            refine EL.val (x_pick_f rfl rfl) rfl ?_
            refine EL.nil ?_
            refine EX.seq ?_
            refine EC.no rfl ?_
            refine EC.skip ?_
            refine EX.seq ?_
            refine EC.seq ?_
            refine EC.seq ?_
            refine EC.region ?_
            refine EL.val (ixa_47 (k := 0) rfl rfl (by omega)) rfl ?_
            refine EL.val (ld_3 rfl (q2.at (j := 0) rfl)) rfl ?_
            refine EL.val (fa_25_0 rfl) rfl ?_
            refine EL.val (ld_3 rfl (q1.at (j := 0) rfl)) rfl ?_
            refine EL.val (x_sub rfl rfl (by first | assumption | exact IntWalk.i64_in _ ⟨by omega, by omega⟩)) rfl ?_
            refine EL.call (cl_30 rfl rfl rfl) rfl (rin_any _ hinx) ?_
            rintro e w29 ⟨rfl, hc29⟩
            refine ⟨_, rfl, ?_⟩
            replace q1 := q1.below hc29 q1.lt
            replace q2 := q2.below hc29 q2.lt
            replace q6 := q6.below hc29 q6.lt
            replace q22 := q22.below hc29 q22.lt
            replace hbw := Below.on hbw hc29 hbw.size
            replace hb1 := Below.on hb1 hc29 hb1.size
            replace hb2 := Below.on hb2 hc29 hb2.size
            replace hbT := Below.on hbT hc29 hbT.size
            clear hc29
            refine EL.val (x_not rfl) rfl ?_
            refine EL.val (x_move rfl) rfl ?_
            refine EL.skip rfl rfl rfl rfl ?_
            refine EL.skip rfl rfl rfl rfl ?_
            refine EL.skip rfl rfl rfl rfl ?_
            refine EL.skip rfl rfl rfl rfl ?_
            refine EL.skip rfl rfl rfl rfl ?_
            refine EL.skip rfl rfl rfl rfl ?_
            refine EL.skip rfl rfl rfl rfl ?_
            refine EL.val (x_pick_t rfl rfl) rfl ?_
            refine EL.val (x_assign rfl) rfl ?_
            refine EL.nil ?_
            refine EX.seq ?_
            refine EC.seq ?_
            refine EC.region ?_
            refine EL.val (x_move rfl) rfl ?_
            refine EL.val (x_move rfl) rfl ?_
            refine EL.skip rfl rfl rfl rfl ?_
            refine EL.skip rfl rfl rfl rfl ?_
            refine EL.val (x_pick_t rfl rfl) rfl ?_
            refine EL.nil ?_
            refine EX.seq ?_
            refine EC.yes rfl ?_
            refine EC.seq ?_
            refine EC.region ?_
            refine EL.val (x_assign rfl) rfl ?_
            refine EL.nil ?_
            refine EX.seq ?_
            refine EC.seq ?_
            refine EC.seq ?_
            refine EC.region ?_
            refine EL.val (x_move rfl) rfl ?_
            refine EL.nil ?_
            refine EX.seq ?_
            refine EC.yes rfl ?_
            refine EC.region ?_
            refine EL.val (x_assign rfl) rfl ?_
            refine EL.nil ?_
            refine EX.seq ?_
            refine EC.seq ?_
            refine EC.region ?_
            refine EL.val (x_move rfl) rfl ?_
            refine EL.val (x_move rfl) rfl ?_
            refine EL.val (x_neq (r := false) rfl rfl (by decide)) rfl ?_
            refine EL.val (x_move rfl) rfl ?_
            refine EL.valg rfl rfl (ld_54 rfl (q22.at (j := 0) rfl) (q22.at (j := 1) rfl)) rfl ?_
            refine EL.valg rfl rfl (bd_54_) rfl ?_
            refine EL.valg rfl rfl (neq_54 (r := false) rfl rfl (by simp [bd0])) rfl ?_
            refine EL.val (x_pick_f rfl rfl) rfl ?_
            refine EL.nil ?_
            refine EX.seq ?_
            refine EC.no rfl ?_
            refine EC.skip ?_
            refine EX.seq ?_
            refine EC.seq ?_
            refine EC.seq ?_
            refine EC.region ?_
            refine EL.val (x_move rfl) rfl ?_
            refine EL.val (x_not rfl) rfl ?_
            refine EL.nil ?_
            refine EX.seq ?_
            refine EC.no rfl ?_
            refine EC.skip ?_
            refine EX.seq ?_
            refine EC.seq ?_
            refine EC.region ?_
            refine EL.val (ld_25 rfl (q1.at (j := 0) rfl) (q1.at (j := 1) rfl) (q1.at (j := 2) rfl)) rfl ?_
            refine EL.val (x_move rfl) rfl ?_
            refine EL.call (cl_32 rfl rfl) rfl (rtimes_any c _ _ vs _ B (hr.below (hbw.mono hB)) (Nat.le_trans hB hbw.size) hn1 hn2 l _ (hrl.below (hbw.mono hB)) hcb hcr.neg hbd hok hdist) ?_
            rintro e w30 ⟨⟨vR, rfl, hrR⟩, hc30⟩
            refine ⟨_, rfl, ?_⟩
            replace q1 := q1.below hc30 q1.lt
            replace q2 := q2.below hc30 q2.lt
            replace q6 := q6.below hc30 q6.lt
            replace q22 := q22.below hc30 q22.lt
            replace hbw := Below.on hbw hc30 hbw.size
            replace hb1 := Below.on hb1 hc30 hb1.size
            replace hb2 := Below.on hb2 hc30 hb2.size
            replace hbT := Below.on hbT hc30 hbT.size
            clear hc30
            obtain ⟨AR, cR, rfl, _⟩ := hrR.shape
            have hbR := Below.refl w30.heap.size w30
            refine EL.val (x_assign rfl) rfl ?_
            refine EL.nil ?_
            refine EX.seq ?_
            refine EC.seq ?_
            refine EC.seq ?_
            refine EC.region ?_
            refine EL.val (x_move rfl) rfl ?_
            refine EL.val (x_neq (r := false) rfl rfl (by decide)) rfl ?_
            refine EL.val (x_move rfl) rfl ?_
            refine EL.valg rfl rfl (x_move rfl) rfl ?_
            refine EL.valg rfl rfl (ln_22 rfl) rfl ?_
            refine EL.valg rfl rfl (x_move rfl) rfl ?_
            refine EL.valg rfl rfl (ln_22 rfl) rfl ?_
            refine EL.valg rfl rfl (x_neq (r := false) rfl rfl (by simp)) rfl ?_
            refine EL.val (x_pick_f rfl rfl) rfl ?_
            refine EL.nil ?_
            refine EX.seq ?_
            refine EC.no rfl ?_
            refine EC.skip ?_
            refine EX.seq ?_
            refine EC.seq ?_
            refine EC.seq ?_
            refine EC.region ?_
            refine EL.val (x_assign rfl) rfl ?_
            refine EL.nil ?_
            refine EX.seq ?_
            refine EC.block ?_
            obtain ⟨L, eL⟩ : ∃ z, z = rTimes c l c.events.toNat := ⟨_, rfl⟩
            rw [← eL] at hrT hrR ⊢
            have hL20 : L.length ≤ 20 := by rw [eL, rTimes_len]; omega
            refine EC.loopD [6, 21, 195, 196, 197, 198, 199, 200, 201, 202, 203, 204, 205, 206, 207, 208, 209] (fun x : Nat => [(21, .int .i64 (x : Nat))]) (fun x W => x ≤ L.length ∧ Below w.heap.size w W ∧ Below w20.heap.size w20 W ∧ Below w30.heap.size w30 W) (fun x => L.length - x) 0 ⟨Nat.zero_le _, hbw, hbT, hbR⟩ ⟨rfl, trivial⟩ ?_
            clear hbw hbT hbR hb1 hb2
            rintro k wk ⟨hk, hbw, hbT, hbR⟩
            by_cases hlt : k < L.length
            ·
              obtain ⟨b1, o1, e1_, _, x0, x1⟩ := bds_cells L k hlt _ _ _ _ _ hrT
              obtain ⟨b2, o2, e2_, _, y0, y1⟩ := bds_cells L k hlt _ _ _ _ _ hrR
              subst e1_
              subst e2_
              refine EC.seq ?_
              refine EC.seq ?_
              refine EC.region ?_
              refine EL.val (x_move rfl) rfl ?_
              refine EL.val (x_move rfl) rfl ?_
              refine EL.val (ln_22 rfl) rfl ?_
              refine EL.val (x_lss rfl rfl (by first | assumption | exact decide_eq_true (by omega))) rfl ?_
              refine EL.nil ?_
              refine EX.seq ?_
              refine EC.yes rfl ?_
              refine EC.skip ?_
              refine EX.seq ?_
              refine EC.seq ?_
              refine EC.block ?_
              refine EC.seq ?_
              refine EC.regionQ (by kernel_rfl) (by kernel_rfl) ?_
              refine EQ.val (fun _ hw => (x_move rfl)) rfl ?_
              refine EQ.val (fun _ hw => (x_move rfl)) rfl ?_
              refine EQ.val (fun _ hw => (ix_22 rfl rfl hlt)) rfl ?_
              refine EQ.val (fun _ hw => (ld_54 rfl (below_load hw (below_load hbT x0)) (below_load hw (below_load hbT x1)))) rfl ?_
              refine EQ.val (fun _ hw => (x_move rfl)) rfl ?_
              refine EQ.val (fun _ hw => (x_move rfl)) rfl ?_
              refine EQ.val (fun _ hw => (ix_22 rfl rfl hlt)) rfl ?_
              refine EQ.val (fun _ hw => (ld_54 rfl (below_load hw (below_load hbR y0)) (below_load hw (below_load hbR y1)))) rfl ?_
              refine EQ.val (fun _ hw => (neq_54 (r := false) rfl rfl (by simp))) rfl ?_
              refine EQ.fin (fun w31 hw_ => ?_)
              replace hbw := Below.on hbw hw_ hbw.size
              replace hbT := Below.on hbT hw_ hbT.size
              replace hbR := Below.on hbR hw_ hbR.size
              clear hw_
              refine EX.seq ?_
              refine EC.no rfl ?_
              refine EC.skip ?_
              refine EX.blk ?_
              refine EX.seq ?_
              refine EC.region ?_
              refine EL.val (x_move rfl) rfl ?_
              refine EL.val (x_add rfl rfl (by first | assumption | exact IntWalk.i64_in _ ⟨by omega, by omega⟩)) rfl ?_
              refine EL.val (x_assign rfl) rfl ?_
              refine EL.nil ?_
              refine EX.roundD (k + 1) ⟨rfl, trivial⟩ (by repeat first | with_reducible exact Sub.refl _ | refine sub_past rfl ?_ | exact Sub.refl _ | refine sub_del rfl ?_ | refine sub_insL_nil ?_) ⟨hlt, hbw, hbT, hbR⟩ (by omega)
            ·
              refine EC.seq ?_
              refine EC.seq ?_
              refine EC.region ?_
              refine EL.val (x_move rfl) rfl ?_
              refine EL.val (x_move rfl) rfl ?_
              refine EL.val (ln_22 rfl) rfl ?_
              refine EL.val (x_lss rfl rfl (by first | assumption | exact decide_eq_false (by omega))) rfl ?_
              refine EL.nil ?_
              refine EX.seq ?_
              refine EC.no rfl ?_
              refine EC.exit ?_
              refine EX.seq_exit ?_
              refine EX.seq_exit ?_
              refine EX.blk_here ?_
              refine EX.seq ?_
              refine EC.seq ?_
              refine EC.region ?_
              refine EL.call cl_12 rfl (known_any _) ?_
              rintro e w32 ⟨rfl, hc32⟩
              refine ⟨_, rfl, ?_⟩
              replace hbw := Below.on hbw hc32 hbw.size
              replace hbT := Below.on hbT hc32 hbT.size
              replace hbR := Below.on hbR hc32 hbR.size
              clear hc32
              refine EL.val (x_assign rfl) rfl ?_
              refine EL.nil ?_
              refine EX.seq ?_
              refine EC.ret ?_
              exact EX.done (res1 rfl rfl) ⟨rfl, hbw⟩
          ·
            have hin : (inB 0 (c.events - 1) x && inB 0 (c.events - 1) y) = false := by rw [hinx, hiny]; rfl
            refine EL.call (cl_28 rfl rfl rfl rfl) rfl (between_to (btw_none hst hin).1 (btw_none hst hin).2 _ _ ws _ _ ((hrc.below hb1).more hsz12) hb2.size hn1 hn2 _ (hrl2.below hb2) hnl) ?_
            rintro e w33 ⟨rfl, hc33⟩
            refine ⟨_, rfl, ?_⟩
            replace q1 := q1.below hc33 q1.lt
            replace q2 := q2.below hc33 q2.lt
            replace q6 := q6.below hc33 q6.lt
            replace hbw := Below.on hbw hc33 hbw.size
            replace hb1 := Below.on hb1 hc33 hb1.size
            replace hb2 := Below.on hb2 hc33 hb2.size
            replace hbT := Below.on hbT hc33 hbT.size
            clear hc33
            refine EL.val (x_move rfl) rfl ?_
            refine EL.val (x_extract rfl rfl) rfl ?_
            refine EL.val (x_extract rfl rfl) rfl ?_
            refine EL.newP al_54 rfl ?_
            intro g34 w34 q34 hb34 hg34 hl34
            have n1_34 : g1 ≠ g34 := Nat.ne_of_lt (Nat.lt_of_lt_of_le q1.lt hg34)
            have n2_34 : g2 ≠ g34 := Nat.ne_of_lt (Nat.lt_of_lt_of_le q2.lt hg34)
            have n6_34 : g6 ≠ g34 := Nat.ne_of_lt (Nat.lt_of_lt_of_le q6.lt hg34)
            have bhbw_34 := Nat.le_trans hbw.size hg34
            have bhb1_34 := Nat.le_trans hb1.size hg34
            have bhb2_34 := Nat.le_trans hb2.size hg34
            have bhbT_34 := Nat.le_trans hbT.size hg34
            replace q1 := q1.below hb34 q1.lt
            replace q2 := q2.below hb34 q2.lt
            replace q6 := q6.below hb34 q6.lt
            replace hbw := Below.on hbw hb34 hbw.size
            replace hb1 := Below.on hb1 hb34 hb1.size
            replace hb2 := Below.on hb2 hb34 hb2.size
            replace hbT := Below.on hbT hb34 hbT.size
            clear hb34 hg34 hl34
            refine EL.store rfl rfl q34 sz_54 rfl rfl rfl rfl ?_
            intro w35 hq35 hg35
            replace q1 := q1.grown hg35 (fun h => n1_34 (Option.some.inj h))
            replace q2 := q2.grown hg35 (fun h => n2_34 (Option.some.inj h))
            replace q6 := q6.grown hg35 (fun h => n6_34 (Option.some.inj h))
            replace hbw := below_store hbw hg35 bhbw_34
            replace hb1 := below_store hb1 hg35 bhb1_34
            replace hb2 := below_store hb2 hg35 bhb2_34
            replace hbT := below_store hbT hg35 bhbT_34
            replace q34 := hq35
            clear hg35 hq35
            refine EL.val (x_assign rfl) rfl ?_
            refine EL.nil ?_
            refine EX.seq ?_
            refine EC.seq ?_
            refine EC.seq ?_
            refine EC.region ?_
            refine EL.val (ld_25 rfl (q6.at (j := 0) rfl) (q6.at (j := 1) rfl) (q6.at (j := 2) rfl)) rfl ?_
            refine EL.val (ld_25 rfl (q1.at (j := 0) rfl) (q1.at (j := 1) rfl) (q1.at (j := 2) rfl)) rfl ?_
            refine EL.call (cl_22 rfl rfl) rfl (unchanged_same c hsm _ _ _ _ ws vs _ _ ((hrc.below hb1).more hsz12) ((hr.below (hbw.mono hB)).more (Nat.le_trans hB hsw)) ) ?_
            rintro e w36 ⟨rfl, hc36⟩
            refine ⟨_, rfl, ?_⟩
            replace q1 := q1.below hc36 q1.lt
            replace q2 := q2.below hc36 q2.lt
            replace q6 := q6.below hc36 q6.lt
            replace q34 := q34.below hc36 q34.lt
            replace hbw := Below.on hbw hc36 hbw.size
            replace hb1 := Below.on hb1 hc36 hb1.size
            replace hb2 := Below.on hb2 hc36 hb2.size
            replace hbT := Below.on hbT hc36 hbT.size
            clear hc36
            refine EL.val (x_not rfl) rfl ?_
            refine EL.val (x_move rfl) rfl ?_
            refine EL.valg rfl rfl (x_move rfl) rfl ?_
            refine EL.valg rfl rfl (x_move rfl) rfl ?_
            refine EL.callg rfl rfl (cl_29 rfl rfl) rfl (equal_same l _ _ _ _ (hrl2.below hb2) ((hrl.below (hbw.mono hB)).more (Nat.le_trans hB hsw)) hb2.size (by omega)) ?_
            rintro e w37 ⟨rfl, hc37⟩
            refine ⟨_, rfl, ?_⟩
            replace q1 := q1.below hc37 q1.lt
            replace q2 := q2.below hc37 q2.lt
            replace q6 := q6.below hc37 q6.lt
            replace q34 := q34.below hc37 q34.lt
            replace hbw := Below.on hbw hc37 hbw.size
            replace hb1 := Below.on hb1 hc37 hb1.size
            replace hb2 := Below.on hb2 hc37 hb2.size
            replace hbT := Below.on hbT hc37 hbT.size
            clear hc37
            refine EL.valg rfl rfl (x_not rfl) rfl ?_
            refine EL.val (x_pick_f rfl rfl) rfl ?_
            refine EL.val (x_move rfl) rfl ?_
            refine EL.valg rfl rfl (x_move rfl) rfl ?_
            refine EL.valg rfl rfl (x_eql (r := true) rfl rfl (by decide)) rfl ?_
            refine EL.valg rfl rfl (ld_25 rfl (q1.at (j := 0) rfl) (q1.at (j := 1) rfl) (q1.at (j := 2) rfl)) rfl ?_
            refine EL.callg rfl rfl (cl_19 rfl) rfl (rcase_any c _ _ vs _ B (hr.below (hbw.mono hB)) (Nat.le_trans hB hbw.size) hn1 hn2 hcb) ?_
            rintro e w38 ⟨rfl, hc38⟩
            refine ⟨_, rfl, ?_⟩
            replace q1 := q1.below hc38 q1.lt
            replace q2 := q2.below hc38 q2.lt
            replace q6 := q6.below hc38 q6.lt
            replace q34 := q34.below hc38 q34.lt
            replace hbw := Below.on hbw hc38 hbw.size
            replace hb1 := Below.on hb1 hc38 hb1.size
            replace hb2 := Below.on hb2 hc38 hb2.size
            replace hbT := Below.on hbT hc38 hbT.size
            clear hc38
            refine EL.valg rfl rfl (neq_bool rfl rfl rfl) rfl ?_
            refine EL.val (x_pick_f rfl rfl) rfl ?_
            refine EL.val (x_move rfl) rfl ?_
            refine EL.valg rfl rfl (x_move rfl) rfl ?_
            refine EL.valg rfl rfl (x_neq (r := false) rfl rfl (by decide)) rfl ?_
            refine EL.valg rfl rfl (x_move rfl) rfl ?_
            refine EL.skip rfl rfl rfl rfl ?_
            refine EL.skip rfl rfl rfl rfl ?_
            refine EL.valg rfl rfl (x_pick_f rfl rfl) rfl ?_
            refine EL.val (x_pick_f rfl rfl) rfl ?_
            refine EL.nil ?_
            refine EX.seq ?_
            refine EC.no rfl ?_
            refine EC.skip ?_
            refine EX.seq ?_
            refine EC.seq ?_
            refine EC.seq ?_
            refine EC.region ?_
            refine EL.val (ld_25 rfl (q1.at (j := 0) rfl) (q1.at (j := 1) rfl) (q1.at (j := 2) rfl)) rfl ?_
            refine EL.val (x_move rfl) rfl ?_
            refine EL.call (cl_16 rfl rfl) rfl (rstart_to hst _ _ vs _ B (hr.below (hbw.mono hB)) (Nat.le_trans hB hbw.size) hn1 hn2 _ (hrl.below (hbw.mono hB)) hnl) ?_
            rintro e w39 ⟨rfl, hc39⟩
            refine ⟨_, rfl, ?_⟩
            replace q1 := q1.below hc39 q1.lt
            replace q2 := q2.below hc39 q2.lt
            replace q6 := q6.below hc39 q6.lt
            replace q34 := q34.below hc39 q34.lt
            replace hbw := Below.on hbw hc39 hbw.size
            replace hb1 := Below.on hb1 hc39 hb1.size
            replace hb2 := Below.on hb2 hc39 hb2.size
            replace hbT := Below.on hbT hc39 hbT.size
            clear hc39
            refine EL.val (x_assign rfl) rfl ?_
            refine EL.nil ?_
            refine EX.seq ?_
            refine EC.seq ?_
            refine EC.region ?_
            refine EL.val (x_move rfl) rfl ?_
            refine EL.val (x_neq (r := false) rfl rfl (by decide)) rfl ?_
            refine EL.nil ?_
            refine EX.seq ?_
            refine EC.no rfl ?_
            refine EC.skip ?_
            refine EX.seq ?_
            refine EC.seq ?_
            refine EC.region ?_
            refine EL.val (ld_25 rfl (q1.at (j := 0) rfl) (q1.at (j := 1) rfl) (q1.at (j := 2) rfl)) rfl ?_
            refine EL.val (x_move rfl) rfl ?_
            refine EL.call (cl_17 rfl rfl) rfl (rpossible_to hok _ _ vs _ B (hr.below (hbw.mono hB)) (Nat.le_trans hB hbw.size) hn1 hn2 _ (hrl.below (hbw.mono hB)) hcb hcr.neg hbd) ?_
            rintro e w40 ⟨rfl, hc40⟩
            refine ⟨_, rfl, ?_⟩
            replace q1 := q1.below hc40 q1.lt
            replace q2 := q2.below hc40 q2.lt
            replace q6 := q6.below hc40 q6.lt
            replace q34 := q34.below hc40 q34.lt
            replace hbw := Below.on hbw hc40 hbw.size
            replace hb1 := Below.on hb1 hc40 hb1.size
            replace hb2 := Below.on hb2 hc40 hb2.size
            replace hbT := Below.on hbT hc40 hbT.size
            clear hc40
            refine EL.val (x_assign rfl) rfl ?_
            refine EL.nil ?_
            refine EX.seq ?_
            refine EC.seq ?_
            refine EC.seq ?_
            refine EC.region ?_
            refine EL.val (x_move rfl) rfl ?_
            refine EL.val (x_neq (r := false) rfl rfl (by decide)) rfl ?_
            refine EL.val (x_move rfl) rfl ?_
            refine EL.valg rfl rfl (x_move rfl) rfl ?_
            refine EL.valg rfl rfl (x_move rfl) rfl ?_
            refine EL.valg rfl rfl (neq_bool rfl rfl rfl) rfl ?_
            refine EL.val (x_pick_f rfl rfl) rfl ?_
            refine EL.nil ?_
            refine EX.seq ?_
            refine EC.no rfl ?_
            refine EC.skip ?_
            refine EX.seq ?_
            refine EC.seq ?_
            refine EC.seq ?_
            refine EC.region ?_
            refine EL.val (ixa_47 (k := 0) rfl rfl (by omega)) rfl ?_
            refine EL.val (ld_3 rfl (q2.at (j := 0) rfl)) rfl ?_
            refine EL.val (fa_25_0 rfl) rfl ?_
            refine EL.val (ld_3 rfl (q1.at (j := 0) rfl)) rfl ?_
            refine EL.val (x_sub rfl rfl (by first | assumption | exact IntWalk.i64_in _ ⟨by omega, by omega⟩)) rfl ?_
            refine EL.call (cl_30 rfl rfl rfl) rfl (rin_any _ hinx) ?_
            rintro e w41 ⟨rfl, hc41⟩
            refine ⟨_, rfl, ?_⟩
            replace q1 := q1.below hc41 q1.lt
            replace q2 := q2.below hc41 q2.lt
            replace q6 := q6.below hc41 q6.lt
            replace q34 := q34.below hc41 q34.lt
            replace hbw := Below.on hbw hc41 hbw.size
            replace hb1 := Below.on hb1 hc41 hb1.size
            replace hb2 := Below.on hb2 hc41 hb2.size
            replace hbT := Below.on hbT hc41 hbT.size
            clear hc41
            refine EL.val (x_not rfl) rfl ?_
            refine EL.val (x_move rfl) rfl ?_
            refine EL.valg rfl rfl (ixa_47 (k := 1) rfl rfl (by omega)) rfl ?_
            refine EL.valg rfl rfl (ld_3 rfl (q2.at (j := 1) rfl)) rfl ?_
            refine EL.valg rfl rfl (fa_25_0 rfl) rfl ?_
            refine EL.valg rfl rfl (ld_3 rfl (q1.at (j := 0) rfl)) rfl ?_
            refine EL.valg rfl rfl (x_sub rfl rfl (by first | assumption | exact IntWalk.i64_in _ ⟨by omega, by omega⟩)) rfl ?_
            refine EL.callg rfl rfl (cl_30 rfl rfl rfl) rfl (rin_any _ hiny) ?_
            rintro e w42 ⟨rfl, hc42⟩
            refine ⟨_, rfl, ?_⟩
            replace q1 := q1.below hc42 q1.lt
            replace q2 := q2.below hc42 q2.lt
            replace q6 := q6.below hc42 q6.lt
            replace q34 := q34.below hc42 q34.lt
            replace hbw := Below.on hbw hc42 hbw.size
            replace hb1 := Below.on hb1 hc42 hb1.size
            replace hb2 := Below.on hb2 hc42 hb2.size
            replace hbT := Below.on hbT hc42 hbT.size
            clear hc42
            refine EL.valg rfl rfl (x_not rfl) rfl ?_
            refine EL.val (x_pick_f rfl rfl) rfl ?_
            refine EL.val (x_assign rfl) rfl ?_
            refine EL.nil ?_
            refine EX.seq ?_
            refine EC.seq ?_
            refine EC.region ?_
            refine EL.val (x_move rfl) rfl ?_
            refine EL.val (x_move rfl) rfl ?_
            refine EL.skip rfl rfl rfl rfl ?_
            refine EL.skip rfl rfl rfl rfl ?_
            refine EL.val (x_pick_t rfl rfl) rfl ?_
            refine EL.nil ?_
            refine EX.seq ?_
            refine EC.yes rfl ?_
            refine EC.seq ?_
            refine EC.region ?_
            refine EL.val (x_assign rfl) rfl ?_
            refine EL.nil ?_
            refine EX.seq ?_
            refine EC.seq ?_
            refine EC.seq ?_
            refine EC.region ?_
            refine EL.val (x_move rfl) rfl ?_
            refine EL.nil ?_
            refine EX.seq ?_
            refine EC.yes rfl ?_
            refine EC.region ?_
            refine EL.val (x_assign rfl) rfl ?_
            refine EL.nil ?_
            refine EX.seq ?_
            refine EC.seq ?_
            refine EC.region ?_
            refine EL.val (x_move rfl) rfl ?_
            refine EL.val (x_move rfl) rfl ?_
            refine EL.val (x_neq (r := false) rfl rfl (by decide)) rfl ?_
            refine EL.val (x_move rfl) rfl ?_
            refine EL.valg rfl rfl (ld_54 rfl (q34.at (j := 0) rfl) (q34.at (j := 1) rfl)) rfl ?_
            refine EL.valg rfl rfl (bd_54_) rfl ?_
            refine EL.valg rfl rfl (neq_54 (r := false) rfl rfl (by simp [bd0])) rfl ?_
            refine EL.val (x_pick_f rfl rfl) rfl ?_
            refine EL.nil ?_
            refine EX.seq ?_
            refine EC.no rfl ?_
            refine EC.skip ?_
            refine EX.seq ?_
            refine EC.seq ?_
            refine EC.seq ?_
            refine EC.region ?_
            refine EL.val (x_move rfl) rfl ?_
            refine EL.val (x_not rfl) rfl ?_
            refine EL.nil ?_
            refine EX.seq ?_
            refine EC.no rfl ?_
            refine EC.skip ?_
            refine EX.seq ?_
            refine EC.seq ?_
            refine EC.region ?_
            refine EL.val (ld_25 rfl (q1.at (j := 0) rfl) (q1.at (j := 1) rfl) (q1.at (j := 2) rfl)) rfl ?_
            refine EL.val (x_move rfl) rfl ?_
            refine EL.call (cl_32 rfl rfl) rfl (rtimes_any c _ _ vs _ B (hr.below (hbw.mono hB)) (Nat.le_trans hB hbw.size) hn1 hn2 l _ (hrl.below (hbw.mono hB)) hcb hcr.neg hbd hok hdist) ?_
            rintro e w43 ⟨⟨vR, rfl, hrR⟩, hc43⟩
            refine ⟨_, rfl, ?_⟩
            replace q1 := q1.below hc43 q1.lt
            replace q2 := q2.below hc43 q2.lt
            replace q6 := q6.below hc43 q6.lt
            replace q34 := q34.below hc43 q34.lt
            replace hbw := Below.on hbw hc43 hbw.size
            replace hb1 := Below.on hb1 hc43 hb1.size
            replace hb2 := Below.on hb2 hc43 hb2.size
            replace hbT := Below.on hbT hc43 hbT.size
            clear hc43
            obtain ⟨AR, cR, rfl, _⟩ := hrR.shape
            have hbR := Below.refl w43.heap.size w43
            refine EL.val (x_assign rfl) rfl ?_
            refine EL.nil ?_
            refine EX.seq ?_
            refine EC.seq ?_
            refine EC.seq ?_
            refine EC.region ?_
            refine EL.val (x_move rfl) rfl ?_
            refine EL.val (x_neq (r := false) rfl rfl (by decide)) rfl ?_
            refine EL.val (x_move rfl) rfl ?_
            refine EL.valg rfl rfl (x_move rfl) rfl ?_
            refine EL.valg rfl rfl (ln_22 rfl) rfl ?_
            refine EL.valg rfl rfl (x_move rfl) rfl ?_
            refine EL.valg rfl rfl (ln_22 rfl) rfl ?_
            refine EL.valg rfl rfl (x_neq (r := false) rfl rfl (by simp)) rfl ?_
            refine EL.val (x_pick_f rfl rfl) rfl ?_
            refine EL.nil ?_
            refine EX.seq ?_
            refine EC.no rfl ?_
            refine EC.skip ?_
            refine EX.seq ?_
            refine EC.seq ?_
            refine EC.seq ?_
            refine EC.region ?_
            refine EL.val (x_assign rfl) rfl ?_
            refine EL.nil ?_
            refine EX.seq ?_
            refine EC.block ?_
            obtain ⟨L, eL⟩ : ∃ z, z = rTimes c l c.events.toNat := ⟨_, rfl⟩
            rw [← eL] at hrT hrR ⊢
            have hL20 : L.length ≤ 20 := by rw [eL, rTimes_len]; omega
            refine EC.loopD [6, 21, 195, 196, 197, 198, 199, 200, 201, 202, 203, 204, 205, 206, 207, 208, 209] (fun x : Nat => [(21, .int .i64 (x : Nat))]) (fun x W => x ≤ L.length ∧ Below w.heap.size w W ∧ Below w20.heap.size w20 W ∧ Below w43.heap.size w43 W) (fun x => L.length - x) 0 ⟨Nat.zero_le _, hbw, hbT, hbR⟩ ⟨rfl, trivial⟩ ?_
            clear hbw hbT hbR hb1 hb2
            rintro k wk ⟨hk, hbw, hbT, hbR⟩
            by_cases hlt : k < L.length
            ·
              obtain ⟨b1, o1, e1_, _, x0, x1⟩ := bds_cells L k hlt _ _ _ _ _ hrT
              obtain ⟨b2, o2, e2_, _, y0, y1⟩ := bds_cells L k hlt _ _ _ _ _ hrR
              subst e1_
              subst e2_
              refine EC.seq ?_
              refine EC.seq ?_
              refine EC.region ?_
              refine EL.val (x_move rfl) rfl ?_
              refine EL.val (x_move rfl) rfl ?_
              refine EL.val (ln_22 rfl) rfl ?_
              refine EL.val (x_lss rfl rfl (by first | assumption | exact decide_eq_true (by omega))) rfl ?_
              refine EL.nil ?_
              refine EX.seq ?_
              refine EC.yes rfl ?_
              refine EC.skip ?_
              refine EX.seq ?_
              refine EC.seq ?_
              refine EC.block ?_
              refine EC.seq ?_
              refine EC.regionQ (by kernel_rfl) (by kernel_rfl) ?_
              refine EQ.val (fun _ hw => (x_move rfl)) rfl ?_
              refine EQ.val (fun _ hw => (x_move rfl)) rfl ?_
              refine EQ.val (fun _ hw => (ix_22 rfl rfl hlt)) rfl ?_
              refine EQ.val (fun _ hw => (ld_54 rfl (below_load hw (below_load hbT x0)) (below_load hw (below_load hbT x1)))) rfl ?_
              refine EQ.val (fun _ hw => (x_move rfl)) rfl ?_
              refine EQ.val (fun _ hw => (x_move rfl)) rfl ?_
              refine EQ.val (fun _ hw => (ix_22 rfl rfl hlt)) rfl ?_
              refine EQ.val (fun _ hw => (ld_54 rfl (below_load hw (below_load hbR y0)) (below_load hw (below_load hbR y1)))) rfl ?_
              refine EQ.val (fun _ hw => (neq_54 (r := false) rfl rfl (by simp))) rfl ?_
              refine EQ.fin (fun w44 hw_ => ?_)
              replace hbw := Below.on hbw hw_ hbw.size
              replace hbT := Below.on hbT hw_ hbT.size
              replace hbR := Below.on hbR hw_ hbR.size
              clear hw_
              refine EX.seq ?_
              refine EC.no rfl ?_
              refine EC.skip ?_
              refine EX.blk ?_
              refine EX.seq ?_
              refine EC.region ?_
              refine EL.val (x_move rfl) rfl ?_
              refine EL.val (x_add rfl rfl (by first | assumption | exact IntWalk.i64_in _ ⟨by omega, by omega⟩)) rfl ?_
              refine EL.val (x_assign rfl) rfl ?_
              refine EL.nil ?_
              refine EX.roundD (k + 1) ⟨rfl, trivial⟩ (by repeat first | with_reducible exact Sub.refl _ | refine sub_past rfl ?_ | exact Sub.refl _ | refine sub_del rfl ?_ | refine sub_insL_nil ?_) ⟨hlt, hbw, hbT, hbR⟩ (by omega)
            ·
              refine EC.seq ?_
              refine EC.seq ?_
              refine EC.region ?_
              refine EL.val (x_move rfl) rfl ?_
              refine EL.val (x_move rfl) rfl ?_
              refine EL.val (ln_22 rfl) rfl ?_
              refine EL.val (x_lss rfl rfl (by first | assumption | exact decide_eq_false (by omega))) rfl ?_
              refine EL.nil ?_
              refine EX.seq ?_
              refine EC.no rfl ?_
              refine EC.exit ?_
              refine EX.seq_exit ?_
              refine EX.seq_exit ?_
              refine EX.blk_here ?_
              refine EX.seq ?_
              refine EC.seq ?_
              refine EC.region ?_
              refine EL.call cl_12 rfl (known_any _) ?_
              rintro e w45 ⟨rfl, hc45⟩
              refine ⟨_, rfl, ?_⟩
              replace hbw := Below.on hbw hc45 hbw.size
              replace hbT := Below.on hbT hc45 hbT.size
              replace hbR := Below.on hbR hc45 hbR.size
              clear hc45
              refine EL.val (x_assign rfl) rfl ?_
              refine EL.nil ?_
              refine EX.seq ?_
              refine EC.ret ?_
              exact EX.done (res1 rfl rfl) ⟨rfl, hbw⟩
          ·
            have hin : (inB 0 (c.events - 1) x && inB 0 (c.events - 1) y) = true := by rw [hinx, hiny]; rfl
            obtain ⟨xn, rfl⟩ : ∃ n : Nat, x = n := ⟨x.toNat, by have := inB_iff.1 hinx; omega⟩
            obtain ⟨yn, rfl⟩ : ∃ n : Nat, y = n := ⟨y.toNat, by have := inB_iff.1 hiny; omega⟩
            have hxn : 1 + xn < nOf c := by have := inB_iff.1 hinx; unfold nOf; omega
            have hyn : 1 + yn < nOf c := by have := inB_iff.1 hiny; unfold nOf; omega
            refine EL.call (cl_28 rfl rfl rfl rfl) rfl (between_to (btw_ok hst hin hfit).1 ((btw_ok hst hin hfit).2.trans (apart_dist hcb hcr hok hxn hyn)) _ _ ws _ _ ((hrc.below hb1).more hsz12) hb2.size hn1 hn2 _ (hrl2.below hb2) hnl) ?_
            rintro e w46 ⟨rfl, hc46⟩
            refine ⟨_, rfl, ?_⟩
            replace q1 := q1.below hc46 q1.lt
            replace q2 := q2.below hc46 q2.lt
            replace q6 := q6.below hc46 q6.lt
            replace hbw := Below.on hbw hc46 hbw.size
            replace hb1 := Below.on hb1 hc46 hb1.size
            replace hb2 := Below.on hb2 hc46 hb2.size
            replace hbT := Below.on hbT hc46 hbT.size
            clear hc46
            refine EL.val (x_move rfl) rfl ?_
            refine EL.val (x_extract rfl rfl) rfl ?_
            refine EL.val (x_extract rfl rfl) rfl ?_
            refine EL.newP al_54 rfl ?_
            intro g47 w47 q47 hb47 hg47 hl47
            have n1_47 : g1 ≠ g47 := Nat.ne_of_lt (Nat.lt_of_lt_of_le q1.lt hg47)
            have n2_47 : g2 ≠ g47 := Nat.ne_of_lt (Nat.lt_of_lt_of_le q2.lt hg47)
            have n6_47 : g6 ≠ g47 := Nat.ne_of_lt (Nat.lt_of_lt_of_le q6.lt hg47)
            have bhbw_47 := Nat.le_trans hbw.size hg47
            have bhb1_47 := Nat.le_trans hb1.size hg47
            have bhb2_47 := Nat.le_trans hb2.size hg47
            have bhbT_47 := Nat.le_trans hbT.size hg47
            replace q1 := q1.below hb47 q1.lt
            replace q2 := q2.below hb47 q2.lt
            replace q6 := q6.below hb47 q6.lt
            replace hbw := Below.on hbw hb47 hbw.size
            replace hb1 := Below.on hb1 hb47 hb1.size
            replace hb2 := Below.on hb2 hb47 hb2.size
            replace hbT := Below.on hbT hb47 hbT.size
            clear hb47 hg47 hl47
            refine EL.store rfl rfl q47 sz_54 rfl rfl rfl rfl ?_
            intro w48 hq48 hg48
            replace q1 := q1.grown hg48 (fun h => n1_47 (Option.some.inj h))
            replace q2 := q2.grown hg48 (fun h => n2_47 (Option.some.inj h))
            replace q6 := q6.grown hg48 (fun h => n6_47 (Option.some.inj h))
            replace hbw := below_store hbw hg48 bhbw_47
            replace hb1 := below_store hb1 hg48 bhb1_47
            replace hb2 := below_store hb2 hg48 bhb2_47
            replace hbT := below_store hbT hg48 bhbT_47
            replace q47 := hq48
            clear hg48 hq48
            refine EL.val (x_assign rfl) rfl ?_
            refine EL.nil ?_
            refine EX.seq ?_
            refine EC.seq ?_
            refine EC.seq ?_
            refine EC.region ?_
            refine EL.val (ld_25 rfl (q6.at (j := 0) rfl) (q6.at (j := 1) rfl) (q6.at (j := 2) rfl)) rfl ?_
            refine EL.val (ld_25 rfl (q1.at (j := 0) rfl) (q1.at (j := 1) rfl) (q1.at (j := 2) rfl)) rfl ?_
            refine EL.call (cl_22 rfl rfl) rfl (unchanged_same c hsm _ _ _ _ ws vs _ _ ((hrc.below hb1).more hsz12) ((hr.below (hbw.mono hB)).more (Nat.le_trans hB hsw)) ) ?_
            rintro e w49 ⟨rfl, hc49⟩
            refine ⟨_, rfl, ?_⟩
            replace q1 := q1.below hc49 q1.lt
            replace q2 := q2.below hc49 q2.lt
            replace q6 := q6.below hc49 q6.lt
            replace q47 := q47.below hc49 q47.lt
            replace hbw := Below.on hbw hc49 hbw.size
            replace hb1 := Below.on hb1 hc49 hb1.size
            replace hb2 := Below.on hb2 hc49 hb2.size
            replace hbT := Below.on hbT hc49 hbT.size
            clear hc49
            refine EL.val (x_not rfl) rfl ?_
            refine EL.val (x_move rfl) rfl ?_
            refine EL.valg rfl rfl (x_move rfl) rfl ?_
            refine EL.valg rfl rfl (x_move rfl) rfl ?_
            refine EL.callg rfl rfl (cl_29 rfl rfl) rfl (equal_same l _ _ _ _ (hrl2.below hb2) ((hrl.below (hbw.mono hB)).more (Nat.le_trans hB hsw)) hb2.size (by omega)) ?_
            rintro e w50 ⟨rfl, hc50⟩
            refine ⟨_, rfl, ?_⟩
            replace q1 := q1.below hc50 q1.lt
            replace q2 := q2.below hc50 q2.lt
            replace q6 := q6.below hc50 q6.lt
            replace q47 := q47.below hc50 q47.lt
            replace hbw := Below.on hbw hc50 hbw.size
            replace hb1 := Below.on hb1 hc50 hb1.size
            replace hb2 := Below.on hb2 hc50 hb2.size
            replace hbT := Below.on hbT hc50 hbT.size
            clear hc50
            refine EL.valg rfl rfl (x_not rfl) rfl ?_
            refine EL.val (x_pick_f rfl rfl) rfl ?_
            refine EL.val (x_move rfl) rfl ?_
            refine EL.valg rfl rfl (x_move rfl) rfl ?_
            refine EL.valg rfl rfl (x_eql (r := true) rfl rfl (by decide)) rfl ?_
            refine EL.valg rfl rfl (ld_25 rfl (q1.at (j := 0) rfl) (q1.at (j := 1) rfl) (q1.at (j := 2) rfl)) rfl ?_
            refine EL.callg rfl rfl (cl_19 rfl) rfl (rcase_any c _ _ vs _ B (hr.below (hbw.mono hB)) (Nat.le_trans hB hbw.size) hn1 hn2 hcb) ?_
            rintro e w51 ⟨rfl, hc51⟩
            refine ⟨_, rfl, ?_⟩
            replace q1 := q1.below hc51 q1.lt
            replace q2 := q2.below hc51 q2.lt
            replace q6 := q6.below hc51 q6.lt
            replace q47 := q47.below hc51 q47.lt
            replace hbw := Below.on hbw hc51 hbw.size
            replace hb1 := Below.on hb1 hc51 hb1.size
            replace hb2 := Below.on hb2 hc51 hb2.size
            replace hbT := Below.on hbT hc51 hbT.size
            clear hc51
            refine EL.valg rfl rfl (neq_bool rfl rfl rfl) rfl ?_
            refine EL.val (x_pick_f rfl rfl) rfl ?_
            refine EL.val (x_move rfl) rfl ?_
            refine EL.valg rfl rfl (x_move rfl) rfl ?_
            refine EL.valg rfl rfl (x_neq (r := false) rfl rfl (by decide)) rfl ?_
            refine EL.valg rfl rfl (x_move rfl) rfl ?_
            refine EL.skip rfl rfl rfl rfl ?_
            refine EL.skip rfl rfl rfl rfl ?_
            refine EL.valg rfl rfl (x_pick_f rfl rfl) rfl ?_
            refine EL.val (x_pick_f rfl rfl) rfl ?_
            refine EL.nil ?_
            refine EX.seq ?_
            refine EC.no rfl ?_
            refine EC.skip ?_
            refine EX.seq ?_
            refine EC.seq ?_
            refine EC.seq ?_
            refine EC.region ?_
            refine EL.val (ld_25 rfl (q1.at (j := 0) rfl) (q1.at (j := 1) rfl) (q1.at (j := 2) rfl)) rfl ?_
            refine EL.val (x_move rfl) rfl ?_
            refine EL.call (cl_16 rfl rfl) rfl (rstart_to hst _ _ vs _ B (hr.below (hbw.mono hB)) (Nat.le_trans hB hbw.size) hn1 hn2 _ (hrl.below (hbw.mono hB)) hnl) ?_
            rintro e w52 ⟨rfl, hc52⟩
            refine ⟨_, rfl, ?_⟩
            replace q1 := q1.below hc52 q1.lt
            replace q2 := q2.below hc52 q2.lt
            replace q6 := q6.below hc52 q6.lt
            replace q47 := q47.below hc52 q47.lt
            replace hbw := Below.on hbw hc52 hbw.size
            replace hb1 := Below.on hb1 hc52 hb1.size
            replace hb2 := Below.on hb2 hc52 hb2.size
            replace hbT := Below.on hbT hc52 hbT.size
            clear hc52
            refine EL.val (x_assign rfl) rfl ?_
            refine EL.nil ?_
            refine EX.seq ?_
            refine EC.seq ?_
            refine EC.region ?_
            refine EL.val (x_move rfl) rfl ?_
            refine EL.val (x_neq (r := false) rfl rfl (by decide)) rfl ?_
            refine EL.nil ?_
            refine EX.seq ?_
            refine EC.no rfl ?_
            refine EC.skip ?_
            refine EX.seq ?_
            refine EC.seq ?_
            refine EC.region ?_
            refine EL.val (ld_25 rfl (q1.at (j := 0) rfl) (q1.at (j := 1) rfl) (q1.at (j := 2) rfl)) rfl ?_
            refine EL.val (x_move rfl) rfl ?_
            refine EL.call (cl_17 rfl rfl) rfl (rpossible_to hok _ _ vs _ B (hr.below (hbw.mono hB)) (Nat.le_trans hB hbw.size) hn1 hn2 _ (hrl.below (hbw.mono hB)) hcb hcr.neg hbd) ?_
            rintro e w53 ⟨rfl, hc53⟩
            refine ⟨_, rfl, ?_⟩
            replace q1 := q1.below hc53 q1.lt
            replace q2 := q2.below hc53 q2.lt
            replace q6 := q6.below hc53 q6.lt
            replace q47 := q47.below hc53 q47.lt
            replace hbw := Below.on hbw hc53 hbw.size
            replace hb1 := Below.on hb1 hc53 hb1.size
            replace hb2 := Below.on hb2 hc53 hb2.size
            replace hbT := Below.on hbT hc53 hbT.size
            clear hc53
            refine EL.val (x_assign rfl) rfl ?_
            refine EL.nil ?_
            refine EX.seq ?_
            refine EC.seq ?_
            refine EC.seq ?_
            refine EC.region ?_
            refine EL.val (x_move rfl) rfl ?_
            refine EL.val (x_neq (r := false) rfl rfl (by decide)) rfl ?_
            refine EL.val (x_move rfl) rfl ?_
            refine EL.valg rfl rfl (x_move rfl) rfl ?_
            refine EL.valg rfl rfl (x_move rfl) rfl ?_
            refine EL.valg rfl rfl (neq_bool rfl rfl rfl) rfl ?_
            refine EL.val (x_pick_f rfl rfl) rfl ?_
            refine EL.nil ?_
            refine EX.seq ?_
            refine EC.no rfl ?_
            refine EC.skip ?_
            refine EX.seq ?_
            refine EC.seq ?_
            refine EC.seq ?_
            refine EC.region ?_
            refine EL.val (ixa_47 (k := 0) rfl rfl (by omega)) rfl ?_
            refine EL.val (ld_3 rfl (q2.at (j := 0) rfl)) rfl ?_
            refine EL.val (fa_25_0 rfl) rfl ?_
            refine EL.val (ld_3 rfl (q1.at (j := 0) rfl)) rfl ?_
            refine EL.val (x_sub rfl rfl (by first | assumption | exact IntWalk.i64_in _ ⟨by omega, by omega⟩)) rfl ?_
            refine EL.call (cl_30 rfl rfl rfl) rfl (rin_any _ hinx) ?_
            rintro e w54 ⟨rfl, hc54⟩
            refine ⟨_, rfl, ?_⟩
            replace q1 := q1.below hc54 q1.lt
            replace q2 := q2.below hc54 q2.lt
            replace q6 := q6.below hc54 q6.lt
            replace q47 := q47.below hc54 q47.lt
            replace hbw := Below.on hbw hc54 hbw.size
            replace hb1 := Below.on hb1 hc54 hb1.size
            replace hb2 := Below.on hb2 hc54 hb2.size
            replace hbT := Below.on hbT hc54 hbT.size
            clear hc54
            refine EL.val (x_not rfl) rfl ?_
            refine EL.val (x_move rfl) rfl ?_
            refine EL.valg rfl rfl (ixa_47 (k := 1) rfl rfl (by omega)) rfl ?_
            refine EL.valg rfl rfl (ld_3 rfl (q2.at (j := 1) rfl)) rfl ?_
            refine EL.valg rfl rfl (fa_25_0 rfl) rfl ?_
            refine EL.valg rfl rfl (ld_3 rfl (q1.at (j := 0) rfl)) rfl ?_
            refine EL.valg rfl rfl (x_sub rfl rfl (by first | assumption | exact IntWalk.i64_in _ ⟨by omega, by omega⟩)) rfl ?_
            refine EL.callg rfl rfl (cl_30 rfl rfl rfl) rfl (rin_any _ hiny) ?_
            rintro e w55 ⟨rfl, hc55⟩
            refine ⟨_, rfl, ?_⟩
            replace q1 := q1.below hc55 q1.lt
            replace q2 := q2.below hc55 q2.lt
            replace q6 := q6.below hc55 q6.lt
            replace q47 := q47.below hc55 q47.lt
            replace hbw := Below.on hbw hc55 hbw.size
            replace hb1 := Below.on hb1 hc55 hb1.size
            replace hb2 := Below.on hb2 hc55 hb2.size
            replace hbT := Below.on hbT hc55 hbT.size
            clear hc55
            refine EL.valg rfl rfl (x_not rfl) rfl ?_
            refine EL.val (x_pick_f rfl rfl) rfl ?_
            refine EL.val (x_assign rfl) rfl ?_
            refine EL.nil ?_
            refine EX.seq ?_
            refine EC.seq ?_
            refine EC.region ?_
            refine EL.val (x_move rfl) rfl ?_
            refine EL.val (x_move rfl) rfl ?_
            refine EL.valg rfl rfl (x_move rfl) rfl ?_
            refine EL.valg rfl rfl (x_not rfl) rfl ?_
            refine EL.val (x_pick_f rfl rfl) rfl ?_
            refine EL.nil ?_
            refine EX.seq ?_
            refine EC.no rfl ?_
            refine EC.seq ?_
            refine EC.regionQ (by kernel_rfl) (by kernel_rfl) ?_
            refine EQ.val (fun _ hw => (x_move rfl)) rfl ?_
            refine EQ.val (fun _ hw => (x_neq (r := false) rfl rfl (by decide))) rfl ?_
            refine EQ.val (fun _ hw => (x_move rfl)) rfl ?_
            refine EQ.valg rfl rfl (fun _ hw => (ld_54 rfl (below_load hw (q47.at (j := 0) rfl)) (below_load hw (q47.at (j := 1) rfl)))) rfl ?_
            refine EQ.valg rfl rfl (fun _ hw => (ld_25 rfl (below_load hw (q1.at (j := 0) rfl)) (below_load hw (q1.at (j := 1) rfl)) (below_load hw (q1.at (j := 2) rfl)))) rfl ?_
            refine EQ.valg rfl rfl (fun _ hw => (x_move rfl)) rfl ?_
            refine EQ.valg rfl rfl (fun _ hw => (ixa_47 (k := 0) rfl rfl (by omega))) rfl ?_
            refine EQ.valg rfl rfl (fun _ hw => (ld_3 rfl (below_load hw (q2.at (j := 0) rfl)))) rfl ?_
            refine EQ.valg rfl rfl (fun _ hw => (ixa_47 (k := 1) rfl rfl (by omega))) rfl ?_
            refine EQ.valg rfl rfl (fun _ hw => (ld_3 rfl (below_load hw (q2.at (j := 1) rfl)))) rfl ?_
            refine EQ.callg rfl rfl (fun _ _ _ ha => cl_31 rfl rfl rfl rfl _ ha) rfl (fun W hw => (rbetween_any c _ _ vs _ B (hr.below ((hbw.trans (hw.mono hbw.size)).mono hB)) (Nat.le_trans hB (Nat.le_trans hbw.size hw.size)) hn1 hn2 l _ (hrl.below ((hbw.trans (hw.mono hbw.size)).mono hB)) hcb hcr.neg hbd hok hdist xn yn hxn hyn).mono fun e w' h => ⟨h.1, hw.trans (h.2.mono hw.size)⟩) ?_
            refine EQ.valg rfl rfl (fun _ hw => (neq_54 (r := false) rfl rfl (by simp))) rfl ?_
            refine EQ.val (fun _ hw => (x_pick_f rfl rfl)) rfl ?_
            refine EQ.fin (fun w56 hw_ => ?_)
            replace q1 := q1.below hw_ q1.lt
            replace q2 := q2.below hw_ q2.lt
            replace q6 := q6.below hw_ q6.lt
            replace q47 := q47.below hw_ q47.lt
            replace hbw := Below.on hbw hw_ hbw.size
            replace hb1 := Below.on hb1 hw_ hb1.size
            replace hb2 := Below.on hb2 hw_ hb2.size
            replace hbT := Below.on hbT hw_ hbT.size
            clear hw_
            refine EX.seq ?_
            refine EC.no rfl ?_
            refine EC.skip ?_
            refine EX.seq ?_
            refine EC.seq ?_
            refine EC.seq ?_
            refine EC.region ?_
            refine EL.val (x_move rfl) rfl ?_
            refine EL.val (x_not rfl) rfl ?_
            refine EL.nil ?_
            refine EX.seq ?_
            refine EC.no rfl ?_
            refine EC.skip ?_
            refine EX.seq ?_
            refine EC.seq ?_
            refine EC.region ?_
            refine EL.val (ld_25 rfl (q1.at (j := 0) rfl) (q1.at (j := 1) rfl) (q1.at (j := 2) rfl)) rfl ?_
            refine EL.val (x_move rfl) rfl ?_
            refine EL.call (cl_32 rfl rfl) rfl (rtimes_any c _ _ vs _ B (hr.below (hbw.mono hB)) (Nat.le_trans hB hbw.size) hn1 hn2 l _ (hrl.below (hbw.mono hB)) hcb hcr.neg hbd hok hdist) ?_
            rintro e w57 ⟨⟨vR, rfl, hrR⟩, hc57⟩
            refine ⟨_, rfl, ?_⟩
            replace q1 := q1.below hc57 q1.lt
            replace q2 := q2.below hc57 q2.lt
            replace q6 := q6.below hc57 q6.lt
            replace q47 := q47.below hc57 q47.lt
            replace hbw := Below.on hbw hc57 hbw.size
            replace hb1 := Below.on hb1 hc57 hb1.size
            replace hb2 := Below.on hb2 hc57 hb2.size
            replace hbT := Below.on hbT hc57 hbT.size
            clear hc57
            obtain ⟨AR, cR, rfl, _⟩ := hrR.shape
            have hbR := Below.refl w57.heap.size w57
            refine EL.val (x_assign rfl) rfl ?_
            refine EL.nil ?_
            refine EX.seq ?_
            refine EC.seq ?_
            refine EC.seq ?_
            refine EC.region ?_
            refine EL.val (x_move rfl) rfl ?_
            refine EL.val (x_neq (r := false) rfl rfl (by decide)) rfl ?_
            refine EL.val (x_move rfl) rfl ?_
            refine EL.valg rfl rfl (x_move rfl) rfl ?_
            refine EL.valg rfl rfl (ln_22 rfl) rfl ?_
            refine EL.valg rfl rfl (x_move rfl) rfl ?_
            refine EL.valg rfl rfl (ln_22 rfl) rfl ?_
            refine EL.valg rfl rfl (x_neq (r := false) rfl rfl (by simp)) rfl ?_
            refine EL.val (x_pick_f rfl rfl) rfl ?_
            refine EL.nil ?_
            refine EX.seq ?_
            refine EC.no rfl ?_
            refine EC.skip ?_
            refine EX.seq ?_
            refine EC.seq ?_
            refine EC.seq ?_
            refine EC.region ?_
            refine EL.val (x_assign rfl) rfl ?_
            refine EL.nil ?_
            refine EX.seq ?_
            refine EC.block ?_
            obtain ⟨L, eL⟩ : ∃ z, z = rTimes c l c.events.toNat := ⟨_, rfl⟩
            rw [← eL] at hrT hrR ⊢
            have hL20 : L.length ≤ 20 := by rw [eL, rTimes_len]; omega
            refine EC.loopD [6, 21, 195, 196, 197, 198, 199, 200, 201, 202, 203, 204, 205, 206, 207, 208, 209] (fun x : Nat => [(21, .int .i64 (x : Nat))]) (fun x W => x ≤ L.length ∧ Below w.heap.size w W ∧ Below w20.heap.size w20 W ∧ Below w57.heap.size w57 W) (fun x => L.length - x) 0 ⟨Nat.zero_le _, hbw, hbT, hbR⟩ ⟨rfl, trivial⟩ ?_
            clear hbw hbT hbR hb1 hb2
            rintro k wk ⟨hk, hbw, hbT, hbR⟩
            by_cases hlt : k < L.length
            ·
              obtain ⟨b1, o1, e1_, _, x0, x1⟩ := bds_cells L k hlt _ _ _ _ _ hrT
              obtain ⟨b2, o2, e2_, _, y0, y1⟩ := bds_cells L k hlt _ _ _ _ _ hrR
              subst e1_
              subst e2_
              refine EC.seq ?_
              refine EC.seq ?_
              refine EC.region ?_
              refine EL.val (x_move rfl) rfl ?_
              refine EL.val (x_move rfl) rfl ?_
              refine EL.val (ln_22 rfl) rfl ?_
              refine EL.val (x_lss rfl rfl (by first | assumption | exact decide_eq_true (by omega))) rfl ?_
              refine EL.nil ?_
              refine EX.seq ?_
              refine EC.yes rfl ?_
              refine EC.skip ?_
              refine EX.seq ?_
              refine EC.seq ?_
              refine EC.block ?_
              refine EC.seq ?_
              refine EC.regionQ (by kernel_rfl) (by kernel_rfl) ?_
              refine EQ.val (fun _ hw => (x_move rfl)) rfl ?_
              refine EQ.val (fun _ hw => (x_move rfl)) rfl ?_
              refine EQ.val (fun _ hw => (ix_22 rfl rfl hlt)) rfl ?_
              refine EQ.val (fun _ hw => (ld_54 rfl (below_load hw (below_load hbT x0)) (below_load hw (below_load hbT x1)))) rfl ?_
              refine EQ.val (fun _ hw => (x_move rfl)) rfl ?_
              refine EQ.val (fun _ hw => (x_move rfl)) rfl ?_
              refine EQ.val (fun _ hw => (ix_22 rfl rfl hlt)) rfl ?_
              refine EQ.val (fun _ hw => (ld_54 rfl (below_load hw (below_load hbR y0)) (below_load hw (below_load hbR y1)))) rfl ?_
              refine EQ.val (fun _ hw => (neq_54 (r := false) rfl rfl (by simp))) rfl ?_
              refine EQ.fin (fun w58 hw_ => ?_)
              replace hbw := Below.on hbw hw_ hbw.size
              replace hbT := Below.on hbT hw_ hbT.size
              replace hbR := Below.on hbR hw_ hbR.size
              clear hw_
              refine EX.seq ?_
              refine EC.no rfl ?_
              refine EC.skip ?_
              refine EX.blk ?_
              refine EX.seq ?_
              refine EC.region ?_
              refine EL.val (x_move rfl) rfl ?_
              refine EL.val (x_add rfl rfl (by first | assumption | exact IntWalk.i64_in _ ⟨by omega, by omega⟩)) rfl ?_
              refine EL.val (x_assign rfl) rfl ?_
              refine EL.nil ?_
              refine EX.roundD (k + 1) ⟨rfl, trivial⟩ (by repeat first | with_reducible exact Sub.refl _ | refine sub_past rfl ?_ | exact Sub.refl _ | refine sub_del rfl ?_ | refine sub_insL_nil ?_) ⟨hlt, hbw, hbT, hbR⟩ (by omega)
            ·
              refine EC.seq ?_
              refine EC.seq ?_
              refine EC.region ?_
              refine EL.val (x_move rfl) rfl ?_
              refine EL.val (x_move rfl) rfl ?_
              refine EL.val (ln_22 rfl) rfl ?_
              refine EL.val (x_lss rfl rfl (by first | assumption | exact decide_eq_false (by omega))) rfl ?_
              refine EL.nil ?_
              refine EX.seq ?_
              refine EC.no rfl ?_
              refine EC.exit ?_
              refine EX.seq_exit ?_
              refine EX.seq_exit ?_
              refine EX.blk_here ?_
              refine EX.seq ?_
              refine EC.seq ?_
              refine EC.region ?_
              refine EL.call cl_12 rfl (known_any _) ?_
              rintro e w59 ⟨rfl, hc59⟩
              refine ⟨_, rfl, ?_⟩
              replace hbw := Below.on hbw hc59 hbw.size
              replace hbT := Below.on hbT hc59 hbT.size
              replace hbR := Below.on hbR hc59 hbR.size
              clear hc59
              refine EL.val (x_assign rfl) rfl ?_
              refine EL.nil ?_
              refine EX.seq ?_
              refine EC.ret ?_
              exact EX.done (res1 rfl rfl) ⟨rfl, hbw⟩
        ·
          obtain ⟨_, hlen, _, hcr⟩ := start_ok hst
          have hbd := noOver hcb hcr.neg
          have hev := (caseB_ok hcb).1
          have hok : okC c l = false := (fits_okC hcb hcr.neg).symm.trans hfit
          refine EL.call (cl_26 rfl rfl) rfl (possible_to (poss_no hst hfit) hst _ _ ws _ _ ((hrc.below hb1).more hsz12) hb2.size hn1 hn2 _ (hrl2.below hb2) hnl) ?_
          rintro e w60 ⟨rfl, hc60⟩
          refine ⟨_, rfl, ?_⟩
          replace q1 := q1.below hc60 q1.lt
          replace q2 := q2.below hc60 q2.lt
          replace q6 := q6.below hc60 q6.lt
          replace hbw := Below.on hbw hc60 hbw.size
          replace hb1 := Below.on hb1 hc60 hb1.size
          replace hb2 := Below.on hb2 hc60 hb2.size
          clear hc60
          refine EL.val (x_move rfl) rfl ?_
          refine EL.val (x_extract rfl rfl) rfl ?_
          refine EL.val (x_extract rfl rfl) rfl ?_
          refine EL.val (x_assign rfl) rfl ?_
          refine EL.val (x_assign rfl) rfl ?_
          refine EL.nil ?_
          refine EX.seq ?_
          refine EC.seq ?_
          refine EC.region ?_
          refine EL.val (ld_25 rfl (q6.at (j := 0) rfl) (q6.at (j := 1) rfl) (q6.at (j := 2) rfl)) rfl ?_
          refine EL.val (x_move rfl) rfl ?_
          refine EL.call (cl_27 rfl rfl) rfl (times_to (times_fit hst hfit).1 (times_fit hst hfit).2 _ _ ws _ _ ((hrc.below hb1).more hsz12) hb2.size hn1 hn2 _ (hrl2.below hb2) hnl) ?_
          rintro e w61 ⟨⟨vT, rfl, hrT⟩, hc61⟩
          refine ⟨_, rfl, ?_⟩
          replace q1 := q1.below hc61 q1.lt
          replace q2 := q2.below hc61 q2.lt
          replace q6 := q6.below hc61 q6.lt
          replace hbw := Below.on hbw hc61 hbw.size
          replace hb1 := Below.on hb1 hc61 hb1.size
          replace hb2 := Below.on hb2 hc61 hb2.size
          clear hc61
          obtain ⟨AT, cT, rfl, _⟩ := hrT.shape
          have hbT := Below.refl w61.heap.size w61
          refine EL.val (x_move rfl) rfl ?_
          refine EL.val (x_extract rfl rfl) rfl ?_
          refine EL.val (x_extract rfl rfl) rfl ?_
          refine EL.val (x_assign rfl) rfl ?_
          refine EL.val (x_assign rfl) rfl ?_
          refine EL.nil ?_
          refine EX.seq ?_
          refine EC.seq ?_
          refine EC.region ?_
          refine EL.val (ld_25 rfl (q6.at (j := 0) rfl) (q6.at (j := 1) rfl) (q6.at (j := 2) rfl)) rfl ?_
          refine EL.val (x_move rfl) rfl ?_
          refine EL.val (ixa_47 (k := 0) rfl rfl (by omega)) rfl ?_
          refine EL.val (ld_3 rfl (q2.at (j := 0) rfl)) rfl ?_
          refine EL.val (ixa_47 (k := 1) rfl rfl (by omega)) rfl ?_
          refine EL.val (ld_3 rfl (q2.at (j := 1) rfl)) rfl ?_
          rcases in_three c x y with hinx | ⟨hinx, hiny⟩ | ⟨hinx, hiny⟩
          ·
            have hin : (inB 0 (c.events - 1) x && inB 0 (c.events - 1) y) = false := by rw [hinx]; rfl
            refine EL.call (cl_28 rfl rfl rfl rfl) rfl (between_to (btw_none hst hin).1 (btw_none hst hin).2 _ _ ws _ _ ((hrc.below hb1).more hsz12) hb2.size hn1 hn2 _ (hrl2.below hb2) hnl) ?_
            rintro e w62 ⟨rfl, hc62⟩
            refine ⟨_, rfl, ?_⟩
            replace q1 := q1.below hc62 q1.lt
            replace q2 := q2.below hc62 q2.lt
            replace q6 := q6.below hc62 q6.lt
            replace hbw := Below.on hbw hc62 hbw.size
            replace hb1 := Below.on hb1 hc62 hb1.size
            replace hb2 := Below.on hb2 hc62 hb2.size
            replace hbT := Below.on hbT hc62 hbT.size
            clear hc62
            refine EL.val (x_move rfl) rfl ?_
            refine EL.val (x_extract rfl rfl) rfl ?_
            refine EL.val (x_extract rfl rfl) rfl ?_
            refine EL.newP al_54 rfl ?_
            intro g63 w63 q63 hb63 hg63 hl63
            have n1_63 : g1 ≠ g63 := Nat.ne_of_lt (Nat.lt_of_lt_of_le q1.lt hg63)
            have n2_63 : g2 ≠ g63 := Nat.ne_of_lt (Nat.lt_of_lt_of_le q2.lt hg63)
            have n6_63 : g6 ≠ g63 := Nat.ne_of_lt (Nat.lt_of_lt_of_le q6.lt hg63)
            have bhbw_63 := Nat.le_trans hbw.size hg63
            have bhb1_63 := Nat.le_trans hb1.size hg63
            have bhb2_63 := Nat.le_trans hb2.size hg63
            have bhbT_63 := Nat.le_trans hbT.size hg63
            replace q1 := q1.below hb63 q1.lt
            replace q2 := q2.below hb63 q2.lt
            replace q6 := q6.below hb63 q6.lt
            replace hbw := Below.on hbw hb63 hbw.size
            replace hb1 := Below.on hb1 hb63 hb1.size
            replace hb2 := Below.on hb2 hb63 hb2.size
            replace hbT := Below.on hbT hb63 hbT.size
            clear hb63 hg63 hl63
            refine EL.store rfl rfl q63 sz_54 rfl rfl rfl rfl ?_
            intro w64 hq64 hg64
            replace q1 := q1.grown hg64 (fun h => n1_63 (Option.some.inj h))
            replace q2 := q2.grown hg64 (fun h => n2_63 (Option.some.inj h))
            replace q6 := q6.grown hg64 (fun h => n6_63 (Option.some.inj h))
            replace hbw := below_store hbw hg64 bhbw_63
            replace hb1 := below_store hb1 hg64 bhb1_63
            replace hb2 := below_store hb2 hg64 bhb2_63
            replace hbT := below_store hbT hg64 bhbT_63
            replace q63 := hq64
            clear hg64 hq64
            refine EL.val (x_assign rfl) rfl ?_
            refine EL.nil ?_
            refine EX.seq ?_
            refine EC.seq ?_
            refine EC.seq ?_
            refine EC.region ?_
            refine EL.val (ld_25 rfl (q6.at (j := 0) rfl) (q6.at (j := 1) rfl) (q6.at (j := 2) rfl)) rfl ?_
            refine EL.val (ld_25 rfl (q1.at (j := 0) rfl) (q1.at (j := 1) rfl) (q1.at (j := 2) rfl)) rfl ?_
            refine EL.call (cl_22 rfl rfl) rfl (unchanged_same c hsm _ _ _ _ ws vs _ _ ((hrc.below hb1).more hsz12) ((hr.below (hbw.mono hB)).more (Nat.le_trans hB hsw)) ) ?_
            rintro e w65 ⟨rfl, hc65⟩
            refine ⟨_, rfl, ?_⟩
            replace q1 := q1.below hc65 q1.lt
            replace q2 := q2.below hc65 q2.lt
            replace q6 := q6.below hc65 q6.lt
            replace q63 := q63.below hc65 q63.lt
            replace hbw := Below.on hbw hc65 hbw.size
            replace hb1 := Below.on hb1 hc65 hb1.size
            replace hb2 := Below.on hb2 hc65 hb2.size
            replace hbT := Below.on hbT hc65 hbT.size
            clear hc65
            refine EL.val (x_not rfl) rfl ?_
            refine EL.val (x_move rfl) rfl ?_
            refine EL.valg rfl rfl (x_move rfl) rfl ?_
            refine EL.valg rfl rfl (x_move rfl) rfl ?_
            refine EL.callg rfl rfl (cl_29 rfl rfl) rfl (equal_same l _ _ _ _ (hrl2.below hb2) ((hrl.below (hbw.mono hB)).more (Nat.le_trans hB hsw)) hb2.size (by omega)) ?_
            rintro e w66 ⟨rfl, hc66⟩
            refine ⟨_, rfl, ?_⟩
            replace q1 := q1.below hc66 q1.lt
            replace q2 := q2.below hc66 q2.lt
            replace q6 := q6.below hc66 q6.lt
            replace q63 := q63.below hc66 q63.lt
            replace hbw := Below.on hbw hc66 hbw.size
            replace hb1 := Below.on hb1 hc66 hb1.size
            replace hb2 := Below.on hb2 hc66 hb2.size
            replace hbT := Below.on hbT hc66 hbT.size
            clear hc66
            refine EL.valg rfl rfl (x_not rfl) rfl ?_
            refine EL.val (x_pick_f rfl rfl) rfl ?_
            refine EL.val (x_move rfl) rfl ?_
            refine EL.valg rfl rfl (x_move rfl) rfl ?_
            refine EL.valg rfl rfl (x_eql (r := true) rfl rfl (by decide)) rfl ?_
            refine EL.valg rfl rfl (ld_25 rfl (q1.at (j := 0) rfl) (q1.at (j := 1) rfl) (q1.at (j := 2) rfl)) rfl ?_
            refine EL.callg rfl rfl (cl_19 rfl) rfl (rcase_any c _ _ vs _ B (hr.below (hbw.mono hB)) (Nat.le_trans hB hbw.size) hn1 hn2 hcb) ?_
            rintro e w67 ⟨rfl, hc67⟩
            refine ⟨_, rfl, ?_⟩
            replace q1 := q1.below hc67 q1.lt
            replace q2 := q2.below hc67 q2.lt
            replace q6 := q6.below hc67 q6.lt
            replace q63 := q63.below hc67 q63.lt
            replace hbw := Below.on hbw hc67 hbw.size
            replace hb1 := Below.on hb1 hc67 hb1.size
            replace hb2 := Below.on hb2 hc67 hb2.size
            replace hbT := Below.on hbT hc67 hbT.size
            clear hc67
            refine EL.valg rfl rfl (neq_bool rfl rfl rfl) rfl ?_
            refine EL.val (x_pick_f rfl rfl) rfl ?_
            refine EL.val (x_move rfl) rfl ?_
            refine EL.valg rfl rfl (x_move rfl) rfl ?_
            refine EL.valg rfl rfl (x_neq (r := false) rfl rfl (by decide)) rfl ?_
            refine EL.valg rfl rfl (x_move rfl) rfl ?_
            refine EL.skip rfl rfl rfl rfl ?_
            refine EL.skip rfl rfl rfl rfl ?_
            refine EL.valg rfl rfl (x_pick_f rfl rfl) rfl ?_
            refine EL.val (x_pick_f rfl rfl) rfl ?_
            refine EL.nil ?_
            refine EX.seq ?_
            refine EC.no rfl ?_
            refine EC.skip ?_
            refine EX.seq ?_
            refine EC.seq ?_
            refine EC.seq ?_
            refine EC.region ?_
            refine EL.val (ld_25 rfl (q1.at (j := 0) rfl) (q1.at (j := 1) rfl) (q1.at (j := 2) rfl)) rfl ?_
            refine EL.val (x_move rfl) rfl ?_
            refine EL.call (cl_16 rfl rfl) rfl (rstart_to hst _ _ vs _ B (hr.below (hbw.mono hB)) (Nat.le_trans hB hbw.size) hn1 hn2 _ (hrl.below (hbw.mono hB)) hnl) ?_
            rintro e w68 ⟨rfl, hc68⟩
            refine ⟨_, rfl, ?_⟩
            replace q1 := q1.below hc68 q1.lt
            replace q2 := q2.below hc68 q2.lt
            replace q6 := q6.below hc68 q6.lt
            replace q63 := q63.below hc68 q63.lt
            replace hbw := Below.on hbw hc68 hbw.size
            replace hb1 := Below.on hb1 hc68 hb1.size
            replace hb2 := Below.on hb2 hc68 hb2.size
            replace hbT := Below.on hbT hc68 hbT.size
            clear hc68
            refine EL.val (x_assign rfl) rfl ?_
            refine EL.nil ?_
            refine EX.seq ?_
            refine EC.seq ?_
            refine EC.region ?_
            refine EL.val (x_move rfl) rfl ?_
            refine EL.val (x_neq (r := false) rfl rfl (by decide)) rfl ?_
            refine EL.nil ?_
            refine EX.seq ?_
            refine EC.no rfl ?_
            refine EC.skip ?_
            refine EX.seq ?_
            refine EC.seq ?_
            refine EC.region ?_
            refine EL.val (ld_25 rfl (q1.at (j := 0) rfl) (q1.at (j := 1) rfl) (q1.at (j := 2) rfl)) rfl ?_
            refine EL.val (x_move rfl) rfl ?_
            refine EL.call (cl_17 rfl rfl) rfl (rpossible_to hok _ _ vs _ B (hr.below (hbw.mono hB)) (Nat.le_trans hB hbw.size) hn1 hn2 _ (hrl.below (hbw.mono hB)) hcb hcr.neg hbd) ?_
            rintro e w69 ⟨rfl, hc69⟩
            refine ⟨_, rfl, ?_⟩
            replace q1 := q1.below hc69 q1.lt
            replace q2 := q2.below hc69 q2.lt
            replace q6 := q6.below hc69 q6.lt
            replace q63 := q63.below hc69 q63.lt
            replace hbw := Below.on hbw hc69 hbw.size
            replace hb1 := Below.on hb1 hc69 hb1.size
            replace hb2 := Below.on hb2 hc69 hb2.size
            replace hbT := Below.on hbT hc69 hbT.size
            clear hc69
            refine EL.val (x_assign rfl) rfl ?_
            refine EL.nil ?_
            refine EX.seq ?_
            refine EC.seq ?_
            refine EC.seq ?_
            refine EC.region ?_
            refine EL.val (x_move rfl) rfl ?_
            refine EL.val (x_neq (r := false) rfl rfl (by decide)) rfl ?_
            refine EL.val (x_move rfl) rfl ?_
            refine EL.valg rfl rfl (x_move rfl) rfl ?_
            refine EL.valg rfl rfl (x_move rfl) rfl ?_
            refine EL.valg rfl rfl (neq_bool rfl rfl rfl) rfl ?_
            refine EL.val (x_pick_f rfl rfl) rfl ?_
            refine EL.nil ?_
            refine EX.seq ?_
            refine EC.no rfl ?_
            refine EC.skip ?_
            refine EX.seq ?_
            refine EC.seq ?_
            refine EC.seq ?_
            refine EC.region ?_
            refine EL.val (ixa_47 (k := 0) rfl rfl (by omega)) rfl ?_
            refine EL.val (ld_3 rfl (q2.at (j := 0) rfl)) rfl ?_
            refine EL.val (fa_25_0 rfl) rfl ?_
            refine EL.val (ld_3 rfl (q1.at (j := 0) rfl)) rfl ?_
            refine EL.val (x_sub rfl rfl (by first | assumption | exact IntWalk.i64_in _ ⟨by omega, by omega⟩)) rfl ?_
            refine EL.call (cl_30 rfl rfl rfl) rfl (rin_any _ hinx) ?_
            rintro e w70 ⟨rfl, hc70⟩
            refine ⟨_, rfl, ?_⟩
            replace q1 := q1.below hc70 q1.lt
            replace q2 := q2.below hc70 q2.lt
            replace q6 := q6.below hc70 q6.lt
            replace q63 := q63.below hc70 q63.lt
            replace hbw := Below.on hbw hc70 hbw.size
            replace hb1 := Below.on hb1 hc70 hb1.size
            replace hb2 := Below.on hb2 hc70 hb2.size
            replace hbT := Below.on hbT hc70 hbT.size
            clear hc70
            refine EL.val (x_not rfl) rfl ?_
            refine EL.val (x_move rfl) rfl ?_
            refine EL.skip rfl rfl rfl rfl ?_
            refine EL.skip rfl rfl rfl rfl ?_
            refine EL.skip rfl rfl rfl rfl ?_
            refine EL.skip rfl rfl rfl rfl ?_
            refine EL.skip rfl rfl rfl rfl ?_
            refine EL.skip rfl rfl rfl rfl ?_
            refine EL.skip rfl rfl rfl rfl ?_
            refine EL.val (x_pick_t rfl rfl) rfl ?_
            refine EL.val (x_assign rfl) rfl ?_
            refine EL.nil ?_
            refine EX.seq ?_
            refine EC.seq ?_
            refine EC.region ?_
            refine EL.val (x_move rfl) rfl ?_
            refine EL.val (x_move rfl) rfl ?_
            refine EL.skip rfl rfl rfl rfl ?_
            refine EL.skip rfl rfl rfl rfl ?_
            refine EL.val (x_pick_t rfl rfl) rfl ?_
            refine EL.nil ?_
            refine EX.seq ?_
            refine EC.yes rfl ?_
            refine EC.seq ?_
            refine EC.region ?_
            refine EL.val (x_assign rfl) rfl ?_
            refine EL.nil ?_
            refine EX.seq ?_
            refine EC.seq ?_
            refine EC.seq ?_
            refine EC.region ?_
            refine EL.val (x_move rfl) rfl ?_
            refine EL.nil ?_
            refine EX.seq ?_
            refine EC.yes rfl ?_
            refine EC.region ?_
            refine EL.val (x_assign rfl) rfl ?_
            refine EL.nil ?_
            refine EX.seq ?_
            refine EC.seq ?_
            refine EC.region ?_
            refine EL.val (x_move rfl) rfl ?_
            refine EL.val (x_move rfl) rfl ?_
            refine EL.val (x_neq (r := false) rfl rfl (by decide)) rfl ?_
            refine EL.val (x_move rfl) rfl ?_
            refine EL.valg rfl rfl (ld_54 rfl (q63.at (j := 0) rfl) (q63.at (j := 1) rfl)) rfl ?_
            refine EL.valg rfl rfl (bd_54_) rfl ?_
            refine EL.valg rfl rfl (neq_54 (r := false) rfl rfl (by simp [bd0])) rfl ?_
            refine EL.val (x_pick_f rfl rfl) rfl ?_
            refine EL.nil ?_
            refine EX.seq ?_
            refine EC.no rfl ?_
            refine EC.skip ?_
            refine EX.seq ?_
            refine EC.seq ?_
            refine EC.seq ?_
            refine EC.region ?_
            refine EL.val (x_move rfl) rfl ?_
            refine EL.val (x_not rfl) rfl ?_
            refine EL.nil ?_
            refine EX.seq ?_
            refine EC.yes rfl ?_
            refine EC.seq ?_
            refine EC.region ?_
            refine EL.val (x_move rfl) rfl ?_
            refine EL.val (x_eql (r := true) rfl rfl (by decide)) rfl ?_
            refine EL.val (x_move rfl) rfl ?_
            refine EL.valg rfl rfl (x_move rfl) rfl ?_
            refine EL.valg rfl rfl (ln_22 rfl) rfl ?_
            refine EL.valg rfl rfl (x_eql (r := true) rfl rfl (decide_eq_true rfl)) rfl ?_
            refine EL.val (x_pick_t rfl rfl) rfl ?_
            refine EL.val (x_move rfl) rfl ?_
            refine EL.callg rfl rfl cl_12 rfl (known_any _) ?_
            rintro e w71 ⟨rfl, hc71⟩
            refine ⟨_, rfl, ?_⟩
            replace q1 := q1.below hc71 q1.lt
            replace q2 := q2.below hc71 q2.lt
            replace q6 := q6.below hc71 q6.lt
            replace q63 := q63.below hc71 q63.lt
            replace hbw := Below.on hbw hc71 hbw.size
            replace hb1 := Below.on hb1 hc71 hb1.size
            replace hb2 := Below.on hb2 hc71 hb2.size
            replace hbT := Below.on hbT hc71 hbT.size
            clear hc71
            refine EL.val (x_pick_t rfl rfl) rfl ?_
            refine EL.val (x_assign rfl) rfl ?_
            refine EL.nil ?_
            refine EX.seq ?_
            refine EC.ret ?_
            refine EX.seq_ret ?_
            exact EX.done (res1 rfl rfl) ⟨rfl, hbw⟩
          ·
            have hin : (inB 0 (c.events - 1) x && inB 0 (c.events - 1) y) = false := by rw [hinx, hiny]; rfl
            refine EL.call (cl_28 rfl rfl rfl rfl) rfl (between_to (btw_none hst hin).1 (btw_none hst hin).2 _ _ ws _ _ ((hrc.below hb1).more hsz12) hb2.size hn1 hn2 _ (hrl2.below hb2) hnl) ?_
            rintro e w72 ⟨rfl, hc72⟩
            refine ⟨_, rfl, ?_⟩
            replace q1 := q1.below hc72 q1.lt
            replace q2 := q2.below hc72 q2.lt
            replace q6 := q6.below hc72 q6.lt
            replace hbw := Below.on hbw hc72 hbw.size
            replace hb1 := Below.on hb1 hc72 hb1.size
            replace hb2 := Below.on hb2 hc72 hb2.size
            replace hbT := Below.on hbT hc72 hbT.size
            clear hc72
            refine EL.val (x_move rfl) rfl ?_
            refine EL.val (x_extract rfl rfl) rfl ?_
            refine EL.val (x_extract rfl rfl) rfl ?_
            refine EL.newP al_54 rfl ?_
            intro g73 w73 q73 hb73 hg73 hl73
            have n1_73 : g1 ≠ g73 := Nat.ne_of_lt (Nat.lt_of_lt_of_le q1.lt hg73)
            have n2_73 : g2 ≠ g73 := Nat.ne_of_lt (Nat.lt_of_lt_of_le q2.lt hg73)
            have n6_73 : g6 ≠ g73 := Nat.ne_of_lt (Nat.lt_of_lt_of_le q6.lt hg73)
            have bhbw_73 := Nat.le_trans hbw.size hg73
            have bhb1_73 := Nat.le_trans hb1.size hg73
            have bhb2_73 := Nat.le_trans hb2.size hg73
            have bhbT_73 := Nat.le_trans hbT.size hg73
            replace q1 := q1.below hb73 q1.lt
            replace q2 := q2.below hb73 q2.lt
            replace q6 := q6.below hb73 q6.lt
            replace hbw := Below.on hbw hb73 hbw.size
            replace hb1 := Below.on hb1 hb73 hb1.size
            replace hb2 := Below.on hb2 hb73 hb2.size
            replace hbT := Below.on hbT hb73 hbT.size
            clear hb73 hg73 hl73
            refine EL.store rfl rfl q73 sz_54 rfl rfl rfl rfl ?_
            intro w74 hq74 hg74
            replace q1 := q1.grown hg74 (fun h => n1_73 (Option.some.inj h))
            replace q2 := q2.grown hg74 (fun h => n2_73 (Option.some.inj h))
            replace q6 := q6.grown hg74 (fun h => n6_73 (Option.some.inj h))
            replace hbw := below_store hbw hg74 bhbw_73
            replace hb1 := below_store hb1 hg74 bhb1_73
            replace hb2 := below_store hb2 hg74 bhb2_73
            replace hbT := below_store hbT hg74 bhbT_73
            replace q73 := hq74
            clear hg74 hq74
            refine EL.val (x_assign rfl) rfl ?_
            refine EL.nil ?_
            refine EX.seq ?_
            refine EC.seq ?_
            refine EC.seq ?_
            refine EC.region ?_
            refine EL.val (ld_25 rfl (q6.at (j := 0) rfl) (q6.at (j := 1) rfl) (q6.at (j := 2) rfl)) rfl ?_
            refine EL.val (ld_25 rfl (q1.at (j := 0) rfl) (q1.at (j := 1) rfl) (q1.at (j := 2) rfl)) rfl ?_
            refine EL.call (cl_22 rfl rfl) rfl (unchanged_same c hsm _ _ _ _ ws vs _ _ ((hrc.below hb1).more hsz12) ((hr.below (hbw.mono hB)).more (Nat.le_trans hB hsw)) ) ?_
            rintro e w75 ⟨rfl, hc75⟩
            refine ⟨_, rfl, ?_⟩
            replace q1 := q1.below hc75 q1.lt
            replace q2 := q2.below hc75 q2.lt
            replace q6 := q6.below hc75 q6.lt
            replace q73 := q73.below hc75 q73.lt
            replace hbw := Below.on hbw hc75 hbw.size
            replace hb1 := Below.on hb1 hc75 hb1.size
            replace hb2 := Below.on hb2 hc75 hb2.size
            replace hbT := Below.on hbT hc75 hbT.size
            clear hc75
            refine EL.val (x_not rfl) rfl ?_
            refine EL.val (x_move rfl) rfl ?_
            refine EL.valg rfl rfl (x_move rfl) rfl ?_
            refine EL.valg rfl rfl (x_move rfl) rfl ?_
            refine EL.callg rfl rfl (cl_29 rfl rfl) rfl (equal_same l _ _ _ _ (hrl2.below hb2) ((hrl.below (hbw.mono hB)).more (Nat.le_trans hB hsw)) hb2.size (by omega)) ?_
            rintro e w76 ⟨rfl, hc76⟩
            refine ⟨_, rfl, ?_⟩
            replace q1 := q1.below hc76 q1.lt
            replace q2 := q2.below hc76 q2.lt
            replace q6 := q6.below hc76 q6.lt
            replace q73 := q73.below hc76 q73.lt
            replace hbw := Below.on hbw hc76 hbw.size
            replace hb1 := Below.on hb1 hc76 hb1.size
            replace hb2 := Below.on hb2 hc76 hb2.size
            replace hbT := Below.on hbT hc76 hbT.size
            clear hc76
            refine EL.valg rfl rfl (x_not rfl) rfl ?_
            refine EL.val (x_pick_f rfl rfl) rfl ?_
            refine EL.val (x_move rfl) rfl ?_
            refine EL.valg rfl rfl (x_move rfl) rfl ?_
            refine EL.valg rfl rfl (x_eql (r := true) rfl rfl (by decide)) rfl ?_
            refine EL.valg rfl rfl (ld_25 rfl (q1.at (j := 0) rfl) (q1.at (j := 1) rfl) (q1.at (j := 2) rfl)) rfl ?_
            refine EL.callg rfl rfl (cl_19 rfl) rfl (rcase_any c _ _ vs _ B (hr.below (hbw.mono hB)) (Nat.le_trans hB hbw.size) hn1 hn2 hcb) ?_
            rintro e w77 ⟨rfl, hc77⟩
            refine ⟨_, rfl, ?_⟩
            replace q1 := q1.below hc77 q1.lt
            replace q2 := q2.below hc77 q2.lt
            replace q6 := q6.below hc77 q6.lt
            replace q73 := q73.below hc77 q73.lt
            replace hbw := Below.on hbw hc77 hbw.size
            replace hb1 := Below.on hb1 hc77 hb1.size
            replace hb2 := Below.on hb2 hc77 hb2.size
            replace hbT := Below.on hbT hc77 hbT.size
            clear hc77
            refine EL.valg rfl rfl (neq_bool rfl rfl rfl) rfl ?_
            refine EL.val (x_pick_f rfl rfl) rfl ?_
            refine EL.val (x_move rfl) rfl ?_
            refine EL.valg rfl rfl (x_move rfl) rfl ?_
            refine EL.valg rfl rfl (x_neq (r := false) rfl rfl (by decide)) rfl ?_
            refine EL.valg rfl rfl (x_move rfl) rfl ?_
            refine EL.skip rfl rfl rfl rfl ?_
            refine EL.skip rfl rfl rfl rfl ?_
            refine EL.valg rfl rfl (x_pick_f rfl rfl) rfl ?_
            refine EL.val (x_pick_f rfl rfl) rfl ?_
            refine EL.nil ?_
            refine EX.seq ?_
            refine EC.no rfl ?_
            refine EC.skip ?_
            refine EX.seq ?_
            refine EC.seq ?_
            refine EC.seq ?_
            refine EC.region ?_
            refine EL.val (ld_25 rfl (q1.at (j := 0) rfl) (q1.at (j := 1) rfl) (q1.at (j := 2) rfl)) rfl ?_
            refine EL.val (x_move rfl) rfl ?_
            refine EL.call (cl_16 rfl rfl) rfl (rstart_to hst _ _ vs _ B (hr.below (hbw.mono hB)) (Nat.le_trans hB hbw.size) hn1 hn2 _ (hrl.below (hbw.mono hB)) hnl) ?_
            rintro e w78 ⟨rfl, hc78⟩
            refine ⟨_, rfl, ?_⟩
            replace q1 := q1.below hc78 q1.lt
            replace q2 := q2.below hc78 q2.lt
            replace q6 := q6.below hc78 q6.lt
            replace q73 := q73.below hc78 q73.lt
            replace hbw := Below.on hbw hc78 hbw.size
            replace hb1 := Below.on hb1 hc78 hb1.size
            replace hb2 := Below.on hb2 hc78 hb2.size
            replace hbT := Below.on hbT hc78 hbT.size
            clear hc78
            refine EL.val (x_assign rfl) rfl ?_
            refine EL.nil ?_
            refine EX.seq ?_
            refine EC.seq ?_
            refine EC.region ?_
            refine EL.val (x_move rfl) rfl ?_
            refine EL.val (x_neq (r := false) rfl rfl (by decide)) rfl ?_
            refine EL.nil ?_
            refine EX.seq ?_
            refine EC.no rfl ?_
            refine EC.skip ?_
            refine EX.seq ?_
            refine EC.seq ?_
            refine EC.region ?_
            refine EL.val (ld_25 rfl (q1.at (j := 0) rfl) (q1.at (j := 1) rfl) (q1.at (j := 2) rfl)) rfl ?_
            refine EL.val (x_move rfl) rfl ?_
            refine EL.call (cl_17 rfl rfl) rfl (rpossible_to hok _ _ vs _ B (hr.below (hbw.mono hB)) (Nat.le_trans hB hbw.size) hn1 hn2 _ (hrl.below (hbw.mono hB)) hcb hcr.neg hbd) ?_
            rintro e w79 ⟨rfl, hc79⟩
            refine ⟨_, rfl, ?_⟩
            replace q1 := q1.below hc79 q1.lt
            replace q2 := q2.below hc79 q2.lt
            replace q6 := q6.below hc79 q6.lt
            replace q73 := q73.below hc79 q73.lt
            replace hbw := Below.on hbw hc79 hbw.size
            replace hb1 := Below.on hb1 hc79 hb1.size
            replace hb2 := Below.on hb2 hc79 hb2.size
            replace hbT := Below.on hbT hc79 hbT.size
            clear hc79
            refine EL.val (x_assign rfl) rfl ?_
            refine EL.nil ?_
            refine EX.seq ?_
            refine EC.seq ?_
            refine EC.seq ?_
            refine EC.region ?_
            refine EL.val (x_move rfl) rfl ?_
            refine EL.val (x_neq (r := false) rfl rfl (by decide)) rfl ?_
            refine EL.val (x_move rfl) rfl ?_
            refine EL.valg rfl rfl (x_move rfl) rfl ?_
            refine EL.valg rfl rfl (x_move rfl) rfl ?_
            refine EL.valg rfl rfl (neq_bool rfl rfl rfl) rfl ?_
            refine EL.val (x_pick_f rfl rfl) rfl ?_
            refine EL.nil ?_
            refine EX.seq ?_
            refine EC.no rfl ?_
            refine EC.skip ?_
            refine EX.seq ?_
            refine EC.seq ?_
            refine EC.seq ?_
            refine EC.region ?_
            refine EL.val (ixa_47 (k := 0) rfl rfl (by omega)) rfl ?_
            refine EL.val (ld_3 rfl (q2.at (j := 0) rfl)) rfl ?_
            refine EL.val (fa_25_0 rfl) rfl ?_
            refine EL.val (ld_3 rfl (q1.at (j := 0) rfl)) rfl ?_
            refine EL.val (x_sub rfl rfl (by first | assumption | exact IntWalk.i64_in _ ⟨by omega, by omega⟩)) rfl ?_
            refine EL.call (cl_30 rfl rfl rfl) rfl (rin_any _ hinx) ?_
            rintro e w80 ⟨rfl, hc80⟩
            refine ⟨_, rfl, ?_⟩
            replace q1 := q1.below hc80 q1.lt
            replace q2 := q2.below hc80 q2.lt
            replace q6 := q6.below hc80 q6.lt
            replace q73 := q73.below hc80 q73.lt
            replace hbw := Below.on hbw hc80 hbw.size
            replace hb1 := Below.on hb1 hc80 hb1.size
            replace hb2 := Below.on hb2 hc80 hb2.size
            replace hbT := Below.on hbT hc80 hbT.size
            clear hc80
            refine EL.val (x_not rfl) rfl ?_
            refine EL.val (x_move rfl) rfl ?_
            refine EL.valg rfl rfl (ixa_47 (k := 1) rfl rfl (by omega)) rfl ?_
            refine EL.valg rfl rfl (ld_3 rfl (q2.at (j := 1) rfl)) rfl ?_
            refine EL.valg rfl rfl (fa_25_0 rfl) rfl ?_
            refine EL.valg rfl rfl (ld_3 rfl (q1.at (j := 0) rfl)) rfl ?_
            refine EL.valg rfl rfl (x_sub rfl rfl (by first | assumption | exact IntWalk.i64_in _ ⟨by omega, by omega⟩)) rfl ?_
            refine EL.callg rfl rfl (cl_30 rfl rfl rfl) rfl (rin_any _ hiny) ?_
            rintro e w81 ⟨rfl, hc81⟩
            refine ⟨_, rfl, ?_⟩
            replace q1 := q1.below hc81 q1.lt
            replace q2 := q2.below hc81 q2.lt
            replace q6 := q6.below hc81 q6.lt
            replace q73 := q73.below hc81 q73.lt
            replace hbw := Below.on hbw hc81 hbw.size
            replace hb1 := Below.on hb1 hc81 hb1.size
            replace hb2 := Below.on hb2 hc81 hb2.size
            replace hbT := Below.on hbT hc81 hbT.size
            clear hc81
            refine EL.valg rfl rfl (x_not rfl) rfl ?_
            refine EL.val (x_pick_f rfl rfl) rfl ?_
            refine EL.val (x_assign rfl) rfl ?_
            refine EL.nil ?_
            refine EX.seq ?_
            refine EC.seq ?_
            refine EC.region ?_
            refine EL.val (x_move rfl) rfl ?_
            refine EL.val (x_move rfl) rfl ?_
            refine EL.skip rfl rfl rfl rfl ?_
            refine EL.skip rfl rfl rfl rfl ?_
            refine EL.val (x_pick_t rfl rfl) rfl ?_
            refine EL.nil ?_
            refine EX.seq ?_
            refine EC.yes rfl ?_
            refine EC.seq ?_
            refine EC.region ?_
            refine EL.val (x_assign rfl) rfl ?_
            refine EL.nil ?_
            refine EX.seq ?_
            refine EC.seq ?_
            refine EC.seq ?_
            refine EC.region ?_
            refine EL.val (x_move rfl) rfl ?_
            refine EL.nil ?_
            refine EX.seq ?_
            refine EC.yes rfl ?_
            refine EC.region ?_
            refine EL.val (x_assign rfl) rfl ?_
            refine EL.nil ?_
            refine EX.seq ?_
            refine EC.seq ?_
            refine EC.region ?_
            refine EL.val (x_move rfl) rfl ?_
            refine EL.val (x_move rfl) rfl ?_
            refine EL.val (x_neq (r := false) rfl rfl (by decide)) rfl ?_
            refine EL.val (x_move rfl) rfl ?_
            refine EL.valg rfl rfl (ld_54 rfl (q73.at (j := 0) rfl) (q73.at (j := 1) rfl)) rfl ?_
            refine EL.valg rfl rfl (bd_54_) rfl ?_
            refine EL.valg rfl rfl (neq_54 (r := false) rfl rfl (by simp [bd0])) rfl ?_
            refine EL.val (x_pick_f rfl rfl) rfl ?_
            refine EL.nil ?_
            refine EX.seq ?_
            refine EC.no rfl ?_
            refine EC.skip ?_
            refine EX.seq ?_
            refine EC.seq ?_
            refine EC.seq ?_
            refine EC.region ?_
            refine EL.val (x_move rfl) rfl ?_
            refine EL.val (x_not rfl) rfl ?_
            refine EL.nil ?_
            refine EX.seq ?_
            refine EC.yes rfl ?_
            refine EC.seq ?_
            refine EC.region ?_
            refine EL.val (x_move rfl) rfl ?_
            refine EL.val (x_eql (r := true) rfl rfl (by decide)) rfl ?_
            refine EL.val (x_move rfl) rfl ?_
            refine EL.valg rfl rfl (x_move rfl) rfl ?_
            refine EL.valg rfl rfl (ln_22 rfl) rfl ?_
            refine EL.valg rfl rfl (x_eql (r := true) rfl rfl (decide_eq_true rfl)) rfl ?_
            refine EL.val (x_pick_t rfl rfl) rfl ?_
            refine EL.val (x_move rfl) rfl ?_
            refine EL.callg rfl rfl cl_12 rfl (known_any _) ?_
            rintro e w82 ⟨rfl, hc82⟩
            refine ⟨_, rfl, ?_⟩
            replace q1 := q1.below hc82 q1.lt
            replace q2 := q2.below hc82 q2.lt
            replace q6 := q6.below hc82 q6.lt
            replace q73 := q73.below hc82 q73.lt
            replace hbw := Below.on hbw hc82 hbw.size
            replace hb1 := Below.on hb1 hc82 hb1.size
            replace hb2 := Below.on hb2 hc82 hb2.size
            replace hbT := Below.on hbT hc82 hbT.size
            clear hc82
            refine EL.val (x_pick_t rfl rfl) rfl ?_
            refine EL.val (x_assign rfl) rfl ?_
            refine EL.nil ?_
            refine EX.seq ?_
            refine EC.ret ?_
            refine EX.seq_ret ?_
            exact EX.done (res1 rfl rfl) ⟨rfl, hbw⟩
          ·
            have hin : (inB 0 (c.events - 1) x && inB 0 (c.events - 1) y) = true := by rw [hinx, hiny]; rfl
            obtain ⟨xn, rfl⟩ : ∃ n : Nat, x = n := ⟨x.toNat, by have := inB_iff.1 hinx; omega⟩
            obtain ⟨yn, rfl⟩ : ∃ n : Nat, y = n := ⟨y.toNat, by have := inB_iff.1 hiny; omega⟩
            have hxn : 1 + xn < nOf c := by have := inB_iff.1 hinx; unfold nOf; omega
            have hyn : 1 + yn < nOf c := by have := inB_iff.1 hiny; unfold nOf; omega
            refine EL.call (cl_28 rfl rfl rfl rfl) rfl (between_to (btw_fit hst hin hfit).1 (btw_fit hst hin hfit).2 _ _ ws _ _ ((hrc.below hb1).more hsz12) hb2.size hn1 hn2 _ (hrl2.below hb2) hnl) ?_
            rintro e w83 ⟨rfl, hc83⟩
            refine ⟨_, rfl, ?_⟩
            replace q1 := q1.below hc83 q1.lt
            replace q2 := q2.below hc83 q2.lt
            replace q6 := q6.below hc83 q6.lt
            replace hbw := Below.on hbw hc83 hbw.size
            replace hb1 := Below.on hb1 hc83 hb1.size
            replace hb2 := Below.on hb2 hc83 hb2.size
            replace hbT := Below.on hbT hc83 hbT.size
            clear hc83
            refine EL.val (x_move rfl) rfl ?_
            refine EL.val (x_extract rfl rfl) rfl ?_
            refine EL.val (x_extract rfl rfl) rfl ?_
            refine EL.newP al_54 rfl ?_
            intro g84 w84 q84 hb84 hg84 hl84
            have n1_84 : g1 ≠ g84 := Nat.ne_of_lt (Nat.lt_of_lt_of_le q1.lt hg84)
            have n2_84 : g2 ≠ g84 := Nat.ne_of_lt (Nat.lt_of_lt_of_le q2.lt hg84)
            have n6_84 : g6 ≠ g84 := Nat.ne_of_lt (Nat.lt_of_lt_of_le q6.lt hg84)
            have bhbw_84 := Nat.le_trans hbw.size hg84
            have bhb1_84 := Nat.le_trans hb1.size hg84
            have bhb2_84 := Nat.le_trans hb2.size hg84
            have bhbT_84 := Nat.le_trans hbT.size hg84
            replace q1 := q1.below hb84 q1.lt
            replace q2 := q2.below hb84 q2.lt
            replace q6 := q6.below hb84 q6.lt
            replace hbw := Below.on hbw hb84 hbw.size
            replace hb1 := Below.on hb1 hb84 hb1.size
            replace hb2 := Below.on hb2 hb84 hb2.size
            replace hbT := Below.on hbT hb84 hbT.size
            clear hb84 hg84 hl84
            refine EL.store rfl rfl q84 sz_54 rfl rfl rfl rfl ?_
            intro w85 hq85 hg85
            replace q1 := q1.grown hg85 (fun h => n1_84 (Option.some.inj h))
            replace q2 := q2.grown hg85 (fun h => n2_84 (Option.some.inj h))
            replace q6 := q6.grown hg85 (fun h => n6_84 (Option.some.inj h))
            replace hbw := below_store hbw hg85 bhbw_84
            replace hb1 := below_store hb1 hg85 bhb1_84
            replace hb2 := below_store hb2 hg85 bhb2_84
            replace hbT := below_store hbT hg85 bhbT_84
            replace q84 := hq85
            clear hg85 hq85
            refine EL.val (x_assign rfl) rfl ?_
            refine EL.nil ?_
            refine EX.seq ?_
            refine EC.seq ?_
            refine EC.seq ?_
            refine EC.region ?_
            refine EL.val (ld_25 rfl (q6.at (j := 0) rfl) (q6.at (j := 1) rfl) (q6.at (j := 2) rfl)) rfl ?_
            refine EL.val (ld_25 rfl (q1.at (j := 0) rfl) (q1.at (j := 1) rfl) (q1.at (j := 2) rfl)) rfl ?_
            refine EL.call (cl_22 rfl rfl) rfl (unchanged_same c hsm _ _ _ _ ws vs _ _ ((hrc.below hb1).more hsz12) ((hr.below (hbw.mono hB)).more (Nat.le_trans hB hsw)) ) ?_
            rintro e w86 ⟨rfl, hc86⟩
            refine ⟨_, rfl, ?_⟩
            replace q1 := q1.below hc86 q1.lt
            replace q2 := q2.below hc86 q2.lt
            replace q6 := q6.below hc86 q6.lt
            replace q84 := q84.below hc86 q84.lt
            replace hbw := Below.on hbw hc86 hbw.size
            replace hb1 := Below.on hb1 hc86 hb1.size
            replace hb2 := Below.on hb2 hc86 hb2.size
            replace hbT := Below.on hbT hc86 hbT.size
            clear hc86
            refine EL.val (x_not rfl) rfl ?_
            refine EL.val (x_move rfl) rfl ?_
            refine EL.valg rfl rfl (x_move rfl) rfl ?_
            refine EL.valg rfl rfl (x_move rfl) rfl ?_
            refine EL.callg rfl rfl (cl_29 rfl rfl) rfl (equal_same l _ _ _ _ (hrl2.below hb2) ((hrl.below (hbw.mono hB)).more (Nat.le_trans hB hsw)) hb2.size (by omega)) ?_
            rintro e w87 ⟨rfl, hc87⟩
            refine ⟨_, rfl, ?_⟩
            replace q1 := q1.below hc87 q1.lt
            replace q2 := q2.below hc87 q2.lt
            replace q6 := q6.below hc87 q6.lt
            replace q84 := q84.below hc87 q84.lt
            replace hbw := Below.on hbw hc87 hbw.size
            replace hb1 := Below.on hb1 hc87 hb1.size
            replace hb2 := Below.on hb2 hc87 hb2.size
            replace hbT := Below.on hbT hc87 hbT.size
            clear hc87
            refine EL.valg rfl rfl (x_not rfl) rfl ?_
            refine EL.val (x_pick_f rfl rfl) rfl ?_
            refine EL.val (x_move rfl) rfl ?_
            refine EL.valg rfl rfl (x_move rfl) rfl ?_
            refine EL.valg rfl rfl (x_eql (r := true) rfl rfl (by decide)) rfl ?_
            refine EL.valg rfl rfl (ld_25 rfl (q1.at (j := 0) rfl) (q1.at (j := 1) rfl) (q1.at (j := 2) rfl)) rfl ?_
            refine EL.callg rfl rfl (cl_19 rfl) rfl (rcase_any c _ _ vs _ B (hr.below (hbw.mono hB)) (Nat.le_trans hB hbw.size) hn1 hn2 hcb) ?_
            rintro e w88 ⟨rfl, hc88⟩
            refine ⟨_, rfl, ?_⟩
            replace q1 := q1.below hc88 q1.lt
            replace q2 := q2.below hc88 q2.lt
            replace q6 := q6.below hc88 q6.lt
            replace q84 := q84.below hc88 q84.lt
            replace hbw := Below.on hbw hc88 hbw.size
            replace hb1 := Below.on hb1 hc88 hb1.size
            replace hb2 := Below.on hb2 hc88 hb2.size
            replace hbT := Below.on hbT hc88 hbT.size
            clear hc88
            refine EL.valg rfl rfl (neq_bool rfl rfl rfl) rfl ?_
            refine EL.val (x_pick_f rfl rfl) rfl ?_
            refine EL.val (x_move rfl) rfl ?_
            refine EL.valg rfl rfl (x_move rfl) rfl ?_
            refine EL.valg rfl rfl (x_neq (r := false) rfl rfl (by decide)) rfl ?_
            refine EL.valg rfl rfl (x_move rfl) rfl ?_
            refine EL.skip rfl rfl rfl rfl ?_
            refine EL.skip rfl rfl rfl rfl ?_
            refine EL.valg rfl rfl (x_pick_f rfl rfl) rfl ?_
            refine EL.val (x_pick_f rfl rfl) rfl ?_
            refine EL.nil ?_
            refine EX.seq ?_
            refine EC.no rfl ?_
            refine EC.skip ?_
            refine EX.seq ?_
            refine EC.seq ?_
            refine EC.seq ?_
            refine EC.region ?_
            refine EL.val (ld_25 rfl (q1.at (j := 0) rfl) (q1.at (j := 1) rfl) (q1.at (j := 2) rfl)) rfl ?_
            refine EL.val (x_move rfl) rfl ?_
            refine EL.call (cl_16 rfl rfl) rfl (rstart_to hst _ _ vs _ B (hr.below (hbw.mono hB)) (Nat.le_trans hB hbw.size) hn1 hn2 _ (hrl.below (hbw.mono hB)) hnl) ?_
            rintro e w89 ⟨rfl, hc89⟩
            refine ⟨_, rfl, ?_⟩
            replace q1 := q1.below hc89 q1.lt
            replace q2 := q2.below hc89 q2.lt
            replace q6 := q6.below hc89 q6.lt
            replace q84 := q84.below hc89 q84.lt
            replace hbw := Below.on hbw hc89 hbw.size
            replace hb1 := Below.on hb1 hc89 hb1.size
            replace hb2 := Below.on hb2 hc89 hb2.size
            replace hbT := Below.on hbT hc89 hbT.size
            clear hc89
            refine EL.val (x_assign rfl) rfl ?_
            refine EL.nil ?_
            refine EX.seq ?_
            refine EC.seq ?_
            refine EC.region ?_
            refine EL.val (x_move rfl) rfl ?_
            refine EL.val (x_neq (r := false) rfl rfl (by decide)) rfl ?_
            refine EL.nil ?_
            refine EX.seq ?_
            refine EC.no rfl ?_
            refine EC.skip ?_
            refine EX.seq ?_
            refine EC.seq ?_
            refine EC.region ?_
            refine EL.val (ld_25 rfl (q1.at (j := 0) rfl) (q1.at (j := 1) rfl) (q1.at (j := 2) rfl)) rfl ?_
            refine EL.val (x_move rfl) rfl ?_
            refine EL.call (cl_17 rfl rfl) rfl (rpossible_to hok _ _ vs _ B (hr.below (hbw.mono hB)) (Nat.le_trans hB hbw.size) hn1 hn2 _ (hrl.below (hbw.mono hB)) hcb hcr.neg hbd) ?_
            rintro e w90 ⟨rfl, hc90⟩
            refine ⟨_, rfl, ?_⟩
            replace q1 := q1.below hc90 q1.lt
            replace q2 := q2.below hc90 q2.lt
            replace q6 := q6.below hc90 q6.lt
            replace q84 := q84.below hc90 q84.lt
            replace hbw := Below.on hbw hc90 hbw.size
            replace hb1 := Below.on hb1 hc90 hb1.size
            replace hb2 := Below.on hb2 hc90 hb2.size
            replace hbT := Below.on hbT hc90 hbT.size
            clear hc90
            refine EL.val (x_assign rfl) rfl ?_
            refine EL.nil ?_
            refine EX.seq ?_
            refine EC.seq ?_
            refine EC.seq ?_
            refine EC.region ?_
            refine EL.val (x_move rfl) rfl ?_
            refine EL.val (x_neq (r := false) rfl rfl (by decide)) rfl ?_
            refine EL.val (x_move rfl) rfl ?_
            refine EL.valg rfl rfl (x_move rfl) rfl ?_
            refine EL.valg rfl rfl (x_move rfl) rfl ?_
            refine EL.valg rfl rfl (neq_bool rfl rfl rfl) rfl ?_
            refine EL.val (x_pick_f rfl rfl) rfl ?_
            refine EL.nil ?_
            refine EX.seq ?_
            refine EC.no rfl ?_
            refine EC.skip ?_
            refine EX.seq ?_
            refine EC.seq ?_
            refine EC.seq ?_
            refine EC.region ?_
            refine EL.val (ixa_47 (k := 0) rfl rfl (by omega)) rfl ?_
            refine EL.val (ld_3 rfl (q2.at (j := 0) rfl)) rfl ?_
            refine EL.val (fa_25_0 rfl) rfl ?_
            refine EL.val (ld_3 rfl (q1.at (j := 0) rfl)) rfl ?_
            refine EL.val (x_sub rfl rfl (by first | assumption | exact IntWalk.i64_in _ ⟨by omega, by omega⟩)) rfl ?_
            refine EL.call (cl_30 rfl rfl rfl) rfl (rin_any _ hinx) ?_
            rintro e w91 ⟨rfl, hc91⟩
            refine ⟨_, rfl, ?_⟩
            replace q1 := q1.below hc91 q1.lt
            replace q2 := q2.below hc91 q2.lt
            replace q6 := q6.below hc91 q6.lt
            replace q84 := q84.below hc91 q84.lt
            replace hbw := Below.on hbw hc91 hbw.size
            replace hb1 := Below.on hb1 hc91 hb1.size
            replace hb2 := Below.on hb2 hc91 hb2.size
            replace hbT := Below.on hbT hc91 hbT.size
            clear hc91
            refine EL.val (x_not rfl) rfl ?_
            refine EL.val (x_move rfl) rfl ?_
            refine EL.valg rfl rfl (ixa_47 (k := 1) rfl rfl (by omega)) rfl ?_
            refine EL.valg rfl rfl (ld_3 rfl (q2.at (j := 1) rfl)) rfl ?_
            refine EL.valg rfl rfl (fa_25_0 rfl) rfl ?_
            refine EL.valg rfl rfl (ld_3 rfl (q1.at (j := 0) rfl)) rfl ?_
            refine EL.valg rfl rfl (x_sub rfl rfl (by first | assumption | exact IntWalk.i64_in _ ⟨by omega, by omega⟩)) rfl ?_
            refine EL.callg rfl rfl (cl_30 rfl rfl rfl) rfl (rin_any _ hiny) ?_
            rintro e w92 ⟨rfl, hc92⟩
            refine ⟨_, rfl, ?_⟩
            replace q1 := q1.below hc92 q1.lt
            replace q2 := q2.below hc92 q2.lt
            replace q6 := q6.below hc92 q6.lt
            replace q84 := q84.below hc92 q84.lt
            replace hbw := Below.on hbw hc92 hbw.size
            replace hb1 := Below.on hb1 hc92 hb1.size
            replace hb2 := Below.on hb2 hc92 hb2.size
            replace hbT := Below.on hbT hc92 hbT.size
            clear hc92
            refine EL.valg rfl rfl (x_not rfl) rfl ?_
            refine EL.val (x_pick_f rfl rfl) rfl ?_
            refine EL.val (x_assign rfl) rfl ?_
            refine EL.nil ?_
            refine EX.seq ?_
            refine EC.seq ?_
            refine EC.region ?_
            refine EL.val (x_move rfl) rfl ?_
            refine EL.val (x_move rfl) rfl ?_
            refine EL.valg rfl rfl (x_move rfl) rfl ?_
            refine EL.valg rfl rfl (x_not rfl) rfl ?_
            refine EL.val (x_pick_f rfl rfl) rfl ?_
            refine EL.nil ?_
            refine EX.seq ?_
            refine EC.yes rfl ?_
            refine EC.seq ?_
            refine EC.region ?_
            refine EL.val (x_assign rfl) rfl ?_
            refine EL.nil ?_
            refine EX.seq ?_
            refine EC.seq ?_
            refine EC.seq ?_
            refine EC.region ?_
            refine EL.val (x_move rfl) rfl ?_
            refine EL.nil ?_
            refine EX.seq ?_
            refine EC.no rfl ?_
            refine EC.skip ?_
            refine EX.seq ?_
            refine EC.seq ?_
            refine EC.region ?_
            refine EL.val (x_move rfl) rfl ?_
            refine EL.val (x_move rfl) rfl ?_
            refine EL.val (x_neq (r := false) rfl rfl (by decide)) rfl ?_
            refine EL.val (x_move rfl) rfl ?_
            refine EL.valg rfl rfl (ld_54 rfl (q84.at (j := 0) rfl) (q84.at (j := 1) rfl)) rfl ?_
            refine EL.valg rfl rfl (bd_54_) rfl ?_
            refine EL.valg rfl rfl (neq_54 (r := false) rfl rfl (by simp [bd0])) rfl ?_
            refine EL.val (x_pick_f rfl rfl) rfl ?_
            refine EL.nil ?_
            refine EX.seq ?_
            refine EC.no rfl ?_
            refine EC.skip ?_
            refine EX.seq ?_
            refine EC.seq ?_
            refine EC.seq ?_
            refine EC.region ?_
            refine EL.val (x_move rfl) rfl ?_
            refine EL.val (x_not rfl) rfl ?_
            refine EL.nil ?_
            refine EX.seq ?_
            refine EC.yes rfl ?_
            refine EC.seq ?_
            refine EC.region ?_
            refine EL.val (x_move rfl) rfl ?_
            refine EL.val (x_eql (r := true) rfl rfl (by decide)) rfl ?_
            refine EL.val (x_move rfl) rfl ?_
            refine EL.valg rfl rfl (x_move rfl) rfl ?_
            refine EL.valg rfl rfl (ln_22 rfl) rfl ?_
            refine EL.valg rfl rfl (x_eql (r := true) rfl rfl (decide_eq_true rfl)) rfl ?_
            refine EL.val (x_pick_t rfl rfl) rfl ?_
            refine EL.val (x_move rfl) rfl ?_
            refine EL.callg rfl rfl cl_12 rfl (known_any _) ?_
            rintro e w93 ⟨rfl, hc93⟩
            refine ⟨_, rfl, ?_⟩
            replace q1 := q1.below hc93 q1.lt
            replace q2 := q2.below hc93 q2.lt
            replace q6 := q6.below hc93 q6.lt
            replace q84 := q84.below hc93 q84.lt
            replace hbw := Below.on hbw hc93 hbw.size
            replace hb1 := Below.on hb1 hc93 hb1.size
            replace hb2 := Below.on hb2 hc93 hb2.size
            replace hbT := Below.on hbT hc93 hbT.size
            clear hc93
            refine EL.val (x_pick_t rfl rfl) rfl ?_
            refine EL.val (x_assign rfl) rfl ?_
            refine EL.nil ?_
            refine EX.seq ?_
            refine EC.ret ?_
            refine EX.seq_ret ?_
            exact EX.done (res1 rfl rfl) ⟨rfl, hbw⟩
      ·
        have hst : startErr c l ≠ 0 := by rw [startErr, if_pos (by simpa using hcb)]; decide
        refine EL.call (cl_25 rfl) rfl (check_bad hcb _ _ ws _ _ ((hrc.below hb1).more hsz12) hb2.size hn1 hn2) ?_
        rintro e w94 ⟨rfl, hc94⟩
        refine ⟨_, rfl, ?_⟩
        replace q1 := q1.below hc94 q1.lt
        replace q2 := q2.below hc94 q2.lt
        replace q6 := q6.below hc94 q6.lt
        replace hbw := Below.on hbw hc94 hbw.size
        replace hb1 := Below.on hb1 hc94 hb1.size
        replace hb2 := Below.on hb2 hc94 hb2.size
        clear hc94
        refine EL.val (x_assign rfl) rfl ?_
        refine EL.nil ?_
        refine EX.seq ?_
        refine EC.seq ?_
        refine EC.region ?_
        refine EL.val (ld_25 rfl (q6.at (j := 0) rfl) (q6.at (j := 1) rfl) (q6.at (j := 2) rfl)) rfl ?_
        refine EL.val (x_move rfl) rfl ?_
        refine EL.call (cl_26 rfl rfl) rfl (possible_to (poss_bad hst) (E := startErr c l) rfl _ _ ws _ _ ((hrc.below hb1).more hsz12) hb2.size hn1 hn2 _ (hrl2.below hb2) hnl) ?_
        rintro e w95 ⟨rfl, hc95⟩
        refine ⟨_, rfl, ?_⟩
        replace q1 := q1.below hc95 q1.lt
        replace q2 := q2.below hc95 q2.lt
        replace q6 := q6.below hc95 q6.lt
        replace hbw := Below.on hbw hc95 hbw.size
        replace hb1 := Below.on hb1 hc95 hb1.size
        replace hb2 := Below.on hb2 hc95 hb2.size
        clear hc95
        refine EL.val (x_move rfl) rfl ?_
        refine EL.val (x_extract rfl rfl) rfl ?_
        refine EL.val (x_extract rfl rfl) rfl ?_
        refine EL.val (x_assign rfl) rfl ?_
        refine EL.val (x_assign rfl) rfl ?_
        refine EL.nil ?_
        refine EX.seq ?_
        refine EC.seq ?_
        refine EC.region ?_
        refine EL.val (ld_25 rfl (q6.at (j := 0) rfl) (q6.at (j := 1) rfl) (q6.at (j := 2) rfl)) rfl ?_
        refine EL.val (x_move rfl) rfl ?_
        refine EL.call (cl_27 rfl rfl) rfl (times_to (times_start hst).1 (times_start hst).2 _ _ ws _ _ ((hrc.below hb1).more hsz12) hb2.size hn1 hn2 _ (hrl2.below hb2) hnl) ?_
        rintro e w96 ⟨⟨vT, rfl, hrT⟩, hc96⟩
        refine ⟨_, rfl, ?_⟩
        replace q1 := q1.below hc96 q1.lt
        replace q2 := q2.below hc96 q2.lt
        replace q6 := q6.below hc96 q6.lt
        replace hbw := Below.on hbw hc96 hbw.size
        replace hb1 := Below.on hb1 hc96 hb1.size
        replace hb2 := Below.on hb2 hc96 hb2.size
        clear hc96
        obtain ⟨AT, cT, rfl, _⟩ := hrT.shape
        have hbT := Below.refl w96.heap.size w96
        refine EL.val (x_move rfl) rfl ?_
        refine EL.val (x_extract rfl rfl) rfl ?_
        refine EL.val (x_extract rfl rfl) rfl ?_
        refine EL.val (x_assign rfl) rfl ?_
        refine EL.val (x_assign rfl) rfl ?_
        refine EL.nil ?_
        refine EX.seq ?_
        refine EC.seq ?_
        refine EC.region ?_
        refine EL.val (ld_25 rfl (q6.at (j := 0) rfl) (q6.at (j := 1) rfl) (q6.at (j := 2) rfl)) rfl ?_
        refine EL.val (x_move rfl) rfl ?_
        refine EL.val (ixa_47 (k := 0) rfl rfl (by omega)) rfl ?_
        refine EL.val (ld_3 rfl (q2.at (j := 0) rfl)) rfl ?_
        refine EL.val (ixa_47 (k := 1) rfl rfl (by omega)) rfl ?_
        refine EL.val (ld_3 rfl (q2.at (j := 1) rfl)) rfl ?_
        refine EL.call (cl_28 rfl rfl rfl rfl) rfl (between_to (btw_start hst).1 (btw_start hst).2 _ _ ws _ _ ((hrc.below hb1).more hsz12) hb2.size hn1 hn2 _ (hrl2.below hb2) hnl) ?_
        rintro e w97 ⟨rfl, hc97⟩
        refine ⟨_, rfl, ?_⟩
        replace q1 := q1.below hc97 q1.lt
        replace q2 := q2.below hc97 q2.lt
        replace q6 := q6.below hc97 q6.lt
        replace hbw := Below.on hbw hc97 hbw.size
        replace hb1 := Below.on hb1 hc97 hb1.size
        replace hb2 := Below.on hb2 hc97 hb2.size
        replace hbT := Below.on hbT hc97 hbT.size
        clear hc97
        refine EL.val (x_move rfl) rfl ?_
        refine EL.val (x_extract rfl rfl) rfl ?_
        refine EL.val (x_extract rfl rfl) rfl ?_
        refine EL.newP al_54 rfl ?_
        intro g98 w98 q98 hb98 hg98 hl98
        have n1_98 : g1 ≠ g98 := Nat.ne_of_lt (Nat.lt_of_lt_of_le q1.lt hg98)
        have n2_98 : g2 ≠ g98 := Nat.ne_of_lt (Nat.lt_of_lt_of_le q2.lt hg98)
        have n6_98 : g6 ≠ g98 := Nat.ne_of_lt (Nat.lt_of_lt_of_le q6.lt hg98)
        have bhbw_98 := Nat.le_trans hbw.size hg98
        have bhb1_98 := Nat.le_trans hb1.size hg98
        have bhb2_98 := Nat.le_trans hb2.size hg98
        have bhbT_98 := Nat.le_trans hbT.size hg98
        replace q1 := q1.below hb98 q1.lt
        replace q2 := q2.below hb98 q2.lt
        replace q6 := q6.below hb98 q6.lt
        replace hbw := Below.on hbw hb98 hbw.size
        replace hb1 := Below.on hb1 hb98 hb1.size
        replace hb2 := Below.on hb2 hb98 hb2.size
        replace hbT := Below.on hbT hb98 hbT.size
        clear hb98 hg98 hl98
        refine EL.store rfl rfl q98 sz_54 rfl rfl rfl rfl ?_
        intro w99 hq99 hg99
        replace q1 := q1.grown hg99 (fun h => n1_98 (Option.some.inj h))
        replace q2 := q2.grown hg99 (fun h => n2_98 (Option.some.inj h))
        replace q6 := q6.grown hg99 (fun h => n6_98 (Option.some.inj h))
        replace hbw := below_store hbw hg99 bhbw_98
        replace hb1 := below_store hb1 hg99 bhb1_98
        replace hb2 := below_store hb2 hg99 bhb2_98
        replace hbT := below_store hbT hg99 bhbT_98
        replace q98 := hq99
        clear hg99 hq99
        refine EL.val (x_assign rfl) rfl ?_
        refine EL.nil ?_
        refine EX.seq ?_
        refine EC.seq ?_
        refine EC.seq ?_
        refine EC.region ?_
        refine EL.val (ld_25 rfl (q6.at (j := 0) rfl) (q6.at (j := 1) rfl) (q6.at (j := 2) rfl)) rfl ?_
        refine EL.val (ld_25 rfl (q1.at (j := 0) rfl) (q1.at (j := 1) rfl) (q1.at (j := 2) rfl)) rfl ?_
        refine EL.call (cl_22 rfl rfl) rfl (unchanged_same c hsm _ _ _ _ ws vs _ _ ((hrc.below hb1).more hsz12) ((hr.below (hbw.mono hB)).more (Nat.le_trans hB hsw)) ) ?_
        rintro e w100 ⟨rfl, hc100⟩
        refine ⟨_, rfl, ?_⟩
        replace q1 := q1.below hc100 q1.lt
        replace q2 := q2.below hc100 q2.lt
        replace q6 := q6.below hc100 q6.lt
        replace q98 := q98.below hc100 q98.lt
        replace hbw := Below.on hbw hc100 hbw.size
        replace hb1 := Below.on hb1 hc100 hb1.size
        replace hb2 := Below.on hb2 hc100 hb2.size
        replace hbT := Below.on hbT hc100 hbT.size
        clear hc100
        refine EL.val (x_not rfl) rfl ?_
        refine EL.val (x_move rfl) rfl ?_
        refine EL.valg rfl rfl (x_move rfl) rfl ?_
        refine EL.valg rfl rfl (x_move rfl) rfl ?_
        refine EL.callg rfl rfl (cl_29 rfl rfl) rfl (equal_same l _ _ _ _ (hrl2.below hb2) ((hrl.below (hbw.mono hB)).more (Nat.le_trans hB hsw)) hb2.size (by omega)) ?_
        rintro e w101 ⟨rfl, hc101⟩
        refine ⟨_, rfl, ?_⟩
        replace q1 := q1.below hc101 q1.lt
        replace q2 := q2.below hc101 q2.lt
        replace q6 := q6.below hc101 q6.lt
        replace q98 := q98.below hc101 q98.lt
        replace hbw := Below.on hbw hc101 hbw.size
        replace hb1 := Below.on hb1 hc101 hb1.size
        replace hb2 := Below.on hb2 hc101 hb2.size
        replace hbT := Below.on hbT hc101 hbT.size
        clear hc101
        refine EL.valg rfl rfl (x_not rfl) rfl ?_
        refine EL.val (x_pick_f rfl rfl) rfl ?_
        refine EL.val (x_move rfl) rfl ?_
        refine EL.valg rfl rfl (x_move rfl) rfl ?_
        refine EL.valg rfl rfl (x_eql (r := false) rfl rfl (by decide)) rfl ?_
        refine EL.valg rfl rfl (ld_25 rfl (q1.at (j := 0) rfl) (q1.at (j := 1) rfl) (q1.at (j := 2) rfl)) rfl ?_
        refine EL.callg rfl rfl (cl_19 rfl) rfl (rcase_any c _ _ vs _ B (hr.below (hbw.mono hB)) (Nat.le_trans hB hbw.size) hn1 hn2 (Bool.eq_false_iff.2 hcb)) ?_
        rintro e w102 ⟨rfl, hc102⟩
        refine ⟨_, rfl, ?_⟩
        replace q1 := q1.below hc102 q1.lt
        replace q2 := q2.below hc102 q2.lt
        replace q6 := q6.below hc102 q6.lt
        replace q98 := q98.below hc102 q98.lt
        replace hbw := Below.on hbw hc102 hbw.size
        replace hb1 := Below.on hb1 hc102 hb1.size
        replace hb2 := Below.on hb2 hc102 hb2.size
        replace hbT := Below.on hbT hc102 hbT.size
        clear hc102
        refine EL.valg rfl rfl (neq_bool rfl rfl rfl) rfl ?_
        refine EL.val (x_pick_f rfl rfl) rfl ?_
        refine EL.val (x_move rfl) rfl ?_
        refine EL.valg rfl rfl (x_move rfl) rfl ?_
        refine EL.valg rfl rfl (x_neq (r := true) rfl rfl (by decide)) rfl ?_
        refine EL.valg rfl rfl (x_move rfl) rfl ?_
        refine EL.valg rfl rfl (x_move rfl) rfl ?_
        refine EL.valg rfl rfl (x_neq (r := false) rfl rfl (by decide)) rfl ?_
        refine EL.valg rfl rfl (x_pick_t rfl rfl) rfl ?_
        refine EL.val (x_pick_f rfl rfl) rfl ?_
        refine EL.nil ?_
        refine EX.seq ?_
        refine EC.no rfl ?_
        refine EC.skip ?_
        refine EX.seq ?_
        refine EC.seq ?_
        refine EC.seq ?_
        refine EC.region ?_
        refine EL.val (ld_25 rfl (q1.at (j := 0) rfl) (q1.at (j := 1) rfl) (q1.at (j := 2) rfl)) rfl ?_
        refine EL.val (x_move rfl) rfl ?_
        refine EL.call (cl_16 rfl rfl) rfl (rstart_to (E := startErr c l) rfl _ _ vs _ B (hr.below (hbw.mono hB)) (Nat.le_trans hB hbw.size) hn1 hn2 _ (hrl.below (hbw.mono hB)) hnl) ?_
        rintro e w103 ⟨rfl, hc103⟩
        refine ⟨_, rfl, ?_⟩
        replace q1 := q1.below hc103 q1.lt
        replace q2 := q2.below hc103 q2.lt
        replace q6 := q6.below hc103 q6.lt
        replace q98 := q98.below hc103 q98.lt
        replace hbw := Below.on hbw hc103 hbw.size
        replace hb1 := Below.on hb1 hc103 hb1.size
        replace hb2 := Below.on hb2 hc103 hb2.size
        replace hbT := Below.on hbT hc103 hbT.size
        clear hc103
        refine EL.val (x_assign rfl) rfl ?_
        refine EL.nil ?_
        refine EX.seq ?_
        refine EC.seq ?_
        refine EC.region ?_
        refine EL.val (x_move rfl) rfl ?_
        refine EL.val (x_neq (r := true) rfl rfl (decide_eq_true hst)) rfl ?_
        refine EL.nil ?_
        refine EX.seq ?_
        refine EC.yes rfl ?_
        refine EC.seq ?_
        refine EC.region ?_
        refine EL.val (x_move rfl) rfl ?_
        refine EL.val (x_move rfl) rfl ?_
        refine EL.val (x_eql (r := true) rfl rfl (decide_eq_true rfl)) rfl ?_
        refine EL.val (x_move rfl) rfl ?_
        refine EL.valg rfl rfl (x_move rfl) rfl ?_
        refine EL.valg rfl rfl (x_move rfl) rfl ?_
        refine EL.valg rfl rfl (x_eql (r := true) rfl rfl (decide_eq_true rfl)) rfl ?_
        refine EL.val (x_pick_t rfl rfl) rfl ?_
        refine EL.val (x_move rfl) rfl ?_
        refine EL.valg rfl rfl (x_move rfl) rfl ?_
        refine EL.valg rfl rfl (x_move rfl) rfl ?_
        refine EL.valg rfl rfl (x_eql (r := true) rfl rfl (decide_eq_true rfl)) rfl ?_
        refine EL.val (x_pick_t rfl rfl) rfl ?_
        refine EL.val (x_move rfl) rfl ?_
        refine EL.valg rfl rfl (x_move rfl) rfl ?_
        refine EL.valg rfl rfl (x_not rfl) rfl ?_
        refine EL.val (x_pick_t rfl rfl) rfl ?_
        refine EL.val (x_move rfl) rfl ?_
        refine EL.valg rfl rfl (x_move rfl) rfl ?_
        refine EL.valg rfl rfl (ln_22 rfl) rfl ?_
        refine EL.valg rfl rfl (x_eql (r := true) rfl rfl (decide_eq_true rfl)) rfl ?_
        refine EL.val (x_pick_t rfl rfl) rfl ?_
        refine EL.val (x_move rfl) rfl ?_
        refine EL.valg rfl rfl (ld_54 rfl (q98.at (j := 0) rfl) (q98.at (j := 1) rfl)) rfl ?_
        refine EL.valg rfl rfl (bd_54_) rfl ?_
        refine EL.valg rfl rfl (eql_54 (r := true) rfl rfl (by simp [bd0])) rfl ?_
        refine EL.val (x_pick_t rfl rfl) rfl ?_
        refine EL.val (x_move rfl) rfl ?_
        refine EL.callg rfl rfl cl_12 rfl (known_any _) ?_
        rintro e w104 ⟨rfl, hc104⟩
        refine ⟨_, rfl, ?_⟩
        replace q1 := q1.below hc104 q1.lt
        replace q2 := q2.below hc104 q2.lt
        replace q6 := q6.below hc104 q6.lt
        replace q98 := q98.below hc104 q98.lt
        replace hbw := Below.on hbw hc104 hbw.size
        replace hb1 := Below.on hb1 hc104 hb1.size
        replace hb2 := Below.on hb2 hc104 hb2.size
        replace hbT := Below.on hbT hc104 hbT.size
        clear hc104
        refine EL.val (x_pick_t rfl rfl) rfl ?_
        refine EL.val (x_assign rfl) rfl ?_
        refine EL.nil ?_
        refine EX.seq ?_
        refine EC.ret ?_
        refine EX.seq_ret ?_
        exact EX.done (res1 rfl rfl) ⟨rfl, hbw⟩
  ·
    refine ⟨_, rfl, ?_⟩
    replace q1 := q1.below hcB q1.lt
    replace q2 := q2.below hcB q2.lt
    replace hbw := Below.on hbw hcB hbw.size
    clear hcB
    refine EL.val (x_move rfl) rfl ?_
    refine EL.skip rfl rfl rfl rfl ?_
    refine EL.skip rfl rfl rfl rfl ?_
    refine EL.skip rfl rfl rfl rfl ?_
    refine EL.val (x_pick_t rfl rfl) rfl ?_
    refine EL.nil ?_
    refine EX.seq ?_
    refine EC.yes rfl ?_
    refine EC.seq ?_
    refine EC.region ?_
    refine EL.call cl_12 rfl (known_any _) ?_
    rintro e w105 ⟨rfl, hc105⟩
    refine ⟨_, rfl, ?_⟩
    replace q1 := q1.below hc105 q1.lt
    replace q2 := q2.below hc105 q2.lt
    replace hbw := Below.on hbw hc105 hbw.size
    clear hc105
    refine EL.val (x_assign rfl) rfl ?_
    refine EL.nil ?_
    refine EX.seq ?_
    refine EC.ret ?_
    refine EX.seq_ret ?_
    exact EX.done (res1 rfl rfl) ⟨rfl, hbw⟩
end Go.Proofs.Ytmaiiigijjfjfaa
