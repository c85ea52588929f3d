/- The walk of the program's Adjust. -/
import Derived.Test.YtkbfdgacnoadlaaAdjMath
namespace Go.Proofs.Ytkbfdgacnoadlaa
open Go.RowKit

theorem bodyPost_ret4 {P : Program} {fn : Func} {R : Ending → World → Prop} {a : Act} {w : World} {t u v x : Tmp} (h : fn.results = #[.tmp t, .tmp u, .tmp v, .tmp x]) (hd : a.defers = [])
    (hR : R (.returned (.tuple #[a.tmps.getD t undef, a.tmps.getD u undef, a.tmps.getD v undef, a.tmps.getD x undef])) w) : bodyPost P fn R .ret a w :=
  bodyPost_ret (results_tmp4 h _ _ _) hd hR

theorem acc_info : (Try.prog.info? 32).map (fun i => (i.zero, i.size, i.bytes)) = some (some (.agg #[.int .i64 0, .int .i64 0, .int .i64 0, .int .i64 0]), 4, 32) := by kernel_rfl
theorem acc_elem : Elem Try.prog 24 32 4 32 := Elem.mk' Try.underlying24 acc_info rfl (by omega)

/-- what Adjust leaves: its four results -/
def AdjPost (w : World) (s : List Acc × Int × Nat × Int) (e : Ending) (w' : World) : Prop :=
  ∃ v', e = .returned (.tuple #[v', .int .i64 s.2.1, .int .i64 s.2.2.1, .int .i64 s.2.2.2]) ∧ w'.ownsRow w.heap.size 32 4 v' s.1.length (accsV s.1) ∧ Below w.heap.size w w'
theorem AdjPost.none {w w' : World} {x : Nat} {y : Int} (hb : Below w.heap.size w w') : AdjPost w ([], 0, x, y) (.returned (.tuple #[.slice none 0 0, .int .i64 0, .int .i64 x, .int .i64 y])) w' :=
  ⟨_, rfl, own_nil _ _ _ _, hb⟩

set_option maxHeartbeats 2000000 in
set_option maxRecDepth 100000 in
theorem adjust_early (n c : Int) (l : List Nt) (v : Value) (w : World) (B : Nat) (hr : Rd w B 3 v l.length (notesV l)) (hB : B ≤ w.heap.size) (hlen : l.length ≤ 1048576) (hbad : (earlyErr n c l).2 ≠ 0) :
    Calls Try.prog 15 #[.int .i64 n, .int .i64 c, v] w (AdjPost w (adjSpec n c l)) := by
  obtain ⟨A, cl, rfl, hnc⟩ := hr.shape
  have hs : adjSpec n c l = ([], 0, (earlyErr n c l).1, (earlyErr n c l).2) := by simp [adjSpec, hbad]
  rw [hs]
  clear hs
  rcases Bool.eq_false_or_eq_true (inB 1 40 n) with h1 | h1
  · rcases Bool.eq_false_or_eq_true (inB 0 10000 c) with h2 | h2
    · by_cases h3 : 300 < l.length
      · have e0 : earlyErr n c l = (0, 5) := by simp [earlyErr, h1, h2, h3]
        rw [e0]
        clear e0 hbad
        go_enter Try.func15, Try.ntmps15
        go_wp2_with fail
        refine (within_one _ 1 _ _ _ (by simp)).mono ?_
        rintro e w1 ⟨rfl, hb1⟩
        rw [h1]
        have hc1 : Below w.heap.size w w1 := ((Below.refl _ _).alloc (Nat.le_refl _) _).trans (hb1.mono (by simp))
        have hq1 := (Blk.new w 3 #[.int .i64 c]).below hb1 (by simp)
        clear hb1
        have cq := hq1.cell 0
        simp only [List.getElem?_toArray, List.getElem?_cons_zero] at cq
        go_wp2_with fail
        refine (within_one c 0 _ _ _ rfl).mono ?_
        rintro e w2 ⟨rfl, hb2⟩
        rw [h2]
        have hc2 : Below w.heap.size w w2 := hc1.trans (hb2.mono hc1.size)
        have hq2 := hq1.below hb2 hq1.lt
        clear hb2 cq hq1
        go_wp2_with fail
        refine bodyPost_ret4 rfl rfl ?_
        exact AdjPost.none (x := 0) (y := 5) hc2
      · have e0 : earlyErr n c l = firstErr n l 0 := by simp [earlyErr, h1, h2, h3]
        rw [e0] at hbad ⊢
        clear e0
        obtain ⟨n0, n1⟩ := inB_iff.1 h1
        obtain ⟨N, rfl⟩ := Int.eq_ofNat_of_zero_le (show 0 ≤ n by omega)
        obtain ⟨E, eE⟩ : ∃ E, E = firstErr (N : Int) l 0 := ⟨_, rfl⟩
        rw [← eE] at hbad ⊢
        obtain ⟨x, y⟩ := E
        simp only at hbad
        have Hbad := Lib.hid hbad
        have HE := Lib.hid eE
        have hy : (y != 0) = true := by simpa using hbad
        clear hbad eE
        go_enter Try.func15, Try.ntmps15
        go_wp2_with fail
        refine (within_one _ 1 _ _ _ (by simp)).mono ?_
        rintro e w1 ⟨rfl, hb1⟩
        rw [h1]
        have hc1 : Below w.heap.size w w1 := ((Below.refl _ _).alloc (Nat.le_refl _) _).trans (hb1.mono (by simp))
        have hq1 := (Blk.new w 3 #[.int .i64 c]).below hb1 (by simp)
        clear hb1
        have cq := hq1.cell 0
        simp only [List.getElem?_toArray, List.getElem?_cons_zero] at cq
        go_wp2_with fail
        refine (within_one c 0 _ _ _ rfl).mono ?_
        rintro e w2 ⟨rfl, hb2⟩
        rw [h2]
        have hc2 : Below w.heap.size w w2 := hc1.trans (hb2.mono hc1.size)
        have hq2 := hq1.below hb2 hq1.lt
        clear hb2 cq hq1
        go_wp2_with fail
        refine (gather_any N l _ _ B (hr.below (hc2.mono hB)) (by have := hc2.size; omega) (by omega) (by omega) (by omega)).mono ?_
        rw [← HE.out]
        rintro e w3 ⟨v3, rfl, hg3, hb3⟩
        obtain rfl : v3 = .slice none 0 0 := by
          rcases hg3 with ⟨h, _⟩ | ⟨_, h⟩
          · exact absurd h Hbad.out
          · exact h
        clear hg3
        have hc3 : Below w.heap.size w w3 := hc2.trans (hb3.mono hc2.size)
        have hq3 := hq2.below hb3 hq2.lt
        clear hq2
        go_wp2_with fail
        refine bodyPost_ret4 rfl rfl ?_
        exact AdjPost.none (x := x) (y := y) (hc3.alloc hc3.size _)
    · have e0 : earlyErr n c l = (0, 3) := by simp [earlyErr, h1, h2]
      rw [e0]
      clear e0 hbad
      go_enter Try.func15, Try.ntmps15
      go_wp2_with fail
      refine (within_one _ 1 _ _ _ (by simp)).mono ?_
      rintro e w1 ⟨rfl, hb1⟩
      rw [h1]
      have hc1 : Below w.heap.size w w1 := ((Below.refl _ _).alloc (Nat.le_refl _) _).trans (hb1.mono (by simp))
      have hq1 := (Blk.new w 3 #[.int .i64 c]).below hb1 (by simp)
      clear hb1
      have cq := hq1.cell 0
      simp only [List.getElem?_toArray, List.getElem?_cons_zero] at cq
      go_wp2_with fail
      refine (within_one c 0 _ _ _ rfl).mono ?_
      rintro e w2 ⟨rfl, hb2⟩
      rw [h2]
      have hc2 : Below w.heap.size w w2 := hc1.trans (hb2.mono hc1.size)
      have hq2 := hq1.below hb2 hq1.lt
      clear hb2 cq hq1
      go_wp2_with fail
      refine bodyPost_ret4 rfl rfl ?_
      exact AdjPost.none (x := 0) (y := 3) hc2
  · have e0 : earlyErr n c l = (0, 3) := by simp [earlyErr, h1]
    rw [e0]
    clear e0 hbad
    go_enter Try.func15, Try.ntmps15
    go_wp2_with fail
    refine (within_one _ 1 _ _ _ (by simp)).mono ?_
    rintro e w1 ⟨rfl, hb1⟩
    rw [h1]
    have hc1 : Below w.heap.size w w1 := ((Below.refl _ _).alloc (Nat.le_refl _) _).trans (hb1.mono (by simp))
    have hq1 := (Blk.new w 3 #[.int .i64 c]).below hb1 (by simp)
    clear hb1
    have cq := hq1.cell 0
    simp only [List.getElem?_toArray, List.getElem?_cons_zero] at cq
    go_wp2_with fail
    refine bodyPost_ret4 rfl rfl ?_
    exact AdjPost.none (x := 0) (y := 3) hc1

theorem earlyErr_zero {n c : Int} {l : List Nt} (h : (earlyErr n c l).2 = 0) : inB 1 40 n = true ∧ inB 0 10000 c = true ∧ l.length ≤ 300 ∧ firstErr n l 0 = (0, 0) ∧ ∀ x ∈ l, noteErr n x = 0 := by
  unfold earlyErr at h
  split at h
  · simp at h
  split at h
  · simp at h
  split at h
  · simp at h
  rename_i h1 h2 h3
  have hall : ∀ x ∈ l, noteErr n x = 0 := by
    intro x hx
    apply Decidable.byContradiction
    intro hne
    clear h1 h2 h3
    revert h
    generalize 0 = i
    induction l generalizing i with
    | nil => simp at hx
    | cons y l ih =>
      intro h
      rw [firstErr] at h
      split at h
      · rename_i hy
        rcases List.mem_cons.1 hx with rfl | hx'
        · exact hne hy
        · exact ih hx' _ h
      · rename_i hy
        exact hy h
  exact ⟨by simpa using h1, by simpa using h2, by omega, firstErr_ok l 0 hall, hall⟩

set_option maxHeartbeats 4000000 in
set_option maxRecDepth 100000 in
theorem adjust_late (N : Nat) (c : Int) (l : List Nt) (v : Value) (w : World) (B : Nat) (hr : Rd w B 3 v l.length (notesV l)) (hB : B ≤ w.heap.size) (hok : (earlyErr N c l).2 = 0) :
    Calls Try.prog 15 #[.int .i64 N, .int .i64 c, v] w (AdjPost w (adjSpec N c l)) := by
  obtain ⟨A, cl, rfl, hnc⟩ := hr.shape
  obtain ⟨h1, h2, h3, hf, hall⟩ := earlyErr_zero hok
  have hs : adjSpec N c l = if lateErr c l N = 0 then (accsTo c l (splitL (adjTotal c l N) (listI worthI l N)) N, adjTotal c l N, 0, 0) else ([], 0, 0, lateErr c l N) := by
    unfold adjSpec
    rw [if_pos hok, Int.toNat_natCast]
  obtain ⟨S, eS⟩ : ∃ S, S = adjSpec N c l := ⟨_, rfl⟩
  rw [← eS] at hs ⊢
  have Hs := Lib.hid hs
  clear hs hok eS
  obtain ⟨n0, n1⟩ := inB_iff.1 h1
  obtain ⟨c0, c1⟩ := inB_iff.1 h2
  have Hf := Lib.hid hf
  have Hall := Lib.hid hall
  clear hf hall
  go_enter Try.func15, Try.ntmps15
  go_wp2_with fail
  refine (within_one _ 1 _ _ _ (by simp)).mono ?_
  rintro e w1 ⟨rfl, hb1⟩
  rw [h1]
  have hc1 : Below w.heap.size w w1 := ((Below.refl _ _).alloc (Nat.le_refl _) _).trans (hb1.mono (by simp))
  have hq1 := (Blk.new w 3 #[.int .i64 c]).below hb1 (by simp)
  clear hb1
  have cq := hq1.cell 0
  simp only [List.getElem?_toArray, List.getElem?_cons_zero] at cq
  go_wp2_with fail
  refine (within_one c 0 _ _ _ rfl).mono ?_
  rintro e w2 ⟨rfl, hb2⟩
  rw [h2]
  have hc2 : Below w.heap.size w w2 := hc1.trans (hb2.mono hc1.size)
  have hq2 := hq1.below hb2 hq1.lt
  clear hb2 cq hq1
  go_wp2_with fail
  refine (gather_any N l _ _ B (hr.below (hc2.mono hB)) (by have := hc2.size; omega) (by omega) (by omega) (by omega)).mono ?_
  rw [Hf.out]
  rintro e w3 ⟨v3, rfl, hg3, hb3⟩
  have hown3 := (hg3.resolve_right fun h => h.1 rfl).2
  clear hg3
  obtain ⟨g, cap, rfl, g1, g2⟩ := hown3.form (by omega)
  have hc3 : Below w.heap.size w w3 := hc2.trans (hb3.mono hc2.size)
  have hq3 := hq2.below hb3 hq2.lt
  clear hq2
  have ht : TabAt (w3.alloc (.cells #[.slice (some ⟨g, 0, none⟩) N cap] 90)) w3.heap.size g N cap l := by
    refine ⟨by simp, fun i j hi hj => ?_, by simp, by simp; omega⟩
    obtain ⟨hlt, hv⟩ := tab_at (n := N) l hi hj
    rw [World.cell?_alloc_lt _ _ _ g2, hown3.cellAt (i * 5 + j) (by rw [tab_len] at hlt; exact hlt), ints_get _ _ hlt, hv]
    rfl
  have hc4 : Below w.heap.size w (w3.alloc (.cells #[.slice (some ⟨g, 0, none⟩) N cap] 90)) := hc3.alloc hc3.size _
  have hq4 := hq3.alloc (.cells #[.slice (some ⟨g, 0, none⟩) N cap] 90)
  clear hc1 hc2 hb3 hown3 hq3
  go_wp2_with fail
  refine (of_saved N l w3.heap.size g cap _ ht Hall.out h3 (by omega)).mono ?_
  rintro e w5 ⟨v5, rfl, ho5, hb5⟩
  have hc5 : Below w.heap.size w w5 := hc4.trans (hb5.mono hc4.size)
  have hq5 := hq4.below hb5 hq4.lt
  have ht5 := ht.go hb5
  have hb5s := hb5.size
  clear hb5 hq4 ht hc4
  go_wp2_with fail
  refine (of_worth N l w3.heap.size g cap _ ht5 Hall.out h3 (by omega)).mono ?_
  rintro e w6 ⟨v6, rfl, ho6, hb6⟩
  have hc6 : Below w.heap.size w w6 := hc5.trans (hb6.mono hc5.size)
  have hq6 := hq5.below hb6 hq5.lt
  have ht6 := ht5.go hb6
  have ho56 := own_below ho5 hb6 (Nat.le_refl _)
  clear hb6 hq5 ht5 hc5 ho5
  go_wp2_with fail
  refine (of_good N l w3.heap.size g cap _ ht6 Hall.out h3 (by omega) c c0 c1 w.heap.size hq6.lt (by rw [hq6.cell 0]; rfl)).mono ?_
  rintro e w7 ⟨v7, rfl, ho7, hb7⟩
  have hc7 : Below w.heap.size w w7 := hc6.trans (hb7.mono hc6.size)
  have ho57 := own_below ho56 hb7 (Nat.le_refl _)
  have ho67 := own_below ho6 hb7 (Nat.le_refl _)
  have ho7s := hb7.size
  clear hb7 hq6 ht6 hc6 ho56 ho6
  have hr5 := Rd.of_own ho57
  have hr6 := Rd.of_own ho67
  have hr7 := Rd.of_own ho7
  have hl5 := listI_len savedI l N
  have hl6 := listI_len worthI l N
  have hl7 := listI_len (goodI c) l N
  have hlate : lateErr c l N = if Lib.minOf (listI savedI l N) < 0 then 9 else if (wrap64 (listI savedI l N).sum == 0) = true then 9 else if wrap64 (listI worthI l N).sum < wrap64 (listI (goodI c) l N).sum then 80 else 0 := rfl
  have hlf := late_facts (n := N) (N := N) (c := c) Hall.out h3 (by omega) (by omega) c0 c1
  obtain ⟨L5, e5⟩ : ∃ L, L = listI savedI l N := ⟨_, rfl⟩
  obtain ⟨L6, e6⟩ : ∃ L, L = listI worthI l N := ⟨_, rfl⟩
  obtain ⟨L7, e7⟩ : ∃ L, L = listI (goodI c) l N := ⟨_, rfl⟩
  have hat6 : ∀ i, i < N → at0 L6 i = worthI (sums l i) := fun i hi => by rw [e6]; exact listI_at _ _ hi
  have hat7 : ∀ i, i < N → at0 L7 i = goodI c (sums l i) := fun i hi => by rw [e7]; exact listI_at _ _ hi
  have hs := Hs.out
  rw [show adjTotal c l N = L7.sum by rw [e7]; rfl, ← e6] at hs
  rw [← e5] at hr5 hl5 hlate hlf
  rw [← e6] at hr6 hl6 hlate hlf
  rw [← e7] at hr7 hl7 hlate hlf
  have Hlf := Lib.hid hlf
  have Hlate := Lib.hid hlate
  have Hat6 := Lib.hid hat6
  have Hat7 := Lib.hid hat7
  have Hl5 := Lib.hid hl5
  have Hl6 := Lib.hid hl6
  have Hl7 := Lib.hid hl7
  have Hss := Lib.hid hs
  clear hl5 hl6 hl7 hlate hlf e5 e6 e7 hat6 hat7 hs Hs
  obtain ⟨A5, k5, rfl, hk5⟩ := hr5.shape
  obtain ⟨A6, k6, rfl, hk6⟩ := hr6.shape
  obtain ⟨A7, k7, rfl, hk7⟩ := hr7.shape
  go_wp2_with fail
  refine (min_any L5 _ N _ _ hr5 (by omega) (by omega)).mono ?_
  rintro e w8 ⟨rfl, rfl⟩
  by_cases g1 : Lib.minOf L5 < 0
  · have g1' : decide (Lib.minOf L5 < 0) = true := by simpa using g1
    have Hz := Lib.hid (show lateErr c l N = 9 by rw [Hlate.out, if_pos (by omega)])
    go_wp2_with fail
    refine bodyPost_ret4 rfl rfl ?_
    rw [Hss.out, Hz.out]
    exact AdjPost.none (x := 0) (y := 9) hc7
  · have g1' : decide (Lib.minOf L5 < 0) = false := by simpa using g1
    obtain ⟨q0, q1, q2, q3, q4, q5, q6⟩ := Hlf.out (by omega)
    go_wp2_with fail
    refine (sum_any L5 _ N _ _ hr5 (by omega)).mono ?_
    rintro e w9 ⟨rfl, rfl⟩
    have hw5 : wrap64 L5.sum = L5.sum := IntWalk.wrap64_in _ ⟨by omega, by omega⟩
    have hw7 : wrap64 L7.sum = L7.sum := IntWalk.wrap64_in _ ⟨by omega, by omega⟩
    have hw6 : wrap64 L6.sum = L6.sum := IntWalk.wrap64_in _ ⟨by omega, by omega⟩
    have hlz := Hlate.out
    rw [if_neg (by omega), hw5, hw6, hw7] at hlz
    have Hlz := Lib.hid hlz
    have Q0 := Lib.hid q0
    have Q6 := Lib.hid q6
    clear hlz q0 q6
    by_cases g2 : L5.sum = 0
    · have g2' : (L5.sum == 0) = true := by simpa using g2
      have Hz := Lib.hid (show lateErr c l N = 9 by rw [Hlz.out, if_pos g2'])
      clear g2
      go_wp2_with fail
      refine bodyPost_ret4 rfl rfl ?_
      rw [Hss.out, Hz.out]
      exact AdjPost.none (x := 0) (y := 9) hc7
    · have g2' : (L5.sum == 0) = false := by simpa using g2
      go_wp2_with fail
      refine (sum_any L7 _ N _ _ hr7 (by omega)).mono ?_
      rintro e w10 ⟨rfl, rfl⟩
      go_wp2_with fail
      refine (sum_any L6 _ N _ _ hr6 (by omega)).mono ?_
      rintro e w11 ⟨rfl, rfl⟩
      by_cases g3 : L6.sum < L7.sum
      · have Hz := Lib.hid (show lateErr c l N = 80 by rw [Hlz.out, if_neg (by simpa using g2'), if_pos (by omega)])
        go_wp2_with fail
        refine bodyPost_ret4 rfl rfl ?_
        rw [Hss.out, Hz.out]
        exact AdjPost.none (x := 0) (y := 80) hc7
      · have Hz := Lib.hid (show lateErr c l N = 0 by rw [Hlz.out, if_neg (by simpa using g2'), if_neg (by omega)])
        have hsz7 := hc7.size
        have hN6 := Hl6.out
        have hr6x : Rd w7 w7.heap.size 1 (.slice A6 N k6) L6.length (ints L6) := by rw [hN6]; exact hr6
        go_wp2_with fail
        refine (split_any L7.sum L6 _ _ w7.heap.size hr6x (Nat.le_refl _) (by rw [hN6]; omega) q2 (by omega) (fun x hx => (Q0.out x hx).1) (fun _ => by omega) (by omega)).mono ?_
        rintro e w12 ⟨v12, rfl, ho12, hb12⟩
        have hc12 : Below w.heap.size w w12 := hc7.trans (hb12.mono hsz7)
        have hs12 := hb12.size
        have hr6' := hr6.below hb12
        have hr7' := hr7.below hb12
        have hr12 := Rd.of_own ho12
        have hDb : ∀ i, i < N → 0 ≤ at0 (splitL L7.sum L6) i ∧ at0 (splitL L7.sum L6) i ≤ L7.sum := fun i hi => splitL_bd q2 (fun x hx => (Q0.out x hx).1) (by omega) (by rw [hN6]; exact hi)
        have hDl : (splitL L7.sum L6).length = N := by rw [splitL_length, hN6]
        have hfin : S = (accsTo c l (splitL L7.sum L6) N, L7.sum, 0, 0) := by rw [Hss.out, if_pos Hz.out]
        obtain ⟨D, eD⟩ : ∃ D, D = splitL L7.sum L6 := ⟨_, rfl⟩
        rw [← eD] at hr12 hDb hDl hfin
        rw [show L6.length = D.length by rw [hDl, hN6]] at hr12
        have HDb := Lib.hid hDb
        have HDl := Lib.hid hDl
        have Hfin := Lib.hid hfin
        have HN6 := Lib.hid hN6
        clear hDb hDl hfin eD hb12 ho12 hr6 hr6x hr7 hr5 ho57 ho67 ho7 hN6
        obtain ⟨AD, kD, rfl, hkD⟩ := hr12.shape
        have hble : D.length ≤ N := Nat.le_of_eq HDl.out
        go_wp2_with fail
        go_loopw [6, 15, 16, 69] (fun v _ _ i wr => ∃ k : Nat, k ≤ N ∧ i = .int .i64 k ∧ wr.ownsRow w12.heap.size 32 4 v k (accsV (accsTo c l D k)) ∧ Below w12.heap.size w12 wr) (fun _ _ _ i _ => N - (intOf i).toNat)
        case atStart => exact ⟨0, Nat.zero_le _, rfl, own_nil _ _ _ _, Below.refl _ _⟩
        case round =>
          obtain ⟨k, hk, rfl, hown, hbw⟩ := hrel
          by_cases hlt : k < N
          · have hltD : k < D.length := by rw [HDl.out]; exact hlt
            have hlt6 : k < L6.length := by rw [HN6.out]; exact hlt
            have hlt7 : k < L7.length := by rw [Hl7.out]; exact hlt
            have hs7 := hs12
            have hsw := hbw.size
            obtain ⟨b6, o6, rfl, qb6, k6c⟩ := ints_cell L6 k hlt6 _ _ _ _ _ (hr6'.below (hbw.mono hs7))
            obtain ⟨b7, o7, rfl, qb7, k7c⟩ := ints_cell L7 k hlt7 _ _ _ _ _ (hr7'.below (hbw.mono hs7))
            obtain ⟨bd, od, rfl, qbd, kdc⟩ := ints_cell D k hltD _ _ _ _ _ (hr12.below hbw)
            rw [Hat6.out k hlt] at k6c
            rw [Hat7.out k hlt] at k7c
            obtain ⟨y0, y1⟩ := Q6.out k hlt
            obtain ⟨z0, z1⟩ := HDb.out k hlt
            have hacc : accAt c l D k = ⟨worthI (sums l k), goodI c (sums l k), at0 D k, at0 D k - goodI c (sums l k)⟩ := rfl
            obtain ⟨x, ex⟩ : ∃ x, x = worthI (sums l k) := ⟨_, rfl⟩
            obtain ⟨y, ey⟩ : ∃ y, y = goodI c (sums l k) := ⟨_, rfl⟩
            obtain ⟨z, ez⟩ : ∃ z, z = at0 D k := ⟨_, rfl⟩
            rw [← ex] at k6c hacc
            rw [← ey] at k7c y0 y1 hacc
            rw [← ez] at kdc z0 z1 hacc
            have Hacc := Lib.hid hacc
            clear hacc ex ey ez
            have i0 : (0 : Int) ≤ (k : Int) := Int.natCast_nonneg _
            have i1 : (k : Int) < (N : Int) := by omega
            have i2 : (k : Int) < (L6.length : Int) := by omega
            have i3 : IntKind.i64.wrap (z - y) = z - y := IntWalk.i64_in _ ⟨by omega, by omega⟩
            go_wp2_with fail
            go_region_held3 (fun w' => w'.cell? ⟨b6, o6 + k, none⟩ = some (.int .i64 x) ∧ w'.cell? ⟨b7, o7 + k, none⟩ = some (.int .i64 y) ∧ w'.cell? ⟨bd, od + k, none⟩ = some (.int .i64 z))
              (first
                | go_keep
                | (go_split_ands
                   refine ⟨?_, ?_, ?_⟩
                   · exact push_cell ((hown.alloc _).drew) hgrow (by assumption) (by omega) (by simp; omega)
                   · exact push_cell ((hown.alloc _).drew) hgrow (by assumption) (by omega) (by simp; omega)
                   · exact push_cell ((hown.alloc _).drew) hgrow (by assumption) (by omega) (by simp; omega)))
              ((refine step_push acc_elem (by rfl) _ _ (by rfl) (by rfl) ((hown.alloc _).drew) (wr.heap.size + 1) _ 1 [.int .i64 x, .int .i64 y, .int .i64 z, .int .i64 (z - y)] (by rfl) ((Rd.made wr _ 4 1 #[.int .i64 x, .int .i64 y, .int .i64 z, .int .i64 (z - y)] rfl).drew) (by simp [Value.oneCell']) (by simp only [maxLen]; omega) (by omega) (by simp; omega) ?_; intro v1 w13 hown1 hgrow hat))
            have hg1 : wr.grownBy w13 u6.ownBlock := (grown_drew (World.grownBy_alloc wr _ _)).trans hgrow
            have hb13 := Below.push hbw hown hg1 (Nat.le_refl _) hsw
            clear k6c k7c kdc hgrow hg1 hat
            go_wp2_with fail
            go_roundw
            case rel =>
              refine ⟨k + 1, by omega, by go_num, ?_, hb13⟩
              rw [accsTo_succ, accsV_snoc, Hacc.out]
              exact hown1
            case measure => simp [intOf]; omega
          · obtain rfl : k = N := by omega
            go_wp2_with fail
            refine bodyPost_ret4 rfl rfl ?_
            rw [Hfin.out]
            refine ⟨_, rfl, ?_, hc12.trans (hbw.mono hc12.size)⟩
            simp only [accsTo_len]
            exact own_less hown hc12.size
end Go.Proofs.Ytkbfdgacnoadlaa
