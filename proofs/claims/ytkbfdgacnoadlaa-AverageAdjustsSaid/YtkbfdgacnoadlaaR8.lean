/- The reference's Adjust: its accounts and their sum, or the error. -/
import Derived.Test.YtkbfdgacnoadlaaR2
import Derived.Test.YtkbfdgacnoadlaaA3
import Derived.Test.YtkbfdgacnoadlaaA10
import Derived.Test.YtkbfdgacnoadlaaAdjRef
import Derived.Test.YtkbfdgacnoadlaaPush2
import Derived.StillTailTactics
namespace Go.Proofs.Ytkbfdgacnoadlaa
open Go.RowKit

set_option maxHeartbeats 2000000 in
theorem radjust_early (n c : Int) (l : List Nt) (v : Value) (w : World) (B : Nat) (hr : Rd w B 3 v l.length (notesV l)) (hB : B ≤ w.heap.size) (hlen : l.length ≤ 1048576) (hbad : (earlyErr n c l).2 ≠ 0) :
    Calls Try.prog 16 #[.int .i64 n, .int .i64 c, v] w (AdjPost w (adjSpec n c l)) := by
  obtain ⟨A, cl, rfl, hnc⟩ := hr.shape
  have hs : adjSpec n c l = ([], 0, (earlyErr n c l).1, (earlyErr n c l).2) := by simp [adjSpec, hbad]
  rw [hs]
  have hc := fun (W : World) (h : Rd W W.heap.size 3 (.slice A l.length cl) l.length (notesV l)) => rnotes_any n c l _ _ W _ h (Nat.le_refl _) (by omega)
  obtain ⟨x, hx⟩ : ∃ x, x = (earlyErr n c l).1 := ⟨_, rfl⟩
  obtain ⟨y, hy⟩ : ∃ y, y = (earlyErr n c l).2 := ⟨_, rfl⟩
  rw [← hy] at hbad
  rw [← hx, ← hy] at hc ⊢
  have hb : (y != 0) = true := by simpa using hbad
  have Hc := Lib.hid hc
  clear hs hc hx hy hbad
  go_enter Try.func16, Try.ntmps16
  go_wp2_with fail
  refine (Hc.out _ (hr.more hB)).mono ?_
  rintro e w1 ⟨rfl, hb1⟩
  go_wp2_with fail
  refine bodyPost_ret4 rfl rfl ?_
  exact AdjPost.none (x := x) (y := y) hb1

/-- the accounts before what is owed is known -/
def accs0 (c : Int) (l : List Nt) (k : Nat) : List Acc := (List.range k).map fun i => ⟨worthI (sums l i), goodI c (sums l i), 0, 0⟩
theorem accs0_succ (c : Int) (l : List Nt) (k : Nat) : accs0 c l (k + 1) = accs0 c l k ++ [⟨worthI (sums l k), goodI c (sums l k), 0, 0⟩] := by simp [accs0, List.range_succ]
theorem accs0_len (c : Int) (l : List Nt) (k : Nat) : (accs0 c l k).length = k := by simp [accs0]
/-- what is known behind so many rounds of the first loop -/
structure ARel (c : Int) (l : List Nt) (k : Nat) (w wr : World) (u v : Value) : Prop where
  hu : wr.ownsRow w.heap.size 32 4 u k (accsV (accs0 c l k))
  hv : wr.ownsRow w.heap.size 3 1 v k (ints (listI worthI l k))
  uv : Apart u v
  below : Below w.heap.size w wr

set_option maxHeartbeats 8000000 in
set_option maxRecDepth 100000 in
theorem radjust_late (N : Nat) (c : Int) (l : List Nt) (v : Value) (w : World) (B : Nat) (hr : Rd w B 3 v l.length (notesV l)) (hB : B ≤ w.heap.size) (hok : (earlyErr N c l).2 = 0) :
    Calls Try.prog 16 #[.int .i64 N, .int .i64 c, v] w (AdjPost w (adjSpec N c l)) := by
  obtain ⟨A, cl, rfl, hnc⟩ := hr.shape
  obtain ⟨h1, h2, h3, hf, hall⟩ := earlyErr_zero hok
  have hee : earlyErr N c l = (0, 0) := by
    unfold earlyErr
    rw [h1, h2, if_neg (by simp), if_neg (by simp), if_neg (by omega)]
    exact hf
  have hs : adjSpec N c l = if lateErr c l N = 0 then (accsTo c l (splitL (adjTotal c l N) (listI worthI l N)) N, adjTotal c l N, 0, 0) else ([], 0, 0, lateErr c l N) := by
    unfold adjSpec
    rw [if_pos hok, Int.toNat_natCast]
  obtain ⟨S, eS⟩ : ∃ S, S = adjSpec N c l := ⟨_, rfl⟩
  rw [← eS] at hs ⊢
  have Hs := Lib.hid hs
  obtain ⟨n0, n1⟩ := inB_iff.1 h1
  obtain ⟨c0, c1⟩ := inB_iff.1 h2
  have hc := fun (W : World) (h : Rd W W.heap.size 3 (.slice A l.length cl) l.length (notesV l)) => rnotes_any N c l _ _ W _ h (Nat.le_refl _) (by omega)
  rw [hee] at hc
  have Hc := Lib.hid hc
  have Hall := Lib.hid hall
  clear hs hok eS hc h1 h2 hf hee hall
  go_enter Try.func16, Try.ntmps16
  go_wp2_with fail
  refine (Hc.out _ (hr.more hB)).mono ?_
  rintro e w1 ⟨rfl, hb1⟩
  have hr1 := hr.below (hb1.mono hB)
  have hB1 : B ≤ w1.heap.size := Nat.le_trans hB hb1.size
  have ho1 : ((w1.alloc (.cells #[] 32)).alloc (.cells #[] 3)).ownsRow w1.heap.size 32 4 (.slice (some ⟨w1.heap.size, 0, none⟩) 0 0) 0 (accsV []) := (own_new w1 w1.heap.size 32 4 0 #[] (Nat.le_refl _) rfl (Nat.zero_le _)).alloc _
  have ho2 : ((w1.alloc (.cells #[] 32)).alloc (.cells #[] 3)).ownsRow w1.heap.size 3 1 (.slice (some ⟨w1.heap.size + 1, 0, none⟩) 0 0) 0 (ints []) := by
    have := own_new (w1.alloc (.cells #[] 32)) w1.heap.size 3 1 0 #[] (by simp) rfl (Nat.zero_le _)
    simpa [ints] using this
  have hap : Apart (.slice (some ⟨w1.heap.size, 0, none⟩) 0 0) (.slice (some ⟨w1.heap.size + 1, 0, none⟩) 0 0) := fun g h1 h2 => by simp [Value.ownBlock] at h1 h2; omega
  clear hr
  go_wp2_with fail
  go_loopw [12, 13, 14, 15, 16] (fun u v t s i wr => ∃ k : Nat, k ≤ N ∧ i = .int .i64 k ∧ t = .int .i64 (sumTo (fun i => goodI c (sums l i)) k) ∧ s = .int .i64 (sumTo (fun i => savedI (sums l i)) k) ∧ Hid (∀ i, i < k → 0 ≤ savedI (sums l i)) ∧ ARel c l k w1 wr u v) (fun _ _ _ _ i _ => N - (intOf i).toNat)
  case atStart => exact ⟨0, Nat.zero_le _, rfl, rfl, rfl, Lib.hid (fun i hi => absurd hi (by omega)), ho1, ho2, hap, ((Below.refl _ _).alloc (Nat.le_refl _) _).alloc (by simp) _⟩
  case round =>
    clear ho1 ho2 hap
    obtain ⟨k, hk, rfl, rfl, rfl, Hsv, R⟩ := hrel
    have hsz := R.below.size
    have bg : ∀ i, 0 ≤ goodI c (sums l i) ∧ goodI c (sums l i) ≤ 300000000000000 := fun i => good_bd (sums_small Hall.out h3 i) c0 c1
    have bs : ∀ i, savedI (sums l i) ≤ 100000000000000 := fun i => by
      have h := sums_small Hall.out h3 i
      have a := h 1 (by omega)
      have b := h 2 (by omega)
      have d := h 3 (by omega)
      unfold savedI
      omega
    have t0 := sumTo_nonneg (f := fun i => goodI c (sums l i)) (k := k) (fun i _ => (bg i).1)
    have t1 := sumTo_bd (f := fun i => goodI c (sums l i)) (m := 300000000000000) (k := k) (fun i _ => (bg i).2)
    have s0 := sumTo_nonneg (f := fun i => savedI (sums l i)) (k := k) Hsv.out
    have s1 := sumTo_bd (f := fun i => savedI (sums l i)) (m := 100000000000000) (k := k) (fun i _ => bs i)
    have BG := Lib.hid bg
    have BS := Lib.hid bs
    clear bg bs
    by_cases hlt : k < N
    · have hrk := (hr1.below (R.below.mono hB1))
      have hf1 := ofL_bd Hall.out 1 k
      have hf2 := ofL_bd Hall.out 2 k
      have hf3 := ofL_bd Hall.out 3 k
      have hf4 := ofL_bd Hall.out 4 k
      have eg : goodI c (sums l k) = ofL l 3 k + ofL l 4 k + ofL l 4 k * c / 10000 := rfl
      have es : savedI (sums l k) = ofL l 1 k - ofL l 2 k - ofL l 3 k := rfl
      have ew : worthI (sums l k) = ofL l 1 k - ofL l 2 k := rfl
      have hoc := fun (j : Int) (W : World) (h : Rd W B 3 (.slice A l.length cl) l.length (notesV l)) => of_any N l j k _ _ W _ h h3 Hall.out
      have H1 := hoc 1
      have H2 := hoc 2
      have H3 := hoc 3
      have H4 := hoc 4
      obtain ⟨f1, e1⟩ : ∃ f, f = ofL l 1 k := ⟨_, rfl⟩
      obtain ⟨f2, e2⟩ : ∃ f, f = ofL l 2 k := ⟨_, rfl⟩
      obtain ⟨f3, e3⟩ : ∃ f, f = ofL l 3 k := ⟨_, rfl⟩
      obtain ⟨f4, e4⟩ : ∃ f, f = ofL l 4 k := ⟨_, rfl⟩
      rw [← e1] at H1 hf1 es ew
      rw [← e2] at H2 hf2 es ew
      rw [← e3] at H3 hf3 es eg
      rw [← e4] at H4 hf4 eg
      have HH1 := Lib.hid H1
      have HH2 := Lib.hid H2
      have HH3 := Lib.hid H3
      have HH4 := Lib.hid H4
      have Eg := Lib.hid eg
      have Es := Lib.hid es
      have Ew := Lib.hid ew
      have m0 := Int.mul_nonneg hf4.1 c0
      have m1 : f4 * c ≤ f4 * 10000 := Int.mul_le_mul_of_nonneg_left c1 hf4.1
      have hl3 : (l.length : Int) ≤ 300 := by omega
      clear H1 H2 H3 H4 hoc e1 e2 e3 e4 eg es ew
      obtain ⟨T, eT⟩ : ∃ T, T = sumTo (fun i => goodI c (sums l i)) k := ⟨_, rfl⟩
      obtain ⟨V, eV⟩ : ∃ V, V = sumTo (fun i => savedI (sums l i)) k := ⟨_, rfl⟩
      have n1' : sumTo (fun i => goodI c (sums l i)) (k + 1) = T + (f3 + f4 + f4 * c / 10000) := by rw [eT, ← Eg.out]; rfl
      have n2' : sumTo (fun i => savedI (sums l i)) (k + 1) = V + (f1 - f2 - f3) := by rw [eV, ← Es.out]; rfl
      rw [← eT] at t0 t1 ⊢
      rw [← eV] at s0 s1 ⊢
      have N1 := Lib.hid n1'
      have N2 := Lib.hid n2'
      clear eT eV n1' n2'
      go_wp2_with fail
      refine (HH1.out _ hrk).mono ?_
      rintro e w' ⟨rfl, rfl⟩
      go_wp2_with fail
      refine (HH2.out _ hrk).mono ?_
      rintro e w' ⟨rfl, rfl⟩
      go_wp2_with fail
      refine (HH3.out _ hrk).mono ?_
      rintro e w' ⟨rfl, rfl⟩
      go_wp2_with fail
      refine (HH4.out _ hrk).mono ?_
      rintro e w' ⟨rfl, rfl⟩
      by_cases hneg : f1 - f2 < f3
      · have hbel := hb1.trans (R.below.mono hb1.size)
        have hS : S = ([], 0, 0, 9) := by
          have hm : Lib.minOf (listI savedI l N) < 0 := by
            have := minOf_le (listI_in savedI l hlt)
            rw [Es.out] at this
            omega
          have hl : lateErr c l N = 9 := by rw [lateErr, if_pos hm]
          rw [Hs.out, if_neg (by omega), hl]
        have HS := Lib.hid hS
        clear hS
        go_wp2_with fail
        refine bodyPost_ret4 rfl rfl ?_
        rw [HS.out]
        exact AdjPost.none (x := 0) (y := 9) hbel
      · go_wp2_with fail
        have hx0 := Blk.new wr 32 #[.int .i64 (f1 - f2), .int .i64 (f3 + f4 + f4 * c / 10000), .int .i64 0, .int .i64 0]
        have hu0 := R.hu.alloc (.cells #[.int .i64 (f1 - f2), .int .i64 (f3 + f4 + f4 * c / 10000), .int .i64 0, .int .i64 0] 32)
        have hv0 := R.hv.alloc (.cells #[.int .i64 (f1 - f2), .int .i64 (f3 + f4 + f4 * c / 10000), .int .i64 0, .int .i64 0] 32)
        have hb0 := R.below.alloc hsz (.cells #[.int .i64 (f1 - f2), .int .i64 (f3 + f4 + f4 * c / 10000), .int .i64 0, .int .i64 0] 32)
        have neU : u12.ownBlock ≠ some wr.heap.size := own_ne R.hu (Nat.le_refl _)
        have neV : u13.ownBlock ≠ some wr.heap.size := own_ne R.hv (Nat.le_refl _)
        have hap := R.uv
        clear R hrk
        generalize wr.alloc (.cells #[.int .i64 (f1 - f2), .int .i64 (f3 + f4 + f4 * c / 10000), .int .i64 0, .int .i64 0] 32) = wx at hx0 hu0 hv0 hb0 ⊢
        have hxl := hx0.lt
        have hbs := hb0.size
        have q0 := hx0.cell 0
        have q1 := hx0.cell 1
        have q2 := hx0.cell 2
        have q3 := hx0.cell 3
        simp only [List.getElem?_toArray, List.getElem?_cons_zero, List.getElem?_cons_succ] at q0 q1 q2 q3
        clear hx0
        have i1 : IntKind.i64.wrap (T + (f3 + f4 + f4 * c / 10000)) = T + (f3 + f4 + f4 * c / 10000) := IntWalk.i64_in _ ⟨by omega, by omega⟩
        go_region_held3 (fun w' => w'.cell? ⟨wr.heap.size, 0, none⟩ = some (.int .i64 (f1 - f2)) ∧ w'.cell? ⟨wr.heap.size, 1, none⟩ = some (.int .i64 (f3 + f4 + f4 * c / 10000)) ∧ w'.cell? ⟨wr.heap.size, 2, none⟩ = some (.int .i64 0) ∧ w'.cell? ⟨wr.heap.size, 3, none⟩ = some (.int .i64 0))
          (first
            | go_keep
            | (go_split_ands
               refine ⟨?_, ?_, ?_, ?_⟩ <;> first | exact far_cell hg1 (by assumption) neU | exact far_cell hg2 (by assumption) neV))
          (first | ((refine step_push_blk acc_elem (by rfl) (.tmp 72) (.tmp 74) (by rfl) (v := u12) (by rfl) _ #[.int .i64 (f1 - f2), .int .i64 (f3 + f4 + f4 * c / 10000), .int .i64 0, .int .i64 0] (by rfl) (by first | exact (hu0.alloc _).drew | exact ((hu0.alloc _).alloc _).drew | exact hu2 | exact hu2.alloc _) (by first | exact (Blk.new wx _ _).drew | exact ((Blk.new wx _ _).alloc _).drew | exact (blk_new2 wx _ _ _).drew | exact hbA | exact Blk.new _ _ _) (by rfl) (by simp [Value.oneCell']) (by simp only [maxLen]; omega) (by omega) (by first | omega | (simp; omega)) ?_; intro v1 w3 hownA hg1 hat1; first | (have hU := hownA; have hV : w3.ownsRow w1.heap.size 3 1 v2 (k + 1) ((ints (listI worthI l k)) ++ #[.int .i64 (f1 - f2)].toList) := own_apart (by first | exact hownB | exact hownB.alloc _) hg1 hapB.symm; have hapf : Apart v1 v2 := apart_push2 hapB.symm (by first | exact hownB | exact hownB.alloc _) hat1; have hblf : Below w1.heap.size w1 w3 := Below.push2 (by first | exact hblB | exact hblB.alloc (by first | omega | (simp; omega)) _) (by first | exact hu2 | exact hu2.alloc _) hg1 (Nat.le_refl _) (by first | omega | (simp; omega))) | (have hv2 : w3.ownsRow w1.heap.size 3 1 u13 k (ints (listI worthI l k)) := own_apart (by first | exact (hv0.alloc _).drew | exact ((hv0.alloc _).alloc _).drew) hg1 hap; have hapA : Apart v1 u13 := apart_push2 hap (by first | exact (hv0.alloc _).drew | exact ((hv0.alloc _).alloc _).drew) hat1; have hblA : Below w1.heap.size w1 w3 := Below.push2 (by first | exact (hb0.alloc hb0.size _).drew | exact ((hb0.alloc hb0.size _).alloc (by simp; omega) _).drew) (by first | exact (hu0.alloc _).drew | exact ((hu0.alloc _).alloc _).drew) hg1 (Nat.le_refl _) (by first | omega | (simp; omega)); have hszA : wx.heap.size ≤ w3.heap.size := (by have := hg1.size; first | omega | (simp at this; omega)); try first | (have hbB : Blk w3 wx.heap.size 3 #[.int .i64 (f1 - f2)] := Blk.far2 (((Blk.new wx _ _).alloc _).drew) hg1 (own_ne hu0 (by simp))) | (have hbB : Blk w3 (wx.heap.size + 1) 3 #[.int .i64 (f1 - f2)] := Blk.far2 ((blk_new2 wx _ _ _).drew) hg1 (own_ne hu0 (by simp)))))) | ((refine step_push_blk int_elem (by rfl) (.tmp 76) (.tmp 78) (by rfl) (v := u13) (by rfl) _ #[.int .i64 (f1 - f2)] (by rfl) (by first | exact (hv0.alloc _).drew | exact ((hv0.alloc _).alloc _).drew | exact hv2 | exact hv2.alloc _) (by first | exact (Blk.new wx _ _).drew | exact ((Blk.new wx _ _).alloc _).drew | exact (blk_new2 wx _ _ _).drew | exact hbB | exact Blk.new _ _ _) (by rfl) (by simp [Value.oneCell']) (by simp only [maxLen]; omega) (by omega) (by first | omega | (simp; omega)) ?_; intro v2 w4 hownB hg2 hat2; first | (have hV := hownB; have hU : w4.ownsRow w1.heap.size 32 4 v1 (k + 1) ((accsV (accs0 c l k)) ++ #[.int .i64 (f1 - f2), .int .i64 (f3 + f4 + f4 * c / 10000), .int .i64 0, .int .i64 0].toList) := own_apart (by first | exact hownA | exact hownA.alloc _) hg2 hapA.symm; have hapf : Apart v2 v1 := apart_push2 hapA.symm (by first | exact hownA | exact hownA.alloc _) hat2; have hblf : Below w1.heap.size w1 w4 := Below.push2 (by first | exact hblA | exact hblA.alloc (by first | omega | (simp; omega)) _) (by first | exact hv2 | exact hv2.alloc _) hg2 (Nat.le_refl _) (by first | omega | (simp; omega))) | (have hu2 : w4.ownsRow w1.heap.size 32 4 u12 k (accsV (accs0 c l k)) := own_apart (by first | exact (hu0.alloc _).drew | exact ((hu0.alloc _).alloc _).drew) hg2 hap.symm; have hapB : Apart v2 u12 := apart_push2 hap.symm (by first | exact (hu0.alloc _).drew | exact ((hu0.alloc _).alloc _).drew) hat2; have hblB : Below w1.heap.size w1 w4 := Below.push2 (by first | exact (hb0.alloc hb0.size _).drew | exact ((hb0.alloc hb0.size _).alloc (by simp; omega) _).drew) (by first | exact (hv0.alloc _).drew | exact ((hv0.alloc _).alloc _).drew) hg2 (Nat.le_refl _) (by first | omega | (simp; omega)); have hszB : wx.heap.size ≤ w4.heap.size := (by have := hg2.size; first | omega | (simp at this; omega)); try first | (have hbA : Blk w4 wx.heap.size 32 #[.int .i64 (f1 - f2), .int .i64 (f3 + f4 + f4 * c / 10000), .int .i64 0, .int .i64 0] := Blk.far2 (((Blk.new wx _ _).alloc _).drew) hg2 (own_ne hv0 (by simp))) | (have hbA : Blk w4 (wx.heap.size + 1) 32 #[.int .i64 (f1 - f2), .int .i64 (f3 + f4 + f4 * c / 10000), .int .i64 0, .int .i64 0] := Blk.far2 ((blk_new2 wx _ _ _).drew) hg2 (own_ne hv0 (by simp)))))))
        all_goals
          go_wp2_with fail
          go_roundw
          case rel =>
            refine ⟨k + 1, by omega, by go_num, by rw [N1.out], by rw [N2.out], Lib.hid (fun i hi => ?_), ⟨?_, ?_, ?_, hblf⟩⟩
            · rcases (by omega : i < k ∨ i = k) with h | rfl
              · exact Hsv.out i h
              · rw [Es.out]
                omega
            · rw [accs0_succ, accsV_snoc, Eg.out, Ew.out]
              exact hU
            · rw [listI_succ, Ew.out]
              simpa [ints] using hV
            · first | exact hapf | exact hapf.symm
          case measure => simp [intOf]; omega
    · have hkN : k = N := by omega
      subst hkN
      have hm := saved_min (l := l) (n := k) (by omega) Hsv.out
      obtain ⟨p1, p2, p3, p4, p5, p6, p7⟩ := late_facts Hall.out h3 (by omega) (by omega) c0 c1 hm
      have hww : wrap64 (listI worthI l k).sum = (listI worthI l k).sum := IntWalk.wrap64_in _ ⟨by omega, by omega⟩
      have hlate := lateErr_of (c := c) hm (IntWalk.wrap64_in _ ⟨by omega, by omega⟩) hww (IntWalk.wrap64_in _ ⟨by omega, by omega⟩)
      have p8 := worth_all Hall.out h3 k
      have hwl := listI_len worthI l k
      have hbel := hb1.trans (R.below.mono hb1.size)
      have hu := R.hu
      have hrv := Rd.of_own R.hv
      have P1 := Lib.hid p1
      have P7 := Lib.hid p7
      rw [← listI_sum (goodI c) l k, ← listI_sum savedI l k]
      have hT : adjTotal c l k = (listI (goodI c) l k).sum := rfl
      rw [hT] at Hs
      obtain ⟨LW, eW⟩ : ∃ L, L = listI worthI l k := ⟨_, rfl⟩
      obtain ⟨GS, eG⟩ : ∃ L, L = (listI (goodI c) l k).sum := ⟨_, rfl⟩
      obtain ⟨VS, eV⟩ : ∃ L, L = (listI savedI l k).sum := ⟨_, rfl⟩
      rw [← eG] at Hs p3 p4 hlate ⊢
      rw [← eV] at p5 p6 hlate ⊢
      rw [← eW] at Hs p2 p6 p8 hww hlate hwl hrv P1
      have HL := Lib.hid hlate
      have HWl := Lib.hid hwl
      have EW := Lib.hid eW
      clear R hT eG eV eW hlate p1 p7 hm BG BS Hsv t0 t1 s0 s1
      obtain ⟨Av, kv, rfl, hnv⟩ := hrv.shape
      have hrz : Rd wr wr.heap.size 1 (.slice Av k kv) LW.length (ints LW) := by rw [hwl]; exact hrv
      clear hwl
      by_cases g2 : VS = 0
      · have g2' : (VS == 0) = true := by simpa using g2
        have hS : S = ([], 0, 0, 9) := by
          have e : lateErr c l k = 9 := by rw [HL.out, if_pos g2']
          rw [Hs.out, if_neg (by omega), e]
        have HS := Lib.hid hS
        clear g2 hS
        go_wp2_with fail
        refine bodyPost_ret4 rfl rfl ?_
        rw [HS.out]
        exact AdjPost.none (x := 0) (y := 9) hbel
      · have g2' : (VS == 0) = false := by simpa using g2
        go_wp2_with fail
        refine (rsum_any LW _ k _ _ hrv (by omega)).mono ?_
        rintro e w' ⟨rfl, rfl⟩
        by_cases g3 : LW.sum < GS
        · have hS : S = ([], 0, 0, 80) := by
            have e : lateErr c l k = 80 := by rw [HL.out, if_neg (by simpa using g2'), if_pos g3]
            rw [Hs.out, if_neg (by omega), e]
          have HS := Lib.hid hS
          clear hS
          go_wp2_with fail
          refine bodyPost_ret4 rfl rfl ?_
          rw [HS.out]
          exact AdjPost.none (x := 0) (y := 80) hbel
        · have hS : S = (accsTo c l (splitL GS LW) k, GS, 0, 0) := by
            have e : lateErr c l k = 0 := by rw [HL.out, if_neg (by simpa using g2'), if_neg g3]
            rw [Hs.out, if_pos e]
          have HS := Lib.hid hS
          clear hS Hs HL
          have hDb : ∀ i, i < k → 0 ≤ at0 (splitL GS LW) i ∧ at0 (splitL GS LW) i ≤ GS := fun i hi => splitL_bd p3 (fun x hx => (P1.out x hx).1) (by omega) (by rw [HWl.out]; exact hi)
          have hDl : (splitL GS LW).length = k := by rw [splitL_length, HWl.out]
          have hk40 : k ≤ 40 := by omega
          go_wp2_with fail
          refine (rsplit_any GS LW _ _ _ hrz (Nat.le_refl _) (by rw [HWl.out]; omega) p3 (by omega) (fun x hx => (P1.out x hx).1) (fun _ => by omega) (by omega)).mono ?_
          rintro e w8 ⟨vD, rfl, hoD, hb8⟩
          have hu8 := own_below hu hb8 (Nat.le_refl _)
          obtain ⟨D, eD⟩ : ∃ D, D = splitL GS LW := ⟨_, rfl⟩
          rw [← eD] at hoD hDb hDl HS
          rw [HWl.out] at hoD
          have HDb := Lib.hid hDb
          have HDl := Lib.hid hDl
          have hb78 := hbel.trans (hb8.mono hbel.size)
          have hszw := hb1.size
          obtain ⟨g, cap, rfl, q1, q2⟩ := hu.form (by omega)
          obtain ⟨gD, kD, rfl, r1, r2⟩ := hoD.form (by omega)
          obtain ⟨wo, rfl⟩ : ∃ wo : World, wo = wr := ⟨_, rfl⟩
          have hr0 : w8.ownsRow w1.heap.size 32 4 (.slice (some ⟨g, 0, none⟩) k cap) k (accsV (accsMix c l D k 0)) := hu8
          obtain ⟨n, hnk⟩ : ∃ n : Nat, n = k := ⟨_, rfl⟩
          rw [← hnk] at hr0 HDb HDl HS hk40 P7 ⊢
          rw [← hnk] at hoD
          clear eD hDb hDl hu hu8 hrz hrv hb8 hnk hww p2 p4 p5 p6
          go_wp2_with fail
          go_loopw [22] (fun i wi => ∃ k : Nat, k ≤ n ∧ i = .int .i64 k ∧ wi.ownsRow w1.heap.size 32 4 (.slice (some ⟨g, 0, none⟩) n cap) n (accsV (accsMix c l D n k)) ∧ w8.grownBy wi (some g)) (fun i _ => n - (intOf i).toNat)
          case atStart => exact ⟨0, Nat.zero_le _, rfl, hr0, World.grownBy.refl _ _⟩
          case round =>
            clear hr0
            obtain ⟨j, hj, rfl, hown, hgr⟩ := hrel
            by_cases hlj : j < n
            · have hgd := P7.out j (by omega)
              obtain ⟨y0, y1⟩ := hgd
              obtain ⟨z0, z1⟩ := HDb.out j hlj
              have hml : j < (accsMix c l D n j).length := by rw [accsMix_len]; exact hlj
              have kc : ∀ q, q < 4 → wr.cell? ⟨g, j * 4 + q, none⟩ = (accV ⟨worthI (sums l j), goodI c (sums l j), 0, 0⟩)[q]? := by
                intro q hq
                rw [hown.cellAt (j * 4 + q) (by omega), accsV, flat_get accVlen _ j hml q hq, accsMix_at]
              have k1 := kc 1 (by omega)
              have k2 := kc 2 (by omega)
              have k3 := kc 3 (by omega)
              simp only [accV, List.getElem?_cons_succ, List.getElem?_cons_zero] at k1 k2 k3
              have f2 := hown.frozenAt (j * 4 + 2)
              have f3 := hown.frozenAt (j * 4 + 3)
              have hjD : j < D.length := by rw [HDl.out]; exact hlj
              have kd : wr.cell? ⟨gD, j, none⟩ = some (.int .i64 (at0 D j)) := by
                rw [(own_far hoD hgr q2).cellAt j (by omega), ints_get _ j hjD, at0_get]
              have hst := accsMix_store c l D hlj (at0 D j) (at0 D j - goodI c (sums l j)) rfl rfl
              have hne : g ≠ gD := by omega
              obtain ⟨y, ey⟩ : ∃ y, y = goodI c (sums l j) := ⟨_, rfl⟩
              obtain ⟨z, ez⟩ : ∃ z, z = at0 D j := ⟨_, rfl⟩
              rw [← ey] at k1 y0 y1 hst
              rw [← ez] at kd z0 z1 hst
              obtain ⟨st1, gs1⟩ := hown.stored (j * 4 + 2) (.int .i64 z)
              obtain ⟨st2, gs2⟩ := st1.stored (j * 4 + 3) (.int .i64 (z - y))
              obtain ⟨st3, gs3⟩ := hown.stored (j * 4 + 3) (.int .i64 (z - y))
              obtain ⟨st4, gs4⟩ := st3.stored (j * 4 + 2) (.int .i64 z)
              rw [hst] at st2
              rw [List.set_comm _ _ (by omega), hst] at st4
              clear kc hst ey ez st1 st3
              have i0 : (0 : Int) ≤ (j : Int) := Int.natCast_nonneg _
              have i1 : (j : Int) < (n : Int) := by omega
              have i3 : IntKind.i64.wrap (z - y) = z - y := IntWalk.i64_in _ ⟨by omega, by omega⟩
              go_wp2_with fail
              go_region_held3 (fun w' => w'.cell? ⟨gD, j, none⟩ = some (.int .i64 z) ∧ w'.cell? ⟨g, j * 4 + 1, none⟩ = some (.int .i64 y))
                (first
                  | (go_split_ands
                     refine ⟨?_, ?_⟩ <;> first | exact keep_set_drew (by assumption) (fun h => by injection h with h1 h2; exact hne h1) | exact keep_set_drew (by assumption) (fun h => by injection h with h1 h2; omega))
                  | (go_split_ands
                     refine ⟨?_, ?_⟩ <;> assumption)
                  | go_keep)
                (fail)
              all_goals
                go_wp2_with fail
                go_roundw
                case rel => exact ⟨j + 1, by omega, by go_num, by first | exact st2.drew | exact st4.drew, by first | exact grown_drew ((hgr.trans gs1).trans gs2) | exact grown_drew ((hgr.trans gs3).trans gs4)⟩
                case measure => simp [intOf]; omega
            · obtain rfl : j = n := by omega
              go_wp2_with fail
              refine bodyPost_ret4 rfl rfl ?_
              rw [HS.out]
              refine ⟨_, rfl, ?_, hb78.grown hgr hb78.size (fun k hk => by injection hk with hk; omega)⟩
              rw [accsMix_all] at hown
              simp only [accsTo_len]
              exact own_less hown hszw
end Go.Proofs.Ytkbfdgacnoadlaa
