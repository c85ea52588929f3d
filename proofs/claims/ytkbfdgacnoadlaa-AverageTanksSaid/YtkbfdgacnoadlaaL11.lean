/- Law AverageBurns, its walk. -/
import Derived.Test.YtkbfdgacnoadlaaMissing
import Derived.Test.YtkbfdgacnoadlaaCopy2
import Derived.Test.YtkbfdgacnoadlaaA17
import Derived.Test.YtkbfdgacnoadlaaR9
import Derived.StillTailTactics
import Derived.Deep.DeepCutAuto
namespace Go.Proofs.Ytkbfdgacnoadlaa
open Go.RowKit

theorem sd_info : (Try.prog.info? 78).map (fun i => (i.zero, i.size, i.bytes)) = some (some (.agg #[.int .i64 0, .int .i64 0, .int .i64 0]), 3, 24) := by kernel_rfl
theorem sd_elem : Elem Try.prog 66 78 3 24 := Elem.mk' Try.underlying66 sd_info rfl (by omega)
theorem bk_info : (Try.prog.info? 80).map (fun i => (i.zero, i.size, i.bytes)) = some (some (.agg #[.int .i64 0, .int .i64 0]), 2, 16) := by kernel_rfl
theorem bk_elem : Elem Try.prog 67 80 2 16 := Elem.mk' Try.underlying67 bk_info rfl (by omega)

theorem burns_bad {l : List Sd} {b : List Bk} (p q r : Int) (h : tankErr l b ≠ 0) : burnErr l b p q = tankErr l b ∧ burnSpec l b p q = (0, 0) ∧ missErr l b r = tankErr l b ∧ missSpec l b r = (0, 0, 0) := by
  have h1 : burnErr l b p q = tankErr l b := by rw [burnErr, if_neg h]
  have h2 : missErr l b r = tankErr l b := by rw [missErr, if_neg h]
  exact ⟨h1, by rw [burnSpec, if_neg (by rw [h1]; exact h)], h2, by rw [missSpec, if_neg (by rw [h2]; exact h)]⟩
theorem burn_off {l : List Sd} {b : List Bk} {p q : Int} (h0 : tankErr l b = 0) (h : p < 0 ∨ (l.length : Int) ≤ q ∨ q ≤ p) : burnErr l b p q = 7 ∧ burnSpec l b p q = (0, 0) := by
  have h1 : burnErr l b p q = 7 := by
    rw [burnErr, if_pos h0]
    by_cases h2 : [p, q].all (inB 0 ((l.length : Int) - 1)) = false
    · rw [if_pos h2]
    · rw [if_neg h2]
      by_cases h3 : q ≤ p
      · rw [if_pos h3]
      · exfalso
        simp [inB] at h2
        omega
  exact ⟨h1, by rw [burnSpec, if_neg (by rw [h1]; omega)]⟩
theorem burn_on {l : List Sd} {b : List Bk} {a d : Nat} (h0 : tankErr l b = 0) (had : a < d) (hd : d < l.length) : burnErr l b a d = (if (goneL l b a d).2 < 0 then 9 else 0) ∧ burnSpec l b a d = if (goneL l b a d).2 < 0 then (0, 0) else (max 0 (goneL l b a d).1, (goneL l b a d).2) := by
  have h1 : burnErr l b a d = (if (goneL l b a d).2 < 0 then 9 else 0) := by
    rw [burnErr, if_pos h0, if_neg (by simp [inB]; omega), if_neg (by omega), Int.toNat_natCast, Int.toNat_natCast]
  refine ⟨h1, ?_⟩
  rw [burnSpec, h1, Int.toNat_natCast, Int.toNat_natCast]
  by_cases h : (goneL l b a d).2 < 0 <;> simp [h]
theorem miss_off {l : List Sd} {b : List Bk} {r : Int} (h0 : tankErr l b = 0) (h : r < 0 ∨ 10000000 < r) : missErr l b r = 3 ∧ missSpec l b r = (0, 0, 0) := by
  have h1 : missErr l b r = 3 := by rw [missErr, if_pos h0, if_pos (by simp [inB]; omega)]
  exact ⟨h1, by rw [missSpec, if_neg (by rw [h1]; omega)]⟩
theorem miss_on {l : List Sd} {b : List Bk} {r : Int} (h0 : tankErr l b = 0) (h : 0 ≤ r ∧ r ≤ 10000000) : missErr l b r = (if (missTo l b r l.length).2.2 = 0 then 7 else 0) ∧ missSpec l b r = if (missTo l b r l.length).2.2 = 0 then (0, 0, 0) else missTo l b r l.length := by
  have h1 : missErr l b r = (if (missTo l b r l.length).2.2 = 0 then 7 else 0) := by rw [missErr, if_pos h0, if_neg (by simp [inB]; omega)]
  refine ⟨h1, ?_⟩
  rw [missSpec, h1]
  by_cases h : (missTo l b r l.length).2.2 = 0 <;> simp [h]

/-- behind the two copies -/
def CopyPost (w : World) (l : List Sd) (b : List Bk) (v1 v2 : Value) (wc : World) : Prop :=
  ∃ A1 k1 A2 k2, v1 = .slice A1 l.length k1 ∧ v2 = .slice A2 b.length k2 ∧ Rd wc wc.heap.size 3 v1 l.length (sdsV l) ∧ Rd wc wc.heap.size 2 v2 b.length (bksV b) ∧ Below w.heap.size w wc

set_option maxHeartbeats 4000000 in
set_option maxRecDepth 100000 in
theorem burns_law (l : List Sd) (b : List Bk) (p q r : Int) (vs vb : Value) (w : World) (B C : Nat) (hr : Rd w B 3 vs l.length (sdsV l)) (hB : B ≤ w.heap.size) (hs : Rd w C 2 vb b.length (bksV b)) (hC : C ≤ w.heap.size) :
    Calls Try.prog 12 #[.agg #[vs, vb], .agg #[.int .i64 p, .int .i64 q], .int .i64 r] w fun e w' => e = .returned (.bool true) ∧ Below w.heap.size w w' := by
  obtain ⟨A, c, rfl, hnc⟩ := hr.shape
  obtain ⟨A', c', rfl, hnc'⟩ := hs.shape
  by_cases h110 : 110 < l.length ∨ 110 < b.length
  · have g1 : ((110 : Int) < l.length) ∨ ((110 : Int) < b.length) := by omega
    by_cases h1 : 110 < l.length
    · have h1' : decide ((110 : Int) < (l.length : Int)) = true := by simp; omega
      clear h110 g1
      go_enter Try.func12, Try.ntmps12
      go_wp2_with fail
      refine (known_any _).mono ?_
      rintro e w1 ⟨rfl, hb⟩
      go_wp2_with fail
      go_ret
      exact ⟨rfl, (((Below.refl _ _).alloc (Nat.le_refl _) _).alloc (by simp) _).trans (hb.mono (by simp; omega))⟩
    · have h1' : decide ((110 : Int) < (l.length : Int)) = false := by simp; omega
      have h2' : decide ((110 : Int) < (b.length : Int)) = true := by simp; omega
      clear h110 g1
      go_enter Try.func12, Try.ntmps12
      go_wp2_with fail
      refine (known_any _).mono ?_
      rintro e w1 ⟨rfl, hb⟩
      go_wp2_with fail
      go_ret
      exact ⟨rfl, (((Below.refl _ _).alloc (Nat.le_refl _) _).alloc (by simp) _).trans (hb.mono (by simp; omega))⟩
  · have h1' : decide ((110 : Int) < (l.length : Int)) = false := by simp; omega
    have h2' : decide ((110 : Int) < (b.length : Int)) = false := by simp; omega
    have hl110 : l.length ≤ 110 := by omega
    have hb110 : b.length ≤ 110 := by omega
    clear h110
    go_enter Try.func12, Try.ntmps12
    go_upto_region 3 with (fail)
    have qT := (Blk.new w 69 #[.slice A l.length c, .slice A' b.length c']).alloc (.cells #[.int .i64 p, .int .i64 q] 70)
    have qA := blk_new2 w (.cells #[.slice A l.length c, .slice A' b.length c'] 69) 70 #[.int .i64 p, .int .i64 q]
    have hb0 : Below w.heap.size w ((w.alloc (.cells #[.slice A l.length c, .slice A' b.length c'] 69)).alloc (.cells #[.int .i64 p, .int .i64 q] 70)) := ((Below.refl _ _).alloc (Nat.le_refl _) _).alloc (by simp) _
    generalize ((w.alloc (.cells #[.slice A l.length c, .slice A' b.length c'] 69)).alloc (.cells #[.int .i64 p, .int .i64 q] 70)) = wx at qT qA hb0 ⊢
    have hrx := hr.below (hb0.mono hB)
    have hsx := hs.below (hb0.mono hC)
    have hBx : B ≤ wx.heap.size := Nat.le_trans hB hb0.size
    have hCx : C ≤ wx.heap.size := Nat.le_trans hC hb0.size
    have hTl := qT.lt
    have hAl := qA.lt
    have z0 : wx.cell? ⟨w.heap.size, 0, none⟩ = some (.slice A l.length c) := qT.cell 0
    have z1 : wx.cell? ⟨w.heap.size, 1, none⟩ = some (.slice A' b.length c') := qT.cell 1
    clear hr hs
    go_cut [7, 8] (fun v1 v2 wc => CopyPost wx l b v1 v2 wc)
    case first =>
      go_region_held3 (fun w' => w'.cell? ⟨w.heap.size, 0, none⟩ = some (.slice A l.length c) ∧ w'.cell? ⟨w.heap.size, 1, none⟩ = some (.slice A' b.length c'))
        (first
          | go_keep
          | (go_split_ands
             refine ⟨?_, ?_⟩ <;> first | exact cell_off hg1 (by assumption) (by first | omega | (simp; done) | (simp; omega)) | exact cell_off hg2 (by assumption) (by first | omega | (simp; done) | (simp; omega))))
        (first | (first | (refine step_copy sd_elem (by rfl) (.tmp 34) (.tmp 36) (by rfl) _ wx.heap.size (by rfl) (by first | exact (Blk.new wx _ _).drew | exact ((Blk.new wx _ _).alloc _).drew | exact (blk_new2 wx _ _ _).drew) (by first | omega | (simp; done) | (simp; omega)) (by rfl) (by first | exact (hrx.alloc hBx _).drew | exact ((hrx.alloc hBx _).alloc (by simp; omega) _).drew) (sdsV_one l) (by omega) (by omega) ?_; intro v1 w3 hown1 hg1 hat1; have hs3 : Rd w3 C 2 (.slice A' b.length c') b.length (bksV b) := Rd.off (by first | exact (hsx.alloc hCx _).drew | exact ((hsx.alloc hCx _).alloc (by simp; omega) _).drew) hg1 (by first | omega | (simp; done) | (simp; omega)) (by first | omega | (simp; done) | (simp; omega)); have hbl3 : Below wx.heap.size wx w3 := Below.off (by first | exact ((Below.refl wx.heap.size wx).alloc (Nat.le_refl _) _).drew | exact (((Below.refl wx.heap.size wx).alloc (Nat.le_refl _) _).alloc (by simp) _).drew) hg1 (by first | omega | (simp; done) | (simp; omega)) (by first | omega | (simp; done) | (simp; omega)); have hsz3 : wx.heap.size ≤ w3.heap.size := hbl3.size; try first | (have hbB : Blk w3 (wx.heap.size + 1) 80 #[] := Blk.grown (blk_new2 wx _ _ _).drew hg1 (by simp); have hn1 : v1.ownBlock ≠ some (wx.heap.size + 1) := own_not hat1 (by first | omega | (simp; done) | (simp; omega)) (by first | omega | (simp; done) | (simp; omega))) | (have hbB : Blk w3 wx.heap.size 80 #[] := Blk.grown ((Blk.new wx _ _).alloc _).drew hg1 (by simp); have hn1 : v1.ownBlock ≠ some wx.heap.size := own_not hat1 (by first | omega | (simp; done) | (simp; omega)) (by first | omega | (simp; done) | (simp; omega)))) | (refine step_copy bk_elem (by rfl) (.tmp 38) (.tmp 40) (by rfl) _ wx.heap.size (by rfl) (by first | exact hbB | exact Blk.new _ _ _) (by first | omega | (simp; done) | (simp; omega)) (by rfl) (by first | exact hs3 | exact hs3.alloc (by first | omega | (simp; done) | (simp; omega)) _) (bksV_one b) (by omega) (by omega) ?_; intro v2 w4 hown2 hg2 hat2; have hU : w4.ownsRow wx.heap.size 78 3 v1 l.length (sdsV l) := own_off (by first | exact hown1 | exact hown1.alloc _) hg2 (by first | exact hn1 | exact own_ne hown1 (Nat.le_refl _)); have hbl4 : Below wx.heap.size wx w4 := Below.off (by first | exact hbl3 | exact hbl3.alloc (by first | omega | (simp; done) | (simp; omega)) _) hg2 (by first | omega | (simp; done) | (simp; omega)) (by first | omega | (simp; done) | (simp; omega)))) | fail)
      all_goals
        go_wp2_with fail
        go_meet
        obtain ⟨A1, k1, rfl, _⟩ := (Rd.of_own hU).shape
        obtain ⟨A2, k2, rfl, _⟩ := (Rd.of_own hown2).shape
        exact ⟨_, _, _, _, rfl, rfl, Rd.of_own hU, Rd.of_own hown2, hbl4⟩
    case rest =>
      obtain ⟨A1, k1, A2, k2, rfl, rfl, r1, r2, hbc⟩ := hcut
      have qT1 := qT.below hbc hTl
      have qA1 := qA.below hbc hAl
      have a0 : wc.cell? ⟨w.heap.size + 1, 0, none⟩ = some (.int .i64 p) := qA1.cell 0
      have a1 : wc.cell? ⟨w.heap.size + 1, 1, none⟩ = some (.int .i64 q) := qA1.cell 1
      clear z0 z1
      have hw0 : Below w.heap.size w wc := hb0.trans (hbc.mono hb0.size)
      obtain ⟨S, eS⟩ : ∃ S, S = burnSpec l b p q := ⟨_, rfl⟩
      obtain ⟨E, eE⟩ : ∃ E, E = burnErr l b p q := ⟨_, rfl⟩
      obtain ⟨M, eM⟩ : ∃ M, M = missSpec l b r := ⟨_, rfl⟩
      obtain ⟨F, eF⟩ : ∃ F, F = missErr l b r := ⟨_, rfl⟩
      have hc1 := burned_any l b p q _ _ wc _ _ r1 (Nat.le_refl _) r2 (Nat.le_refl _) (by omega) (by omega)
      have hc2 := fun (W : World) (h1 : Rd W W.heap.size 3 (.slice A1 l.length k1) l.length (sdsV l)) (h2 : Rd W W.heap.size 2 (.slice A2 b.length k2) b.length (bksV b)) => missing_any l b r _ _ W _ _ h1 (Nat.le_refl _) h2 (Nat.le_refl _) (by omega) (by omega)
      rw [← eS, ← eE] at hc1
      rw [← eM, ← eF] at hc2
      unfold BurnPost at hc1
      have HS := Lib.hid eS
      have HE := Lib.hid eE
      have HM := Lib.hid eM
      have HF := Lib.hid eF
      have C2 := Lib.hid hc2
      obtain ⟨x1, x2⟩ := S
      obtain ⟨m1, m2, m3⟩ := M
      clear eS eE eM eF hc2
      go_wp2_with fail
      refine hc1.mono ?_
      rintro e w4 ⟨rfl, hb4⟩
      have r14 := r1.go hb4
      have r24 := r2.go hb4
      have hw4 := Below.on hw0 hb4 hw0.size
      clear a0 a1 hc1
      have r15 := (r14.alloc (Nat.le_refl _) (.cells #[.int .i64 x1, .int .i64 x2] 72)).more (Nat.le_succ _)
      have r25 := (r24.alloc (Nat.le_refl _) (.cells #[.int .i64 x1, .int .i64 x2] 72)).more (Nat.le_succ _)
      have qX := Blk.new w4 72 #[.int .i64 x1, .int .i64 x2]
      have qT5 := (qT1.below hb4 qT1.lt).alloc (.cells #[.int .i64 x1, .int .i64 x2] 72)
      have qA5 := (qA1.below hb4 qA1.lt).alloc (.cells #[.int .i64 x1, .int .i64 x2] 72)
      have hw5 := hw4.alloc hw4.size (.cells #[.int .i64 x1, .int .i64 x2] 72)
      go_wp2_with fail
      refine (C2.out _ (by simpa using r15) (by simpa using r25)).mono ?_
      rintro e w6 ⟨rfl, hb6⟩
      have r16 := Rd.go (by simpa using r15) hb6
      have r26 := Rd.go (by simpa using r25) hb6
      have qX6 := qX.below hb6 qX.lt
      have qT6 := qT5.below hb6 qT5.lt
      have qA6 := qA5.below hb6 qA5.lt
      have hw6 := Below.on hw5 hb6 hw5.size
      have hrw : Rd w6 B 3 (.slice A l.length c) l.length (sdsV l) := (hrx.below (hbc.mono hBx)).keep fun p hp => (hb6.cell (by simp; have := hb4.size; have := hbc.size; omega)).trans ((World.cell?_alloc_lt _ _ _ (by have := hb4.size; have := hbc.size; omega)).trans (hb4.cell (by have := hbc.size; omega)))
      have hsw : Rd w6 C 2 (.slice A' b.length c') b.length (bksV b) := (hsx.below (hbc.mono hCx)).keep fun p hp => (hb6.cell (by simp; have := hb4.size; have := hbc.size; omega)).trans ((World.cell?_alloc_lt _ _ _ (by have := hb4.size; have := hbc.size; omega)).trans (hb4.cell (by have := hbc.size; omega)))
      have hB6 : B ≤ w6.heap.size := Nat.le_trans hB hw6.size
      have hC6 : C ≤ w6.heap.size := Nat.le_trans hC hw6.size
      clear r14 r24 r15 r25 qX qT5 qA5 hw5 hb6 hrx hsx qT1 qA1 r1 r2 hb4 hw4 hw0 C2 qT qA hbc hb0
      go_wp2_with fail
      go_loopw [15] (fun i wr => ∃ k : Nat, k ≤ l.length ∧ i = .int .i64 k ∧ Below w6.heap.size w6 wr) (fun i _ => l.length - (intOf i).toNat)
      case atStart => exact ⟨0, Nat.zero_le _, rfl, Below.refl _ _⟩
      case round =>
        obtain ⟨k, hk, rfl, hbw⟩ := hrel
        have hsz := hbw.size
        have z0 : wr.cell? ⟨w.heap.size, 0, none⟩ = some (.slice A l.length c) := (qT6.below hbw qT6.lt).cell 0
        by_cases hlt : k < l.length
        · obtain ⟨b1, o1, rfl, hbB, c0, c1, c2⟩ := sds_cells l k hlt _ B _ _ _ (hrw.below (hbw.mono hB6))
          obtain ⟨b2, o2, rfl, hbB', d0, d1, d2⟩ := sds_cells l k hlt _ _ _ _ _ (r16.below hbw)
          obtain ⟨x, hx⟩ : ∃ x, x = l[k] := ⟨_, rfl⟩
          rw [← hx] at c0 c1 c2 d0 d1 d2
          clear hx
          obtain ⟨xp, xt, xl⟩ := x
          simp only at c0 c1 c2 d0 d1 d2
          have i0 : (0 : Int) ≤ (k : Int) := Int.natCast_nonneg _
          have i1 : (k : Int) < (l.length : Int) := by omega
          go_wp2_with fail
          go_quiet (fail)
          go_wp2_with fail
          go_roundw
          case rel => exact ⟨k + 1, by omega, by go_num, below_drewN hbw _⟩
          case measure => simp [intOf]; omega
        · clear z0
          obtain ⟨wo, ewo⟩ : ∃ wo : World, wo = wr := ⟨_, rfl⟩
          rw [← ewo] at hbw hsz ⊢
          clear ewo
          go_wp2_with fail
          go_loopw [16] (fun i wr => ∃ k : Nat, k ≤ b.length ∧ i = .int .i64 k ∧ Below w6.heap.size w6 wr) (fun i _ => b.length - (intOf i).toNat)
          case atStart => exact ⟨0, Nat.zero_le _, rfl, hbw⟩
          case round =>
            clear hbw hsz hk hlt
            obtain ⟨k, hk, rfl, hbw⟩ := hrel
            have hsz := hbw.size
            have z1 : wr.cell? ⟨w.heap.size, 1, none⟩ = some (.slice A' b.length c') := (qT6.below hbw qT6.lt).cell 1
            by_cases hlt : k < b.length
            · obtain ⟨b1, o1, rfl, hbB, c0, c1⟩ := bks_cells b k hlt _ C _ _ _ (hsw.below (hbw.mono hC6))
              obtain ⟨b2, o2, rfl, hbB', d0, d1⟩ := bks_cells b k hlt _ _ _ _ _ (r26.below hbw)
              obtain ⟨x, hx⟩ : ∃ x, x = b[k] := ⟨_, rfl⟩
              rw [← hx] at c0 c1 d0 d1
              clear hx
              obtain ⟨xp, xt⟩ := x
              simp only at c0 c1 d0 d1
              have i0 : (0 : Int) ≤ (k : Int) := Int.natCast_nonneg _
              have i1 : (k : Int) < (b.length : Int) := by omega
              go_wp2_with fail
              go_quiet (fail)
              go_wp2_with fail
              go_roundw
              case rel => exact ⟨k + 1, by omega, by go_num, below_drewN hbw _⟩
              case measure => simp [intOf]; omega
            · clear z1
              have hrr := hrw.below (hbw.mono hB6)
              have hss := hsw.below (hbw.mono hC6)
              have z0 : wr.cell? ⟨w.heap.size, 0, none⟩ = some (.slice A l.length c) := (qT6.below hbw qT6.lt).cell 0
              have z1 : wr.cell? ⟨w.heap.size, 1, none⟩ = some (.slice A' b.length c') := (qT6.below hbw qT6.lt).cell 1
              have qXr := qX6.below hbw qX6.lt
              have qAr := qA6.below hbw qA6.lt
              have qTr := qT6.below hbw qT6.lt
              have hwr := Below.on hw6 hbw hw6.size
              have hTr := qTr.lt
              have hAr := qAr.lt
              have hXr := qXr.lt
              clear hbw qX6 qA6 qT6 hrw hsw r16 r26 hw6 hB6 hC6 hk
              go_wp2_with fail
              have qN := Blk.new wr 72 #[.int .i64 0, .int .i64 0]
              have hrn := hrr.alloc (Nat.le_trans hB hwr.size) (.cells #[.int .i64 0, .int .i64 0] 72)
              have hsn := hss.alloc (Nat.le_trans hC hwr.size) (.cells #[.int .i64 0, .int .i64 0] 72)
              refine (rtank_any l b _ _ _ B C hrn (by simp; have := hwr.size; omega) hsn (by simp; have := hwr.size; omega) (by omega) (by omega)).mono ?_
              rintro e w7 ⟨rfl, hb7⟩
              have hwn := hwr.alloc hwr.size (.cells #[.int .i64 0, .int .i64 0] 72)
              have hw7 := Below.on hwn hb7 hwn.size
              have hr7 := hrn.below (hb7.mono (by simp; have := hwr.size; omega))
              have hs7 := hsn.below (hb7.mono (by simp; have := hwr.size; omega))
              have qN7 := qN.below hb7 qN.lt
              have qX7 := (qXr.alloc (.cells #[.int .i64 0, .int .i64 0] 72)).below hb7 (by simp; omega)
              have qA7 := (qAr.alloc (.cells #[.int .i64 0, .int .i64 0] 72)).below hb7 (by simp; omega)
              have qT7 := (qTr.alloc (.cells #[.int .i64 0, .int .i64 0] 72)).below hb7 (by simp; omega)
              have hB7 : B ≤ w7.heap.size := Nat.le_trans hB hw7.size
              have hC7 : C ≤ w7.heap.size := Nat.le_trans hC hw7.size
              obtain ⟨gN, egN⟩ : ∃ g, g = wr.heap.size := ⟨_, rfl⟩
              obtain ⟨gX, egX⟩ : ∃ g, g = w4.heap.size := ⟨_, rfl⟩
              rw [← egN] at qN7 ⊢
              rw [← egX] at qX7 ⊢
              have n0 : w7.cell? ⟨gN, 0, none⟩ = some (.int .i64 0) := qN7.cell 0
              have n1 : w7.cell? ⟨gN, 1, none⟩ = some (.int .i64 0) := qN7.cell 1
              have x0 : w7.cell? ⟨gX, 0, none⟩ = some (.int .i64 x1) := qX7.cell 0
              have x1' : w7.cell? ⟨gX, 1, none⟩ = some (.int .i64 x2) := qX7.cell 1
              have a0 : w7.cell? ⟨w.heap.size + 1, 0, none⟩ = some (.int .i64 p) := qA7.cell 0
              have a1 : w7.cell? ⟨w.heap.size + 1, 1, none⟩ = some (.int .i64 q) := qA7.cell 1
              have y0 : w7.cell? ⟨w.heap.size, 0, none⟩ = some (.slice A l.length c) := qT7.cell 0
              have y1 : w7.cell? ⟨w.heap.size, 1, none⟩ = some (.slice A' b.length c') := qT7.cell 1
              clear z0 z1 qXr qAr qTr hrr hss hrn hsn qN hb7 hwr hTr hAr hXr hsz hlt egN egX hwn
              by_cases hT : tankErr l b = 0
              · rw [hT]
                have h0 := hT
                by_cases hat : p < 0 ∨ (l.length : Int) ≤ q ∨ q ≤ p
                · have hE := burn_off h0 hat
                  rw [← HE.out, ← HS.out] at hE
                  obtain ⟨rfl, hS⟩ := hE
                  injection hS with hS1 hS2
                  subst hS1 hS2
                  clear HE HS
                  have hp : (decide (p < 0) = true) ∨ (decide (p < 0) = false ∧ decide ((l.length : Int) ≤ q) = true) ∨ (decide (p < 0) = false ∧ decide ((l.length : Int) ≤ q) = false ∧ decide (q ≤ p) = true) := by
                    by_cases h1 : p < 0
                    · exact .inl (decide_eq_true h1)
                    · by_cases h2 : (l.length : Int) ≤ q
                      · exact .inr (.inl ⟨decide_eq_false h1, decide_eq_true h2⟩)
                      · exact .inr (.inr ⟨decide_eq_false h1, decide_eq_false h2, decide_eq_true (by omega)⟩)
                  obtain ⟨wz, ewz⟩ : ∃ wz, wz = w7 := ⟨_, rfl⟩
                  have hrz := hr7
                  have hsz_ := hs7
                  have hBz := hB7
                  have hCz := hC7
                  have hwz := hw7
                  rw [← ewz] at hrz hsz_ hBz hCz hwz y0 y1 a0 a1 x0 x1' n0 n1 ⊢
                  clear ewz hr7 hs7 hB7 hC7 hw7 qN7 qX7 qA7 qT7 hat
                  rcases hp with k1 | ⟨k1, k2⟩ | ⟨k1, k2, k3⟩
                  all_goals
                    go_upto_region 29 with (fail)
                    by_cases hr0 : r < 0 ∨ 10000000 < r
                    · have hF := miss_off h0 hr0
                      rw [← HF.out, ← HM.out] at hF
                      obtain ⟨rfl, hM⟩ := hF
                      injection hM with hM1 hM
                      injection hM with hM2 hM3
                      subst hM1 hM2 hM3
                      clear HF HM
                      by_cases hr1 : r < 0
                      · have hr1' : decide (r < 0) = true := decide_eq_true hr1
                        clear hr0
                        go_wp2_with fail
                        refine (known_any _).mono ?_
                        rintro e wk ⟨rfl, hbk⟩
                        go_wp2_with fail
                        go_ret
                        exact ⟨rfl, Below.on hwz hbk hwz.size⟩
                      · have hr1' : decide (r < 0) = false := decide_eq_false hr1
                        have hr2' : decide ((10000000 : Int) < r) = true := decide_eq_true (by omega)
                        clear hr0
                        go_wp2_with fail
                        refine (known_any _).mono ?_
                        rintro e wk ⟨rfl, hbk⟩
                        go_wp2_with fail
                        go_ret
                        exact ⟨rfl, Below.on hwz hbk hwz.size⟩
                    · have hr1' : decide (r < 0) = false := decide_eq_false (by omega)
                      have hr2' : decide ((10000000 : Int) < r) = false := decide_eq_false (by omega)
                      have hF := miss_on h0 (b := b) (r := r) (by omega)
                      rw [← HF.out, ← HM.out] at hF
                      have hcm := rmissing_any l b r _ _ wz B C hrz hBz hsz_ hCz h0 (by omega)
                      obtain ⟨T, eT⟩ : ∃ T, T = missTo l b r l.length := ⟨_, rfl⟩
                      rw [← eT] at hF hcm
                      obtain ⟨t1, t2, t3⟩ := T
                      simp only at hF hcm
                      have Hcm := Lib.hid hcm
                      clear hcm eT HF HM
                      by_cases ht : t3 = 0
                      · have ht' : (t3 == 0) = true := by simpa using ht
                        rw [if_pos ht, if_pos ht] at hF
                        obtain ⟨rfl, hM⟩ := hF
                        injection hM with hM1 hM
                        injection hM with hM2 hM3
                        subst hM1 hM2 hM3
                        clear hr0
                        go_wp2_with fail
                        refine Hcm.out.mono ?_
                        rintro e wm ⟨rfl, hbm⟩
                        have hwm := Below.on hwz hbm hwz.size
                        go_wp2_with fail
                        refine (known_any _).mono ?_
                        rintro e wk ⟨rfl, hbk⟩
                        go_wp2_with fail
                        go_ret
                        exact ⟨rfl, Below.on hwm hbk hwm.size⟩
                      · have ht' : (t3 == 0) = false := by simpa using ht
                        rw [if_neg ht, if_neg ht] at hF
                        obtain ⟨rfl, hM⟩ := hF
                        injection hM with hM1 hM
                        injection hM with hM2 hM3
                        subst hM1 hM2 hM3
                        clear hr0
                        go_wp2_with fail
                        refine Hcm.out.mono ?_
                        rintro e wm ⟨rfl, hbm⟩
                        have hwm := Below.on hwz hbm hwz.size
                        go_wp2_with fail
                        refine (known_any _).mono ?_
                        rintro e wk ⟨rfl, hbk⟩
                        go_wp2_with fail
                        go_ret
                        exact ⟨rfl, Below.on hwm hbk hwm.size⟩
                · obtain ⟨a, rfl⟩ := Int.eq_ofNat_of_zero_le (show 0 ≤ p by omega)
                  obtain ⟨d, rfl⟩ := Int.eq_ofNat_of_zero_le (show 0 ≤ q by omega)
                  have k1 : decide ((a : Int) < 0) = false := decide_eq_false (by omega)
                  have k2 : decide ((l.length : Int) ≤ (d : Int)) = false := decide_eq_false (by omega)
                  have k3 : decide ((d : Int) ≤ (a : Int)) = false := decide_eq_false (by omega)
                  have had : a < d := by omega
                  have hd : d < l.length := by omega
                  have hE := burn_on (b := b) h0 had hd
                  rw [← HE.out, ← HS.out] at hE
                  have hcg := rgone_any l b a d _ _ w7 B C hr7 hB7 hs7 hC7 h0 (by omega) hd
                  obtain ⟨G, eG⟩ : ∃ G, G = goneL l b a d := ⟨_, rfl⟩
                  rw [← eG] at hE hcg
                  obtain ⟨g1, g2⟩ := G
                  simp only at hE hcg
                  have Hcg := Lib.hid hcg
                  clear hcg eG HE HS hat
                  have HG := Lib.hid hE
                  clear hE
                  go_wp2_with fail
                  refine Hcg.out.mono ?_
                  rintro e w8 ⟨rfl, hb8⟩
                  have hE := HG.out
                  clear HG
                  by_cases hg : g2 < 0
                  · have hg' : decide (g2 < 0) = true := decide_eq_true hg
                    rw [if_pos hg, if_pos hg] at hE
                    obtain ⟨rfl, hS⟩ := hE
                    injection hS with hS1 hS2
                    subst hS1 hS2
                    have hw8 := Below.on hw7 hb8 hw7.size
                    have hwz := hw8.alloc hw8.size (.cells #[.int .i64 g1, .int .i64 g2] 72)
                    have hrz := (hr7.below (hb8.mono hB7)).alloc (Nat.le_trans hB7 hb8.size) (.cells #[.int .i64 g1, .int .i64 g2] 72)
                    have hsz_ := (hs7.below (hb8.mono hC7)).alloc (Nat.le_trans hC7 hb8.size) (.cells #[.int .i64 g1, .int .i64 g2] 72)
                    have hBz : B ≤ (w8.alloc (.cells #[.int .i64 g1, .int .i64 g2] 72)).heap.size := Nat.le_trans hB hwz.size
                    have hCz : C ≤ (w8.alloc (.cells #[.int .i64 g1, .int .i64 g2] 72)).heap.size := Nat.le_trans hC hwz.size
                    have qN8 := qN7.below hb8 qN7.lt
                    have qX8 := qX7.below hb8 qX7.lt
                    have qT8 := qT7.below hb8 qT7.lt
                    have hN8 := qN8.lt
                    have hX8 := qX8.lt
                    clear n0 n1 x0 x1' a0 a1 y0 y1
                    have n0 : w8.cell? ⟨gN, 0, none⟩ = some (.int .i64 0) := qN8.cell 0
                    have n1 : w8.cell? ⟨gN, 1, none⟩ = some (.int .i64 0) := qN8.cell 1
                    have x0 := qX8.cell 0
                    have x1' := qX8.cell 1
                    simp only [List.getElem?_toArray, List.getElem?_cons_zero, List.getElem?_cons_succ] at x0 x1'
                    have y0 : (w8.alloc (.cells #[.int .i64 g1, .int .i64 g2] 72)).cell? ⟨w.heap.size, 0, none⟩ = some (.slice A l.length c) := (qT8.alloc _).cell 0
                    have y1 : (w8.alloc (.cells #[.int .i64 g1, .int .i64 g2] 72)).cell? ⟨w.heap.size, 1, none⟩ = some (.slice A' b.length c') := (qT8.alloc _).cell 1
                    clear hr7 hs7 hB7 hC7 hw7 hw8 hb8 qN7 qX7 qA7 qT7 qN8 qX8 qT8 Hcg
                    go_upto_region 29 with (fail)
                    generalize w8.alloc (.cells #[.int .i64 g1, .int .i64 g2] 72) = wz at hwz hrz hsz_ hBz hCz y0 y1 ⊢
                    clear n0 n1 x0 x1' hN8 hX8
                    by_cases hr0 : r < 0 ∨ 10000000 < r
                    · have hF := miss_off h0 hr0
                      rw [← HF.out, ← HM.out] at hF
                      obtain ⟨rfl, hM⟩ := hF
                      injection hM with hM1 hM
                      injection hM with hM2 hM3
                      subst hM1 hM2 hM3
                      clear HF HM
                      by_cases hr1 : r < 0
                      · have hr1' : decide (r < 0) = true := decide_eq_true hr1
                        clear hr0
                        go_wp2_with fail
                        refine (known_any _).mono ?_
                        rintro e wk ⟨rfl, hbk⟩
                        go_wp2_with fail
                        go_ret
                        exact ⟨rfl, Below.on hwz hbk hwz.size⟩
                      · have hr1' : decide (r < 0) = false := decide_eq_false hr1
                        have hr2' : decide ((10000000 : Int) < r) = true := decide_eq_true (by omega)
                        clear hr0
                        go_wp2_with fail
                        refine (known_any _).mono ?_
                        rintro e wk ⟨rfl, hbk⟩
                        go_wp2_with fail
                        go_ret
                        exact ⟨rfl, Below.on hwz hbk hwz.size⟩
                    · have hr1' : decide (r < 0) = false := decide_eq_false (by omega)
                      have hr2' : decide ((10000000 : Int) < r) = false := decide_eq_false (by omega)
                      have hF := miss_on h0 (b := b) (r := r) (by omega)
                      rw [← HF.out, ← HM.out] at hF
                      have hcm := rmissing_any l b r _ _ wz B C hrz hBz hsz_ hCz h0 (by omega)
                      obtain ⟨T, eT⟩ : ∃ T, T = missTo l b r l.length := ⟨_, rfl⟩
                      rw [← eT] at hF hcm
                      obtain ⟨t1, t2, t3⟩ := T
                      simp only at hF hcm
                      have Hcm := Lib.hid hcm
                      clear hcm eT HF HM
                      by_cases ht : t3 = 0
                      · have ht' : (t3 == 0) = true := by simpa using ht
                        rw [if_pos ht, if_pos ht] at hF
                        obtain ⟨rfl, hM⟩ := hF
                        injection hM with hM1 hM
                        injection hM with hM2 hM3
                        subst hM1 hM2 hM3
                        clear hr0
                        go_wp2_with fail
                        refine Hcm.out.mono ?_
                        rintro e wm ⟨rfl, hbm⟩
                        have hwm := Below.on hwz hbm hwz.size
                        go_wp2_with fail
                        refine (known_any _).mono ?_
                        rintro e wk ⟨rfl, hbk⟩
                        go_wp2_with fail
                        go_ret
                        exact ⟨rfl, Below.on hwm hbk hwm.size⟩
                      · have ht' : (t3 == 0) = false := by simpa using ht
                        rw [if_neg ht, if_neg ht] at hF
                        obtain ⟨rfl, hM⟩ := hF
                        injection hM with hM1 hM
                        injection hM with hM2 hM3
                        subst hM1 hM2 hM3
                        clear hr0
                        go_wp2_with fail
                        refine Hcm.out.mono ?_
                        rintro e wm ⟨rfl, hbm⟩
                        have hwm := Below.on hwz hbm hwz.size
                        go_wp2_with fail
                        refine (known_any _).mono ?_
                        rintro e wk ⟨rfl, hbk⟩
                        go_wp2_with fail
                        go_ret
                        exact ⟨rfl, Below.on hwm hbk hwm.size⟩
                  · have hg' : decide (g2 < 0) = false := decide_eq_false hg
                    rw [if_neg hg, if_neg hg] at hE
                    obtain ⟨rfl, hS⟩ := hE
                    injection hS with hS1 hS2
                    have hS2' := hS2.symm
                    subst hS1 hS2'
                    have hw8 := Below.on hw7 hb8 hw7.size
                    have hwz := hw8.alloc hw8.size (.cells #[.int .i64 g1, .int .i64 g2] 72)
                    have hrz := (hr7.below (hb8.mono hB7)).alloc (Nat.le_trans hB7 hb8.size) (.cells #[.int .i64 g1, .int .i64 g2] 72)
                    have hsz_ := (hs7.below (hb8.mono hC7)).alloc (Nat.le_trans hC7 hb8.size) (.cells #[.int .i64 g1, .int .i64 g2] 72)
                    have hBz : B ≤ (w8.alloc (.cells #[.int .i64 g1, .int .i64 g2] 72)).heap.size := Nat.le_trans hB hwz.size
                    have hCz : C ≤ (w8.alloc (.cells #[.int .i64 g1, .int .i64 g2] 72)).heap.size := Nat.le_trans hC hwz.size
                    have qN8 := qN7.below hb8 qN7.lt
                    have qX8 := qX7.below hb8 qX7.lt
                    have qT8 := qT7.below hb8 qT7.lt
                    have hN8 := qN8.lt
                    have hX8 := qX8.lt
                    clear n0 n1 x0 x1' a0 a1 y0 y1
                    have n0 : w8.cell? ⟨gN, 0, none⟩ = some (.int .i64 0) := qN8.cell 0
                    have n1 : w8.cell? ⟨gN, 1, none⟩ = some (.int .i64 0) := qN8.cell 1
                    have x0 := qX8.cell 0
                    have x1' := qX8.cell 1
                    simp only [List.getElem?_toArray, List.getElem?_cons_zero, List.getElem?_cons_succ] at x0 x1'
                    have y0 : (w8.alloc (.cells #[.int .i64 g1, .int .i64 g2] 72)).cell? ⟨w.heap.size, 0, none⟩ = some (.slice A l.length c) := (qT8.alloc _).cell 0
                    have y1 : (w8.alloc (.cells #[.int .i64 g1, .int .i64 g2] 72)).cell? ⟨w.heap.size, 1, none⟩ = some (.slice A' b.length c') := (qT8.alloc _).cell 1
                    clear hr7 hs7 hB7 hC7 hw7 hw8 hb8 qN7 qX7 qA7 qT7 qN8 qX8 qT8 Hcg
                    go_upto_region 29 with (fail)
                    generalize w8.alloc (.cells #[.int .i64 g1, .int .i64 g2] 72) = wz at hwz hrz hsz_ hBz hCz y0 y1 ⊢
                    clear n0 n1 x0 x1' hN8 hX8
                    by_cases hr0 : r < 0 ∨ 10000000 < r
                    · have hF := miss_off h0 hr0
                      rw [← HF.out, ← HM.out] at hF
                      obtain ⟨rfl, hM⟩ := hF
                      injection hM with hM1 hM
                      injection hM with hM2 hM3
                      subst hM1 hM2 hM3
                      clear HF HM
                      by_cases hr1 : r < 0
                      · have hr1' : decide (r < 0) = true := decide_eq_true hr1
                        clear hr0
                        go_wp2_with fail
                        refine (known_any _).mono ?_
                        rintro e wk ⟨rfl, hbk⟩
                        go_wp2_with fail
                        go_ret
                        exact ⟨rfl, Below.on hwz hbk hwz.size⟩
                      · have hr1' : decide (r < 0) = false := decide_eq_false hr1
                        have hr2' : decide ((10000000 : Int) < r) = true := decide_eq_true (by omega)
                        clear hr0
                        go_wp2_with fail
                        refine (known_any _).mono ?_
                        rintro e wk ⟨rfl, hbk⟩
                        go_wp2_with fail
                        go_ret
                        exact ⟨rfl, Below.on hwz hbk hwz.size⟩
                    · have hr1' : decide (r < 0) = false := decide_eq_false (by omega)
                      have hr2' : decide ((10000000 : Int) < r) = false := decide_eq_false (by omega)
                      have hF := miss_on h0 (b := b) (r := r) (by omega)
                      rw [← HF.out, ← HM.out] at hF
                      have hcm := rmissing_any l b r _ _ wz B C hrz hBz hsz_ hCz h0 (by omega)
                      obtain ⟨T, eT⟩ : ∃ T, T = missTo l b r l.length := ⟨_, rfl⟩
                      rw [← eT] at hF hcm
                      obtain ⟨t1, t2, t3⟩ := T
                      simp only at hF hcm
                      have Hcm := Lib.hid hcm
                      clear hcm eT HF HM
                      by_cases ht : t3 = 0
                      · have ht' : (t3 == 0) = true := by simpa using ht
                        rw [if_pos ht, if_pos ht] at hF
                        obtain ⟨rfl, hM⟩ := hF
                        injection hM with hM1 hM
                        injection hM with hM2 hM3
                        subst hM1 hM2 hM3
                        clear hr0
                        go_wp2_with fail
                        refine Hcm.out.mono ?_
                        rintro e wm ⟨rfl, hbm⟩
                        have hwm := Below.on hwz hbm hwz.size
                        go_wp2_with fail
                        refine (known_any _).mono ?_
                        rintro e wk ⟨rfl, hbk⟩
                        go_wp2_with fail
                        go_ret
                        exact ⟨rfl, Below.on hwm hbk hwm.size⟩
                      · have ht' : (t3 == 0) = false := by simpa using ht
                        rw [if_neg ht, if_neg ht] at hF
                        obtain ⟨rfl, hM⟩ := hF
                        injection hM with hM1 hM
                        injection hM with hM2 hM3
                        subst hM1 hM2 hM3
                        clear hr0
                        go_wp2_with fail
                        refine Hcm.out.mono ?_
                        rintro e wm ⟨rfl, hbm⟩
                        have hwm := Below.on hwz hbm hwz.size
                        go_wp2_with fail
                        refine (known_any _).mono ?_
                        rintro e wk ⟨rfl, hbk⟩
                        go_wp2_with fail
                        go_ret
                        exact ⟨rfl, Below.on hwm hbk hwm.size⟩
              · have hE := burns_bad (b := b) ((p : Int)) q r hT
                rw [← HE.out, ← HS.out, ← HF.out, ← HM.out] at hE
                obtain ⟨hE1, hS, hE2, hM⟩ := hE
                injection hS with hS1 hS2
                injection hM with hM1 hM
                injection hM with hM2 hM3
                subst hS1 hS2 hM1 hM2 hM3
                have hT' : (tankErr l b != 0) = true := by simpa using hT
                obtain ⟨T, eT⟩ : ∃ T, T = tankErr l b := ⟨_, rfl⟩
                rw [← eT] at hE1 hE2 hT' ⊢
                subst hE1 hE2
                clear HE HS HF HM hT eT
                go_wp2_with fail
                refine (known_any _).mono ?_
                rintro e wk ⟨rfl, hbk⟩
                go_wp2_with fail
                go_ret
                exact ⟨rfl, Below.on hw7 hbk hw7.size⟩
end Go.Proofs.Ytkbfdgacnoadlaa
