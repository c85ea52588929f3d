/- The walk of Burned. -/
import Derived.Test.YtkbfdgacnoadlaaA15
namespace Go.Proofs.Ytkbfdgacnoadlaa
open Go.RowKit

theorem open_any (l : List Sd) (b : List Bk) (vs vb : Value) (w : World) (B C : Nat) (hr : Rd w B 3 vs l.length (sdsV l)) (hB : B ≤ w.heap.size) (hs : Rd w C 2 vb b.length (bksV b)) (hC : C ≤ w.heap.size)
    (hl : l.length ≤ 1048576) (hbl : b.length ≤ 1048576) : Calls Try.prog 52 #[vs, vb] w (OpenPost w vs l b) := by
  by_cases h : 100 < l.length ∨ 100 < b.length ∨ l.length = 0 ∨ b.all bkOk = false
  · exact open_early l b vs vb w B C hr hs hC hl hbl h
  · refine open_late l b vs vb w B C hr hB hs hC (by omega) (by omega) (by omega) ?_
    rcases Bool.eq_false_or_eq_true (b.all bkOk) with h4 | h4
    · exact h4
    · exact absurd (.inr (.inr (.inr h4))) h

theorem tank_ok {l : List Sd} {b : List Bk} (h : tankErr l b = 0) : l.length ≤ 100 ∧ b.length ≤ 100 ∧ 0 < l.length ∧ (∀ y ∈ b, bkOk y = true) ∧ ∀ k (hk : k < l.length), sdOk (prevM l k) l[k] = true := by
  unfold tankErr at h
  split at h
  · omega
  split at h
  · omega
  split at h
  · omega
  split at h
  · omega
  split at h
  · omega
  rename_i h1 h2 h3 h4 h5
  refine ⟨by omega, by omega, by omega, List.all_eq_true.1 (by simpa using h4), (sdsOk_iff l).1 (by simpa using h5)⟩
theorem sd_bd {p : Int} {x : Sd} (h : sdOk p x = true) : p + 1 ≤ x.m ∧ x.m ≤ 1000000 ∧ (0 ≤ x.lo ∧ x.lo ≤ 10000000) ∧ (0 ≤ x.hi ∧ x.hi ≤ 10000000) ∧ x.lo ≤ x.hi := by
  simp [sdOk, inB] at h
  omega

def sd0 : Sd := ⟨0, 0, 0⟩
/-- what went out between two soundings -/
def goneL (l : List Sd) (b : List Bk) (i j : Nat) : Int × Int :=
  ((l.getD i sd0).lo + (takenAt b (l.getD j sd0).m - takenAt b (l.getD i sd0).m) - (l.getD j sd0).hi, (l.getD i sd0).hi + (takenAt b (l.getD j sd0).m - takenAt b (l.getD i sd0).m) - (l.getD j sd0).lo)
def burnErr (l : List Sd) (b : List Bk) (i j : Int) : Int :=
  if tankErr l b = 0 then (if [i, j].all (inB 0 ((l.length : Int) - 1)) = false then 7 else if j ≤ i then 7 else if (goneL l b i.toNat j.toNat).2 < 0 then 9 else 0) else tankErr l b
def burnSpec (l : List Sd) (b : List Bk) (i j : Int) : Int × Int := if burnErr l b i j = 0 then (max 0 (goneL l b i.toNat j.toNat).1, (goneL l b i.toNat j.toNat).2) else (0, 0)
def BurnPost (w : World) (x : Int × Int) (y : Int) (e : Ending) (w' : World) : Prop := e = .returned (.tuple #[.agg #[.int .i64 x.1, .int .i64 x.2], .int .i64 y]) ∧ Below w.heap.size w w'

theorem taken_at {l : List Sd} {b : List Bk} {k : Nat} (hk : k < l.length) : ∃ h : k < (takenTo l b l.length).length, (takenTo l b l.length)[k]'h = takenAt b (l.getD k sd0).m := by
  refine ⟨by rw [takenTo_len l b (Nat.le_refl _)]; exact hk, ?_⟩
  simp [takenTo, hk]

theorem sds_all {l : List Sd} {w : World} {B n c : Nat} {A : Option Addr} (hr : Rd w B 3 (.slice A n c) n (sdsV l)) (hn : 0 < n) : ∃ b off, A = some ⟨b, off, none⟩ ∧ b < B ∧ ∀ k (_ : k < l.length), w.cell? ⟨b, off + k * 3, none⟩ = some (.int .i64 (l.getD k sd0).m) ∧
    w.cell? ⟨b, off + k * 3 + 1, none⟩ = some (.int .i64 (l.getD k sd0).lo) ∧ w.cell? ⟨b, off + k * 3 + 2, none⟩ = some (.int .i64 (l.getD k sd0).hi) := by
  obtain ⟨b, off, rfl, hb, hc⟩ := hr.at_ hn
  refine ⟨b, off, rfl, hb, fun k hk => ?_⟩
  obtain ⟨b', off', e, _, h1, h2, h3⟩ := sds_cells l k hk w B _ n c hr
  injection e with e
  injection e with e1 e2
  subst e1 e2
  have : l.getD k sd0 = l[k] := by simp [hk]
  rw [this]
  exact ⟨h1, h2, h3⟩

set_option maxHeartbeats 4000000 in
set_option maxRecDepth 100000 in
theorem burned_any (l : List Sd) (b : List Bk) (i j : Int) (vs vb : Value) (w : World) (B C : Nat) (hr : Rd w B 3 vs l.length (sdsV l)) (hB : B ≤ w.heap.size) (hs : Rd w C 2 vb b.length (bksV b)) (hC : C ≤ w.heap.size)
    (hl : l.length ≤ 1048576) (hbl : b.length ≤ 1048576) : Calls Try.prog 28 #[vs, vb, .int .i64 i, .int .i64 j] w (BurnPost w (burnSpec l b i j) (burnErr l b i j)) := by
  obtain ⟨S, eS⟩ : ∃ S, S = burnSpec l b i j := ⟨_, rfl⟩
  obtain ⟨E, eE⟩ : ∃ E, E = burnErr l b i j := ⟨_, rfl⟩
  rw [← eS, ← eE]
  have HS := Lib.hid eS
  have HE := Lib.hid eE
  clear eS eE
  obtain ⟨A, c, rfl, hnc⟩ := hr.shape
  obtain ⟨A', c', rfl, hnc'⟩ := hs.shape
  have b0 : Below w.heap.size w (w.alloc (.cells #[.int .i64 0, .int .i64 0] 72)) := (Below.refl _ _).alloc (Nat.le_refl _) _
  have hq0 := Blk.new w 72 #[.int .i64 0, .int .i64 0]
  go_enter Try.func28, Try.ntmps28
  go_wp2_with fail
  refine (open_any l b _ _ _ B C (hr.alloc hB _) (by simp; omega) (hs.alloc hC _) (by simp; omega) hl hbl).mono ?_
  rintro e w1 ⟨ho, hb1⟩
  have b1 := b0.trans (hb1.mono (by simp))
  have hq1 := hq0.below hb1 hq0.lt
  have z0 := hq1.cell 0
  have z1 := hq1.cell 1
  have f0 := hq1.frozen 0
  have f1 := hq1.frozen 1
  simp only [List.getElem?_toArray, List.getElem?_cons_zero, List.getElem?_cons_succ] at z0 z1
  rcases ho with ⟨hne, rfl⟩ | ⟨h0, g, v, rfl, hqt, hgl, hot⟩
  · have hes : burnErr l b i j = tankErr l b := by rw [burnErr, if_neg hne]
    have hse : burnSpec l b i j = (0, 0) := by rw [burnSpec, if_neg (by rw [hes]; exact hne)]
    rw [hes] at HE
    rw [hse] at HS
    have hne' : (tankErr l b != 0) = true := by simpa using hne
    obtain ⟨y, ey⟩ : ∃ y, y = tankErr l b := ⟨_, rfl⟩
    rw [← ey] at HE hne'
    rw [← ey]
    clear hes hse hne ey
    go_wp2_with fail
    rw [HS.out, HE.out]
    exact bodyPost_ret (v := .tuple #[.agg #[.int .i64 0, .int .i64 0], .int .i64 y]) (by simp [results, Try.results28, go_sem, z0, z1]) rfl ⟨rfl, by go_grown⟩
  · obtain ⟨hl100, hb100, hlpos, hbo, hso⟩ := tank_ok h0
    rw [burnErr, if_pos h0] at HE
    rcases Bool.eq_false_or_eq_true ([i, j].all (inB 0 ((l.length : Int) - 1))) with g1 | g1
    · by_cases g2 : j ≤ i
      · have g2' : decide (j ≤ i) = true := by simpa using g2
        have hE : E = 7 := by rw [HE.out, if_neg (by simp [g1]), if_pos g2]
        have hS : S = (0, 0) := by rw [HS.out, burnSpec, if_neg (by rw [burnErr, if_pos h0, if_neg (by simp [g1]), if_pos g2]; omega)]
        have HE := Lib.hid hE
        have HS := Lib.hid hS
        clear hE hS
        go_wp2_with fail
        refine (within_two i j 0 _ _ _ rfl).mono ?_
        rintro e w2 ⟨rfl, hb2⟩
        rw [g1]
        have b2 := b1.trans (hb2.mono b1.size)
        have hq2 := hq1.below hb2 hq1.lt
        clear z0 z1 f0 f1
        have z0 := hq2.cell 0
        have z1 := hq2.cell 1
        have f0 := hq2.frozen 0
        have f1 := hq2.frozen 1
        simp only [List.getElem?_toArray, List.getElem?_cons_zero, List.getElem?_cons_succ] at z0 z1
        go_wp2_with fail
        rw [HS.out, HE.out]
        exact bodyPost_ret (v := .tuple #[.agg #[.int .i64 0, .int .i64 0], .int .i64 7]) (by simp [results, Try.results28, go_sem, z0, z1]) rfl ⟨rfl, by go_grown⟩
      · have g2' : decide (j ≤ i) = false := by simpa using g2
        have hij : (0 ≤ i ∧ i < l.length) ∧ 0 ≤ j ∧ j < l.length := by
          simp [inB] at g1
          omega
        obtain ⟨a, rfl⟩ := Int.eq_ofNat_of_zero_le hij.1.1
        obtain ⟨d, rfl⟩ := Int.eq_ofNat_of_zero_le hij.2.1
        have ha : a < l.length := by omega
        have hd : d < l.length := by omega
        have hE : E = if (goneL l b a d).2 < 0 then 9 else 0 := by rw [HE.out, if_neg (by simp [g1]), if_neg (by omega), Int.toNat_natCast, Int.toNat_natCast]
        have hbe : burnErr l b a d = if (goneL l b a d).2 < 0 then 9 else 0 := by rw [burnErr, if_pos h0, if_neg (by simp [g1]), if_neg (by omega), Int.toNat_natCast, Int.toNat_natCast]
        have hS : S = if (goneL l b a d).2 < 0 then (0, 0) else (max 0 (goneL l b a d).1, (goneL l b a d).2) := by
          rw [HS.out, burnSpec, hbe, Int.toNat_natCast, Int.toNat_natCast]
          by_cases h : (goneL l b a d).2 < 0 <;> simp [h]
        clear hbe
        have HE := Lib.hid hE
        have HS := Lib.hid hS
        have hsa := sd_bd (hso a ha)
        have hsd := sd_bd (hso d hd)
        have hta := takenAt_bd hbo (l.getD a sd0).m
        have htd := takenAt_bd hbo (l.getD d sd0).m
        rw [show l[a] = l.getD a sd0 by simp [ha]] at hsa
        rw [show l[d] = l.getD d sd0 by simp [hd]] at hsd
        have Hg := Lib.hid (show goneL l b a d = ((l.getD a sd0).lo + (takenAt b (l.getD d sd0).m - takenAt b (l.getD a sd0).m) - (l.getD d sd0).hi, (l.getD a sd0).hi + (takenAt b (l.getD d sd0).m - takenAt b (l.getD a sd0).m) - (l.getD d sd0).lo) from rfl)
        clear hE hS hso hbo hij
        go_wp2_with fail
        refine (within_two a d 0 _ _ _ rfl).mono ?_
        rintro e w2 ⟨rfl, hb2⟩
        rw [g1]
        have b2 := b1.trans (hb2.mono b1.size)
        have hq2 := hq1.below hb2 hq1.lt
        have hqt2 := hqt.below hb2 hqt.lt
        have hot2 := own_below hot hb2 (Nat.le_refl _)
        have hr2 := hr.below (b2.mono hB)
        clear z0 z1 f0 f1 hq1 hqt hot hq0 b0
        obtain ⟨bb, off, rfl, hbb, hcs⟩ := sds_all hr2 hlpos
        obtain ⟨ca0, ca1, ca2⟩ := hcs a ha
        obtain ⟨cd0, cd1, cd2⟩ := hcs d hd
        obtain ⟨hta1, hta2⟩ := taken_at (b := b) ha
        obtain ⟨htd1, htd2⟩ := taken_at (b := b) hd
        obtain ⟨gv, capv, rfl, gv1, gv2, e8, cta⟩ := own_elem hot2 hta1
        obtain ⟨gv', capv', e2, e6, e7, e9, ctd⟩ := own_elem hot2 htd1
        clear e8 e9
        injection e2 with e2 e3 e4
        injection e2 with e2
        injection e2 with e2 e5
        subst e2
        clear e3 e4 e5
        rw [hta2] at cta
        rw [htd2] at ctd
        have z0 := hqt2.cell 0
        have z1 := hqt2.cell 1
        simp only [List.getElem?_toArray, List.getElem?_cons_zero, List.getElem?_cons_succ] at z0 z1
        obtain ⟨alo, ea1⟩ : ∃ x, x = (l.getD a sd0).lo := ⟨_, rfl⟩
        obtain ⟨ahi, ea2⟩ : ∃ x, x = (l.getD a sd0).hi := ⟨_, rfl⟩
        obtain ⟨dlo, ed1⟩ : ∃ x, x = (l.getD d sd0).lo := ⟨_, rfl⟩
        obtain ⟨dhi, ed2⟩ : ∃ x, x = (l.getD d sd0).hi := ⟨_, rfl⟩
        obtain ⟨ta, et1⟩ : ∃ x, x = takenAt b (l.getD a sd0).m := ⟨_, rfl⟩
        obtain ⟨td, et2⟩ : ∃ x, x = takenAt b (l.getD d sd0).m := ⟨_, rfl⟩
        rw [← ea1] at ca1 hsa
        rw [← ea2] at ca2 hsa
        rw [← ed1] at cd1 hsd
        rw [← ed2] at cd2 hsd
        rw [← et1] at cta hta
        rw [← et2] at ctd htd
        rw [← ea1, ← ea2, ← ed1, ← ed2, ← et1, ← et2] at Hg
        have hcall := gone_any g l.length bb off c gv 0 capv a d alo ahi dlo dhi ta td w2 hqt2.lt (by have := b2.size; omega) gv2 z0 z1 ca1 ca2 cd1 cd2 (by simpa using cta) (by simpa using ctd) ha hd hsa.2.2.1 hsa.2.2.2.1 hsd.2.2.1 hsd.2.2.2.1 (by omega) (by omega)
        have Hcall := Lib.hid hcall
        obtain ⟨_, _, ⟨q1, q1'⟩, ⟨q2, q2'⟩, _⟩ := hsa
        obtain ⟨_, _, ⟨q3, q3'⟩, ⟨q4, q4'⟩, _⟩ := hsd
        clear hcall z0 z1 ca0 ca1 ca2 cd0 cd1 cd2 cta ctd hqt2 hot2 hr2 hcs ea1 ea2 ed1 ed2 et1 et2 hta1 hta2 htd1 htd2
        go_wp2_with fail
        refine Hcall.out.mono ?_
        rintro e w3 ⟨rfl, hb3⟩
        have b3 := b2.trans (hb3.mono b2.size)
        have hq3 := hq2.below hb3 hq2.lt
        have hq3l := hq3.lt
        have z0 := hq3.cell 0
        have z1 := hq3.cell 1
        have f0 := hq3.frozen 0
        have f1 := hq3.frozen 1
        simp only [List.getElem?_toArray, List.getElem?_cons_zero, List.getElem?_cons_succ] at z0 z1
        by_cases g3 : ahi + (td - ta) - dlo < 0
        · have hE : E = 9 := by rw [HE.out, Hg.out, if_pos g3]
          have hS : S = (0, 0) := by rw [HS.out, Hg.out, if_pos g3]
          have g3' : decide (ahi + (td - ta) - dlo < 0) = true := by simpa using g3
          have HE := Lib.hid hE
          have HS := Lib.hid hS
          clear hE hS
          go_wp2_with fail
          rw [HS.out, HE.out]
          exact bodyPost_ret (v := .tuple #[.agg #[.int .i64 0, .int .i64 0], .int .i64 9]) (by simp [results, Try.results28, go_sem, z0, z1, hq3l]) rfl ⟨rfl, by go_grown⟩
        · have hE : E = 0 := by rw [HE.out, Hg.out, if_neg g3]
          have hS : S = (max 0 (alo + (td - ta) - dhi), ahi + (td - ta) - dlo) := by rw [HS.out, Hg.out, if_neg g3]
          have g3' : decide (ahi + (td - ta) - dlo < 0) = false := by simpa using g3
          have HE := Lib.hid hE
          by_cases g4 : 0 < alo + (td - ta) - dhi
          · rw [show max 0 (alo + (td - ta) - dhi) = alo + (td - ta) - dhi by omega] at hS
            have HS := Lib.hid hS
            clear hE hS
            go_wp2_with fail
            rw [HS.out, HE.out]
            exact bodyPost_ret (v := .tuple #[.agg #[.int .i64 (alo + (td - ta) - dhi), .int .i64 (ahi + (td - ta) - dlo)], .int .i64 0]) (by simp [results, Try.results28, go_sem, z0, z1, hq3l]) rfl ⟨rfl, by go_grown⟩
          · rw [show max 0 (alo + (td - ta) - dhi) = 0 by omega] at hS
            have HS := Lib.hid hS
            clear hE hS
            go_wp2_with fail
            rw [HS.out, HE.out]
            exact bodyPost_ret (v := .tuple #[.agg #[.int .i64 0, .int .i64 (ahi + (td - ta) - dlo)], .int .i64 0]) (by simp [results, Try.results28, go_sem, z0, z1, hq3l]) rfl ⟨rfl, by go_grown⟩
    · have hE : E = 7 := by rw [HE.out, if_pos g1]
      have hS : S = (0, 0) := by rw [HS.out, burnSpec, if_neg (by rw [burnErr, if_pos h0, if_pos g1]; omega)]
      have HE := Lib.hid hE
      have HS := Lib.hid hS
      clear hE hS
      go_wp2_with fail
      refine (within_two i j 0 _ _ _ rfl).mono ?_
      rintro e w2 ⟨rfl, hb2⟩
      rw [g1]
      have b2 := b1.trans (hb2.mono b1.size)
      have hq2 := hq1.below hb2 hq1.lt
      clear z0 z1 f0 f1
      have z0 := hq2.cell 0
      have z1 := hq2.cell 1
      have f0 := hq2.frozen 0
      have f1 := hq2.frozen 1
      simp only [List.getElem?_toArray, List.getElem?_cons_zero, List.getElem?_cons_succ] at z0 z1
      go_wp2_with fail
      rw [HS.out, HE.out]
      exact bodyPost_ret (v := .tuple #[.agg #[.int .i64 0, .int .i64 0], .int .i64 7]) (by simp [results, Try.results28, go_sem, z0, z1]) rfl ⟨rfl, by go_grown⟩
end Go.Proofs.Ytkbfdgacnoadlaa
