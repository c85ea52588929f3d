/- The reference's Gone: what went out between two soundings. -/
import Derived.Test.YtkbfdgacnoadlaaR9
import Derived.BigRegion
namespace Go.Proofs.Ytkbfdgacnoadlaa
open Go.RowKit

/-- the minutes of good soundings rise -/
theorem m_mono {l : List Sd} (h : ∀ k (hk : k < l.length), sdOk (prevM l k) l[k] = true) (i : Nat) : ∀ j, i ≤ j → j < l.length → (l.getD i sd0).m ≤ (l.getD j sd0).m
  | 0, hij, hj => by
    obtain rfl : i = 0 := by omega
    exact Int.le_refl _
  | j + 1, hij, hj => by
    rcases (by omega : i = j + 1 ∨ i ≤ j) with rfl | hle
    · exact Int.le_refl _
    · have h1 := m_mono h i j hle (by omega)
      have h2 := (sd_bd (h (j + 1) hj)).1
      rw [prevM_succ l (by omega)] at h2
      have e1 : l.getD (j + 1) sd0 = l[j + 1] := by simp [hj]
      have e2 : l.getD j sd0 = l[j] := by simp [(by omega : j < l.length)]
      rw [e2] at h1
      rw [e1]
      omega
/-- what was taken up between two minutes -/
def between (b : List Bk) (p q : Int) : Int := takenAt b q - takenAt b p
theorem between_snoc (b : List Bk) (y : Bk) (p q : Int) (h : p ≤ q) : between (b ++ [y]) p q = between b p q + if p < y.m ∧ y.m ≤ q then y.l else 0 := by
  unfold between
  rw [takenAt_snoc, takenAt_snoc]
  by_cases h1 : y.m ≤ p <;> by_cases h2 : y.m ≤ q
  · rw [if_pos h1, if_pos h2, if_neg (by omega)]; omega
  · omega
  · rw [if_neg h1, if_pos h2, if_pos (by omega)]; omega
  · rw [if_neg h1, if_neg h2, if_neg (by omega)]; omega
theorem between_bd {b : List Bk} (h : ∀ y ∈ b, bkOk y = true) (hl : b.length ≤ 100) (p q : Int) : -1000000000 ≤ between b p q ∧ between b p q ≤ 1000000000 := by
  unfold between
  have := takenAt_bd h p
  have := takenAt_bd h q
  omega

set_option maxHeartbeats 8000000 in
set_option maxRecDepth 100000 in
theorem rgone_any (l : List Sd) (b : List Bk) (i j : Nat) (vs vb : Value) (w : World) (B C : Nat) (hr : Rd w B 3 vs l.length (sdsV l)) (hB : B ≤ w.heap.size) (hs : Rd w C 2 vb b.length (bksV b)) (hC : C ≤ w.heap.size)
    (h0 : tankErr l b = 0) (hij : i ≤ j) (hj : j < l.length) : Calls Try.prog 31 #[vs, vb, .int .i64 i, .int .i64 j] w fun e w' => e = .returned (.agg #[.int .i64 (goneL l b i j).1, .int .i64 (goneL l b i j).2]) ∧ Below w.heap.size w w' := by
  obtain ⟨hl1, hb1, -, hbo, hso⟩ := tank_ok h0
  obtain ⟨A, ca, rfl, hna⟩ := hr.shape
  obtain ⟨A', cb, rfl, hnb⟩ := hs.shape
  have hi : i < l.length := by omega
  have hmm := m_mono hso i j hij hj
  obtain ⟨g, off, rfl, hgB, hc⟩ := sds_all hr (by omega)
  obtain ⟨c0, c1, c2⟩ := hc i hi
  obtain ⟨d0, d1, d2⟩ := hc j hj
  have ei : l.getD i sd0 = l[i] := by simp [hi]
  have ej : l.getD j sd0 = l[j] := by simp [hj]
  have qi := sd_bd (hso i hi)
  have qj := sd_bd (hso j hj)
  rw [← ei] at qi
  rw [← ej] at qj
  obtain ⟨E, eE⟩ : ∃ E, E = goneL l b i j := ⟨_, rfl⟩
  have hE := eE
  rw [goneL] at hE
  rw [← eE]
  obtain ⟨x, ex⟩ : ∃ x, x = l.getD i sd0 := ⟨_, rfl⟩
  obtain ⟨y, ey⟩ : ∃ y, y = l.getD j sd0 := ⟨_, rfl⟩
  rw [← ex] at c0 c1 c2 qi hmm hE
  rw [← ey] at d0 d1 d2 qj hmm hE
  obtain ⟨mi, ilo, ihi⟩ := x
  obtain ⟨mj, jlo, jhi⟩ := y
  simp only at c0 c1 c2 d0 d1 d2 qi qj hmm hE
  obtain ⟨-, -, ⟨qi1, qi2⟩, ⟨qi3, qi4⟩, -⟩ := qi
  obtain ⟨-, -, ⟨qj1, qj2⟩, ⟨qj3, qj4⟩, -⟩ := qj
  have HE := Lib.hid (show E = (ilo + between b mi mj - jhi, ihi + between b mi mj - jlo) from hE)
  have Hbo := Lib.hid hbo
  have i0 : (0 : Int) ≤ (i : Int) := Int.natCast_nonneg _
  have i1 : (i : Int) < (l.length : Int) := by omega
  have j0 : (0 : Int) ≤ (j : Int) := Int.natCast_nonneg _
  have j1 : (j : Int) < (l.length : Int) := by omega
  have hgw : g < w.heap.size := by omega
  have hbl := hb1
  clear hc hE eE ei ej ex ey hbo hso hr
  have Hc0 := Lib.hid c0
  have Hc1 := Lib.hid c1
  have Hc2 := Lib.hid c2
  have Hd0 := Lib.hid d0
  have Hd1 := Lib.hid d1
  have Hd2 := Lib.hid d2
  clear c0 c1 c2 d0 d1 d2
  have hq0 := Blk.new w 72 #[.int .i64 0, .int .i64 0]
  go_enter Try.func31, Try.ntmps31
  go_wp2_with fail
  go_loopw [9, 10] (fun t i wr => ∃ k : Nat, k ≤ b.length ∧ i = .int .i64 k ∧ t = .int .i64 (between (b.take k) mi mj) ∧ Blk wr w.heap.size 72 #[.int .i64 0, .int .i64 0] ∧ Below w.heap.size w wr) (fun _ i _ => b.length - (intOf i).toNat)
  case atStart => exact ⟨0, Nat.zero_le _, rfl, rfl, hq0, (Below.refl _ _).alloc (Nat.le_refl _) _⟩
  case round =>
    clear hq0
    obtain ⟨k, hk, rfl, rfl, hq, hbw⟩ := hrel
    have hsz := hbw.size
    have c0 := keepc hgw Hc0.out hbw
    have d0 := keepc hgw Hd0.out hbw
    by_cases hlt : k < b.length
    · obtain ⟨gb, ob, rfl, hgb, y0, y1⟩ := bks_cells b k hlt _ C _ _ _ (hs.below (hbw.mono hC))
      have k0 : (0 : Int) ≤ (k : Int) := Int.natCast_nonneg _
      have k1 : (k : Int) < (b.length : Int) := by omega
      have hyb := Hbo.out _ (List.getElem_mem hlt)
      have hsn := between_snoc (b.take k) b[k] mi mj hmm
      rw [← List.take_succ_eq_append_getElem hlt] at hsn
      obtain ⟨t0, t1⟩ := between_bd (b := b.take k) (fun y hy => Hbo.out y (List.mem_of_mem_take hy)) (by rw [List.length_take]; omega) mi mj
      obtain ⟨y, hy⟩ : ∃ y, y = b[k] := ⟨_, rfl⟩
      rw [← hy] at y0 y1 hyb hsn
      clear hy
      obtain ⟨ym, yl⟩ := y
      simp only [bkOk, Bool.and_eq_true, inB_iff] at hyb
      simp only at y0 y1 hsn
      obtain ⟨⟨q0, q1⟩, q2, q3⟩ := hyb
      obtain ⟨T, eT⟩ : ∃ T, T = between (b.take k) mi mj := ⟨_, rfl⟩
      rw [← eT] at t0 t1 hsn ⊢
      have Hsn := Lib.hid hsn
      clear hsn eT
      by_cases g1 : mi < ym
      · have g1' : decide (mi < ym) = true := decide_eq_true g1
        by_cases g2 : ym ≤ mj
        · have g2' : decide (ym ≤ mj) = true := decide_eq_true g2
          have Hf := Lib.hid (Hsn.out.trans (by rw [if_pos ⟨g1, g2⟩]))
          go_wp2_with fail
          go_quiet (fail)
          go_wp2_with fail
          go_roundw
          case rel => exact ⟨k + 1, by omega, by go_num, by rw [Hf.out], hq.drewN _, below_drewN hbw _⟩
          case measure => simp [intOf]; omega
        · have g2' : decide (ym ≤ mj) = false := decide_eq_false g2
          have Hf := Lib.hid (Hsn.out.trans (by rw [if_neg (fun h => g2 h.2), Int.add_zero]))
          go_wp2_with fail
          go_quiet (fail)
          go_wp2_with fail
          go_roundw
          case rel => exact ⟨k + 1, by omega, by go_num, by rw [Hf.out], hq.drewN _, below_drewN hbw _⟩
          case measure => simp [intOf]; omega
      · have g1' : decide (mi < ym) = false := decide_eq_false g1
        have Hf := Lib.hid (Hsn.out.trans (by rw [if_neg (fun h => g1 h.1), Int.add_zero]))
        go_wp2_with fail
        go_quiet (fail)
        go_wp2_with fail
        go_roundw
        case rel => exact ⟨k + 1, by omega, by go_num, by rw [Hf.out], hq.drewN _, below_drewN hbw _⟩
        case measure => simp [intOf]; omega
    · obtain rfl : k = b.length := by omega
      obtain ⟨t0, t1⟩ := between_bd (b := b) Hbo.out hbl mi mj
      rw [List.take_length]
      obtain ⟨T, eT⟩ : ∃ T, T = between b mi mj := ⟨_, rfl⟩
      rw [← eT] at HE t0 t1 ⊢
      clear eT c0 d0
      have c1 := keepc hgw Hc1.out hbw
      have c2 := keepc hgw Hc2.out hbw
      have d1 := keepc hgw Hd1.out hbw
      have d2 := keepc hgw Hd2.out hbw
      have s1 : IntKind.i64.wrap (ilo + T) = ilo + T := IntWalk.i64_in _ ⟨by omega, by omega⟩
      have s2 : IntKind.i64.wrap (ilo + T - jhi) = ilo + T - jhi := IntWalk.i64_in _ ⟨by omega, by omega⟩
      have s3 : IntKind.i64.wrap (ihi + T) = ihi + T := IntWalk.i64_in _ ⟨by omega, by omega⟩
      have s4 : IntKind.i64.wrap (ihi + T - jlo) = ihi + T - jlo := IntWalk.i64_in _ ⟨by omega, by omega⟩
      have n0 := hq.cell 0
      have n1 := hq.cell 1
      have z0 := hq.frozen 0
      have z1 := hq.frozen 1
      simp only [List.getElem?_toArray, List.getElem?_cons_zero, List.getElem?_cons_succ] at n0 n1
      have hq2 := hq.set_ 0 (.int .i64 (ilo + T - jhi))
      have hq3 := hq2.set_ 1 (.int .i64 (ihi + T - jlo))
      have k0 := hq2.cell 0
      have k1 := hq3.cell 1
      simp at k0 k1
      clear hq2 hq3 h0 hij hj hmm hna hnb hl1 hb1 hbl Hbo Hc0 Hc1 Hc2 Hd0 Hd1 Hd2 hs hB hC hi hgB qi1 qi2 qi3 qi4 qj1 qj2 qj3 qj4 t0 t1 hk hsz
      go_wp2_with fail
      go_region
      go_wp2_with fail
      exact bodyPost_ret (v := .agg #[.int .i64 (ilo + T - jhi), .int .i64 (ihi + T - jlo)]) (by simp [results, Try.results31, go_sem, k0, k1]) rfl ⟨by rw [HE.out], by go_grown⟩
end Go.Proofs.Ytkbfdgacnoadlaa
