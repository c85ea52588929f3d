/- River: what flows from land, by the reference (printed by gen_w4.py). -/
import Derived.Test.YtncnlhkmdljgpaaW3
import Derived.Test.YtncnlhkmdljgpaaV18
import Derived.Test.YtncnlhkmdljgpaaExA
namespace Go.Proofs.Ytncnlhkmdljgpaa
open Go Go.RowKit

def coldsOf (sky : List Sky) (k : Nat) : List Int := (sky.take k).map fun h => h.heat.lo
def warmsOf (sky : List Sky) (k : Nat) : List Int := (sky.take k).map fun h => h.heat.hi
theorem coldsOf_succ {sky : List Sky} {k : Nat} (hk : k < sky.length) : coldsOf sky (k + 1) = coldsOf sky k ++ [(sky.getD k sky0).heat.lo] := by
  unfold coldsOf
  rw [List.take_succ_eq_append_getElem hk, List.map_append, List.map_singleton]
  simp [hk]
theorem warmsOf_succ {sky : List Sky} {k : Nat} (hk : k < sky.length) : warmsOf sky (k + 1) = warmsOf sky k ++ [(sky.getD k sky0).heat.hi] := by
  unfold warmsOf
  rw [List.take_succ_eq_append_getElem hk, List.map_append, List.map_singleton]
  simp [hk]
theorem coldsOf_len {sky : List Sky} {k : Nat} (hk : k ≤ sky.length) : (coldsOf sky k).length = k := by simp [coldsOf]; omega
theorem warmsOf_len {sky : List Sky} {k : Nat} (hk : k ≤ sky.length) : (warmsOf sky k).length = k := by simp [warmsOf]; omega
/-- the temperatures before, both ways -/
structure HRel (wk : World) (sky : List Sky) (j : Nat) (wr : World) (u v : Value) : Prop where
  hu : wr.ownsRow wk.heap.size 3 1 u j (ints (coldsOf sky j))
  hv : wr.ownsRow wk.heap.size 3 1 v j (ints (warmsOf sky j))
  uv : Apart u v
  below : Below wk.heap.size wk wr
theorem own_far_ne {w : World} {base e size n b : Nat} {v : Value} {xs : List Value} (h : w.ownsRow base e size v n xs) (hb : b < base) : v.ownBlock ≠ some b := fun e => by
  have := (h.lt b e).1
  omega

theorem sky_bd {h : Sky} (hs : skyOk h = true) : (0 ≤ h.rain.lo ∧ h.rain.lo ≤ h.rain.hi ∧ h.rain.hi ≤ 20000) ∧ -500 ≤ h.heat.lo ∧ h.heat.lo ≤ h.heat.hi ∧ h.heat.hi ≤ 500 := by
  simp only [skyOk, Bool.and_eq_true, bdOk_iff] at hs
  omega
theorem warms_bd {sky : List Sky} (hs : ∀ j, j < sky.length → skyOk (sky.getD j sky0) = true) {k : Nat} (_hk : k ≤ sky.length) {t : Int} (ht : t ∈ warmsOf sky k) : -500 ≤ t ∧ t ≤ 500 := by
  obtain ⟨h, hm, rfl⟩ := List.mem_map.1 ht
  obtain ⟨i, hi, rfl⟩ := List.getElem_of_mem (List.mem_of_mem_take hm)
  have := sky_bd (hs i hi)
  simp [hi] at this
  omega
theorem colds_bd {sky : List Sky} (hs : ∀ j, j < sky.length → skyOk (sky.getD j sky0) = true) {k : Nat} (_hk : k ≤ sky.length) {t : Int} (ht : t ∈ coldsOf sky k) : -500 ≤ t ∧ t ≤ 500 := by
  obtain ⟨h, hm, rfl⟩ := List.mem_map.1 ht
  obtain ⟨i, hi, rfl⟩ := List.getElem_of_mem (List.mem_of_mem_take hm)
  have := sky_bd (hs i hi)
  simp [hi] at this
  omega
/-- the melt of the last hour -/
theorem melts_last (rate s : Int) (l : List Int) (t : Int) (k : Nat) (hk : l.length = k) (M : Int) (hM : M = min (leftOf rate s l) (warmth rate t)) (v : Value) (W : World) (base : Nat) (h : W.ownsRow base 3 1 v (k + 1) (ints l ++ #[Value.int .i64 t].toList)) (hl : k ≤ 400) (h1 : 0 ≤ rate ∧ rate ≤ 100) (h2 : 0 ≤ s ∧ s ≤ 1000000) (h3 : ∀ t ∈ l, -500 ≤ t ∧ t ≤ 500) (h4 : -500 ≤ t ∧ t ≤ 500) :
    Calls Try.prog 62 #[.int .i64 rate, .int .i64 s, v] W fun e w' => (∃ g cap, e = .returned (.slice (some ⟨g, 0, none⟩) (k + 1) cap) ∧ w'.cell? ⟨g, k, none⟩ = some (.int .i64 M)) ∧ Below W.heap.size W w' := by
  subst hk
  have h' : W.ownsRow base 3 1 v (l ++ [t]).length (ints (l ++ [t])) := by
    rw [rints_snoc, List.length_append]
    exact h
  refine (rmelts_any rate s (l ++ [t]) v W _ (Rd.of_own h') (Nat.le_refl _) (by simp; omega) h1 h2 ?_).mono ?_
  · intro u hu
    rcases List.mem_append.1 hu with hu | hu
    · exact h3 u hu
    · rw [List.mem_singleton.1 hu]
      exact h4
  · rintro e w' ⟨⟨v', rfl, hm⟩, hb⟩
    have hg := melts_get (rate := rate) (l ++ [t]) s l.length (by simp)
    obtain ⟨g, cap, rfl, _, _, _, hc⟩ := own_elem hm (k := l.length) (by rw [melts_len]; simp)
    refine ⟨⟨g, cap, by rw [List.length_append, List.length_singleton], ?_⟩, hb⟩
    rw [hc, hM]
    rw [List.getElem?_eq_getElem (by rw [melts_len]; simp)] at hg
    injection hg with hg
    rw [hg]
    simp


theorem own_empty {w : World} {g T base : Nat} (size : Nat) (h : Blk w g T #[]) (hb : base ≤ g) : w.ownsRow base T size (.slice (some ⟨g, 0, none⟩) 0 0) 0 [] :=
  ⟨by simp, .inr ⟨g, 0, #[], rfl, hb, h, Nat.le_refl _, Nat.zero_le _, by simp, by simp⟩⟩
theorem apart_new {w : World} {base e size n : Nat} {vc vw v8 : Value} {xs : List Value} (uv : Apart vc vw) (hv : w.ownsRow base e size vw n xs) (h : ∀ b, v8.ownBlock = some b → vc.ownBlock = some b ∨ w.heap.size ≤ b) : Apart v8 vw := fun g h1 h2 => by
  rcases h g h1 with h3 | h3
  · exact uv g h3 h2
  · have := (hv.lt g h2).2; omega
theorem apart_push {w : World} {base e size n : Nat} {v8 vw v' : Value} {xs : List Value} (uv : Apart v8 vw) (hv : w.ownsRow base e size v8 n xs) (h : v'.ownBlock = vw.ownBlock ∨ v'.ownBlock = some w.heap.size) : Apart v8 v' := fun g h1 h2 => by
  rcases h with h | h
  · exact uv g h1 (h ▸ h2)
  · rw [h] at h2; injection h2 with h2; have := (hv.lt g h1).2; omega

set_option maxRecDepth 100000 in
theorem rrunoff_any (c : Land) (sky : List Sky) (v : Value) (w : World) (B : Nat) (hr : Rd w B 4 v sky.length (skysC sky)) (_hB : B ≤ w.heap.size) (hl : sky.length ≤ 400) (hland : LandOk c) (hsky : ∀ j, j < sky.length → skyOk (sky.getD j sky0) = true) :
    Calls Try.prog 20 #[.agg (landV c), v] w fun e w' => (∃ v', e = .returned v' ∧ w'.ownsRow w.heap.size 23 2 v' sky.length (bdsC (flowsTo c sky sky.length))) ∧ Below w.heap.size w w' := by
  obtain ⟨A, cp, rfl, hnc⟩ := hr.shape
  have hbw := Below.refl w.heap.size w
  refine EC.enter 115 Try.func20 rfl rfl rfl ?_
  refine EC.seq ?_
  refine EC.region ?_
  refine EL.newP (bx_25 rfl) rfl ?_
  intro g1 w1 q1 hb1 hg1 hl1
  have bhbw_1 := Nat.le_trans hbw.size hg1
  replace hbw := Below.on hbw hb1 hbw.size
  clear hb1 hg1 hl1
  refine EL.val (x_assign rfl) rfl ?_
  refine EL.nil ?_
  refine EX.seq ?_
  refine EC.seq ?_
  refine EC.region ?_
  have lt2_1 := q1.lt
  have st2_hbw := hbw.size
  refine EL.newS bs_28_0 rfl ?_
  intro g3 w3 q3 hb3 hg3 hl3
  have n1_3 : g1 ≠ g3 := Nat.ne_of_lt (Nat.lt_of_lt_of_le q1.lt hg3)
  have bhbw_3 := Nat.le_trans hbw.size hg3
  replace q1 := q1.below hb3 q1.lt
  replace hbw := Below.on hbw hb3 hbw.size
  clear hb3 hl3
  have o3 := own_empty (base := w1.heap.size) 2 q3 hg3
  refine EL.val (x_assign rfl) rfl ?_
  refine EL.nil ?_
  refine EX.seq ?_
  refine EC.seq ?_
  refine EC.seq ?_
  refine EC.region ?_
  refine EL.val (x_assign rfl) rfl ?_
  refine EL.nil ?_
  refine EX.seq ?_
  refine EC.block ?_
  have hg1o : g1 < w1.heap.size := lt2_1
  have hwo : w.heap.size ≤ w1.heap.size := st2_hbw
  refine EC.loopD [5, 6, 7, 8, 9, 10, 11, 13, 14, 15, 16, 17, 18, 19, 20, 21, 22, 23, 24, 25, 26, 27, 28, 29, 30, 31, 32, 33, 34, 35, 36, 37, 38, 39, 40, 41, 42, 43, 44, 45, 46, 47, 48, 49, 50, 51, 52, 53, 54, 55, 56, 57, 58, 59, 60, 61, 62, 63, 64, 65, 66, 67, 68, 69, 70, 71, 72, 73, 74, 75, 76, 77, 78, 79, 80, 81, 82, 83, 84, 85, 86, 87, 88, 89, 90, 91, 92, 93, 94, 95, 96, 97, 98, 99, 100, 101, 102, 103, 104, 105, 106, 107, 108, 109, 110, 111, 112, 113] (fun x : Nat × Value => [(6, .int .i64 (x.1 : Nat)), (5, x.2)]) (fun x W => x.1 ≤ sky.length ∧ W.ownsRow w1.heap.size 23 2 x.2 x.1 (bdsC (flowsTo c sky x.1)) ∧ Blk W g1 25 (landV c) ∧ w1.heap.size ≤ W.heap.size ∧ Below w.heap.size w W) (fun x => sky.length - x.1) (0, _) ⟨Nat.zero_le _, o3, q1, ?_, hbw⟩ ⟨rfl, rfl, trivial⟩ ?_
  · exact Nat.le_trans hg3 (Nat.le_of_lt q3.lt)
  · rintro ⟨i, vo⟩ WK ⟨hi, ho, q1, hBo, hbw⟩
    have hgo : g1 < w1.heap.size := hg1o
    by_cases hlt : i < sky.length
    ·
      simp only at hi ho
      have hbr := Below.refl WK.heap.size WK
      have hwK := hbw.size
      have q1K := q1
      refine EC.seq ?_
      refine EC.seq ?_
      refine EC.region ?_
      refine EL.val (x_move rfl) rfl ?_
      refine EL.val (x_move rfl) rfl ?_
      refine EL.val (ln_26 rfl) rfl ?_
      refine EL.val (x_lss rfl rfl (by first | assumption | exact decide_eq_true (by omega))) rfl ?_
      refine EL.nil ?_
      refine EX.seq ?_
      refine EC.yes rfl ?_
      refine EC.skip ?_
      refine EX.seq ?_
      refine EC.seq ?_
      refine EC.block ?_
      refine EC.seq ?_
      refine EC.region ?_
      have lt4_1 := q1.lt
      have st4_hbr := hbr.size
      refine EL.newS bs_121_0 rfl ?_
      intro g5 w5 q5 hb5 hg5 hl5
      have n1_5 : g1 ≠ g5 := Nat.ne_of_lt (Nat.lt_of_lt_of_le q1.lt hg5)
      have bhbr_5 := Nat.le_trans hbr.size hg5
      replace q1 := q1.below hb5 q1.lt
      replace hbr := Below.on hbr hb5 hbr.size
      clear hb5 hl5
      have o5 := own_empty (base := WK.heap.size) 1 q5 hg5
      have lt6_1 := q1.lt
      have lt6_5 := q5.lt
      have st6_hbr := hbr.size
      refine EL.newS bs_121_0 rfl ?_
      intro g7 w7 q7 hb7 hg7 hl7
      have n1_7 : g1 ≠ g7 := Nat.ne_of_lt (Nat.lt_of_lt_of_le q1.lt hg7)
      have n5_7 : g5 ≠ g7 := Nat.ne_of_lt (Nat.lt_of_lt_of_le q5.lt hg7)
      have bhbr_7 := Nat.le_trans hbr.size hg7
      replace q1 := q1.below hb7 q1.lt
      replace q5 := q5.below hb7 q5.lt
      replace o5 := own_below o5 hb7 (Nat.le_refl _)
      replace hbr := Below.on hbr hb7 hbr.size
      clear hb7 hl7
      have o7 := own_empty (base := w5.heap.size) 1 q7 hg7
      refine EL.val (x_assign rfl) rfl ?_
      refine EL.val (x_assign rfl) rfl ?_
      refine EL.nil ?_
      refine EX.seq ?_
      refine EC.seq ?_
      refine EC.seq ?_
      refine EC.region ?_
      refine EL.val (x_assign rfl) rfl ?_
      refine EL.nil ?_
      refine EX.seq ?_
      refine EC.block ?_
      refine EC.loopD [7, 8, 9, 21, 22, 23, 24, 25, 26, 27, 28, 29, 30, 31, 32, 33, 34, 35, 36, 37, 38, 39, 40, 41, 42, 43] (fun x : Nat × Value × Value => [(9, .int .i64 (x.1 : Nat)), (7, x.2.1), (8, x.2.2)]) (fun x W => x.1 ≤ i ∧ HRel WK sky x.1 W x.2.1 x.2.2) (fun x => i - x.1) (0, _, _) ⟨Nat.zero_le _, own_less o5 (Nat.le_refl _), own_less o7 st6_hbr, ?_, hbr⟩ ⟨rfl, rfl, rfl, trivial⟩ ?_
      · intro g h1 h2; simp [Value.ownBlock] at h1 h2; subst h1; exact n5_7 h2.symm
      · rintro ⟨k, vc, vw⟩ wr ⟨hk, R⟩
        simp only at hk R
        by_cases hkl : k < i
        ·
          have hks : k < sky.length := by omega
          have hg1K : g1 < WK.heap.size := Nat.lt_of_lt_of_le hgo hBo
          replace q1 := q1K.below R.below q1K.lt
          have hB0 := R.below.size
          obtain ⟨b, off, rfl, hb0, ⟨c0, c1, c2, c3⟩⟩ := skys_cells sky k hks w B _ _ _ hr
          have hbR := hbw.trans (R.below.mono hwK)
          obtain ⟨x, ex⟩ : ∃ x, x = sky.getD k sky0 := ⟨_, rfl⟩
          have hu := R.hu
          have hv := R.hv
          have huv := R.uv
          rw [← ex] at c0 c1 c2 c3
          refine EC.seq ?_
          refine EC.seq ?_
          refine EC.region ?_
          refine EL.val (x_move rfl) rfl ?_
          refine EL.val (x_move rfl) rfl ?_
          refine EL.val (x_lss rfl rfl (by first | assumption | exact decide_eq_true (by omega))) rfl ?_
          refine EL.nil ?_
          refine EX.seq ?_
          refine EC.yes rfl ?_
          refine EC.skip ?_
          refine EX.seq ?_
          refine EC.seq ?_
          refine EC.block ?_
          have hW := below_row hu (w1 := wr) ⟨rfl, rfl, rfl, Nat.le_refl _, fun _ _ _ => rfl⟩ hB0
          clear hW
          have lt_1 := q1.lt
          refine EC.regionS [[], [], [], [1, 2], [1, 2, 3], [1, 2, 3, 4], [1, 2, 3, 4, 5], [1, 2, 3, 4, 5, 6], [0, 1, 2, 3, 4, 5, 6, 7], [], [], [], [10, 11], [10, 11, 12], [10, 11, 12, 13], [10, 11, 12, 13, 14], [10, 11, 12, 13, 14, 15], [0, 1, 2, 3, 4, 5, 6, 7, 8, 9, 10, 11, 12, 13, 14, 15, 16], [0, 1, 2, 3, 4, 5, 6, 7, 8, 9, 10, 11, 12, 13, 14, 15, 16, 17], [0, 1, 2, 3, 4, 5, 6, 7, 8, 9, 10, 11, 12, 13, 14, 15, 16, 17, 18]] 17 [] [8] (fun fl w_ => wr.grownBy w_ (vc : Value).ownBlock ∧ (fl 8 = false → w_.ownsRow WK.heap.size 3 1 vc k (ints (coldsOf sky k)))) (phiS (fun i_ r => match i_ with | 0 => r 0 = vc | 1 => r 1 = .slice (some ⟨b, off, none⟩) sky.length cp | 2 => r 2 = .int .i64 (k : Nat) | 3 => r 3 = .pointer (some ⟨b, off + k * 4, none⟩) | 4 => r 4 = .pointer (some ⟨b, off + k * 4 + 2, none⟩) | 5 => r 5 = .pointer (some ⟨b, off + k * 4 + 2, none⟩) | 6 => r 6 = .int .i64 x.heat.lo | 9 => r 9 = vw | 10 => r 10 = .slice (some ⟨b, off, none⟩) sky.length cp | 11 => r 11 = .int .i64 (k : Nat) | 12 => r 12 = .pointer (some ⟨b, off + k * 4, none⟩) | 13 => r 13 = .pointer (some ⟨b, off + k * 4 + 2, none⟩) | 14 => r 14 = .pointer (some ⟨b, off + k * 4 + 2 + 1, none⟩) | 15 => r 15 = .int .i64 x.heat.hi | _ => True) [(7, fun fl r w_ => fl 8 = false → (∃ g_, r 7 = .slice (some ⟨g_, 0, none⟩) 1 1 ∧ Blk w_ g_ 3 #[.int .i64 x.heat.lo] ∧ wr.heap.size ≤ g_)), (8, fun _ r w_ => w_.ownsRow WK.heap.size 3 1 (r 8) (k + 1) ((ints (coldsOf sky k)) ++ [.int .i64 x.heat.lo]) ∧ ∀ b, (r 8).ownBlock = some b → (vc : Value).ownBlock = some b ∨ wr.heap.size ≤ b), (16, fun _ r w_ => ∃ g_, r 16 = .slice (some ⟨g_, 0, none⟩) 1 1 ∧ Blk w_ g_ 3 #[.int .i64 x.heat.hi] ∧ wr.heap.size ≤ g_)]) (by kernel_rfl) rfl rfl (by intro i hi; simp at hi; subst hi; exact ⟨by simp, by omega⟩) (base_row hu) (phiS_cons (monoS_till mono_bs) (phiS_cons (monoS_row (e := 8) (C := fun u_ => ∀ b, u_.ownBlock = some b → (vc : Value).ownBlock = some b ∨ wr.heap.size ≤ b)) (phiS_cons monoS_bs (phiS_nil)))) (fun i_ hi_ hs_ => ?_) (fun i_ hi_ => ?_) ?_
          · match i_, hi_ with
            | 0, _ =>
              intro val fl w1 a hb ha hd hfl
              obtain ⟨hgb, hg0⟩ := hb
              have hb := below_row hu hgb hB0
              have ha := ha.sub (Sub.ins (d := 7) (Sub.nil _) rfl)
              exact ss_val ha rfl rfl (x_move rfl) rfl rfl
            | 1, _ =>
              intro val fl w1 a hb ha hd hfl
              obtain ⟨hgb, hg0⟩ := hb
              have hb := below_row hu hgb hB0
              have ha := ha.sub (Sub.ins (d := 1) (Sub.nil _) rfl)
              exact ss_val ha rfl rfl (x_move rfl) rfl rfl
            | 2, _ =>
              intro val fl w1 a hb ha hd hfl
              obtain ⟨hgb, hg0⟩ := hb
              have hb := below_row hu hgb hB0
              have ha := ha.sub (Sub.ins (d := 9) (Sub.nil _) rfl)
              exact ss_val ha rfl rfl (x_move rfl) rfl rfl
            | 3, _ =>
              intro val fl w1 a hb ha hd hfl
              obtain ⟨hgb, hg0⟩ := hb
              have hb := below_row hu hgb hB0
              have e1 : val 1 = .slice (some ⟨b, off, none⟩) sky.length cp := hd 1 (memB_mem.1 rfl)
              have e2 : val 2 = .int .i64 (k : Nat) := hd 2 (memB_mem.1 rfl)
              have ha := ha.sub (Sub.ins (d := 28) (Sub.ins (d := 27) (Sub.nil _) (dep_get rfl e1)) (dep_get rfl e2))
              exact ss_val ha rfl rfl (ix_26 rfl rfl hks) rfl rfl
            | 4, _ =>
              intro val fl w1 a hb ha hd hfl
              obtain ⟨hgb, hg0⟩ := hb
              have hb := below_row hu hgb hB0
              have e3 : val 3 = .pointer (some ⟨b, off + k * 4, none⟩) := hd 3 (memB_mem.1 rfl)
              have ha := ha.sub (Sub.ins (d := 29) (Sub.nil _) (dep_get rfl e3))
              exact ss_val ha rfl rfl (fa_33_1 rfl) rfl rfl
            | 5, _ =>
              intro val fl w1 a hb ha hd hfl
              obtain ⟨hgb, hg0⟩ := hb
              have hb := below_row hu hgb hB0
              have e4 : val 4 = .pointer (some ⟨b, off + k * 4 + 2, none⟩) := hd 4 (memB_mem.1 rfl)
              have ha := ha.sub (Sub.ins (d := 30) (Sub.nil _) (dep_get rfl e4))
              exact ss_val ha rfl rfl (fa_23_0 rfl) rfl rfl
            | 6, _ =>
              intro val fl w1 a hb ha hd hfl
              obtain ⟨hgb, hg0⟩ := hb
              have hb := below_row hu hgb hB0
              have e5 : val 5 = .pointer (some ⟨b, off + k * 4 + 2, none⟩) := hd 5 (memB_mem.1 rfl)
              have ha := ha.sub (Sub.ins (d := 31) (Sub.nil _) (dep_get rfl e5))
              exact ss_val ha rfl rfl (ld_3 rfl (below_load (hbR.trans (hb.mono hwK)) c2)) rfl rfl
            | 7, _ =>
              intro val fl w1 a hb ha hd hfl
              obtain ⟨hgb, hg0⟩ := hb
              have hb := below_row hu hgb hB0
              have e6 : val 6 = .int .i64 x.heat.lo := hd 6 (memB_mem.1 rfl)
              have ha := ha.sub (Sub.ins (d := 32) (Sub.nil _) (dep_get rfl e6))
              exact ss_newS ha rfl rfl (bs_121_1 rfl) rfl (fun g w' hq _ hge => fun _ => ⟨g, rfl, hq, Nat.le_trans hgb.size hge⟩)
            | 8, _ =>
              exact absurd (by simp) hs_
            | 9, _ =>
              intro val fl w1 a hb ha hd hfl
              obtain ⟨hgb, hg0⟩ := hb
              have hb := below_row hu hgb hB0
              have ha := ha.sub (Sub.ins (d := 8) (Sub.nil _) rfl)
              exact ss_val ha rfl rfl (x_move rfl) rfl rfl
            | 10, _ =>
              intro val fl w1 a hb ha hd hfl
              obtain ⟨hgb, hg0⟩ := hb
              have hb := below_row hu hgb hB0
              have ha := ha.sub (Sub.ins (d := 1) (Sub.nil _) rfl)
              exact ss_val ha rfl rfl (x_move rfl) rfl rfl
            | 11, _ =>
              intro val fl w1 a hb ha hd hfl
              obtain ⟨hgb, hg0⟩ := hb
              have hb := below_row hu hgb hB0
              have ha := ha.sub (Sub.ins (d := 9) (Sub.nil _) rfl)
              exact ss_val ha rfl rfl (x_move rfl) rfl rfl
            | 12, _ =>
              intro val fl w1 a hb ha hd hfl
              obtain ⟨hgb, hg0⟩ := hb
              have hb := below_row hu hgb hB0
              have e10 : val 10 = .slice (some ⟨b, off, none⟩) sky.length cp := hd 10 (memB_mem.1 rfl)
              have e11 : val 11 = .int .i64 (k : Nat) := hd 11 (memB_mem.1 rfl)
              have ha := ha.sub (Sub.ins (d := 37) (Sub.ins (d := 36) (Sub.nil _) (dep_get rfl e10)) (dep_get rfl e11))
              exact ss_val ha rfl rfl (ix_26 rfl rfl hks) rfl rfl
            | 13, _ =>
              intro val fl w1 a hb ha hd hfl
              obtain ⟨hgb, hg0⟩ := hb
              have hb := below_row hu hgb hB0
              have e12 : val 12 = .pointer (some ⟨b, off + k * 4, none⟩) := hd 12 (memB_mem.1 rfl)
              have ha := ha.sub (Sub.ins (d := 38) (Sub.nil _) (dep_get rfl e12))
              exact ss_val ha rfl rfl (fa_33_1 rfl) rfl rfl
            | 14, _ =>
              intro val fl w1 a hb ha hd hfl
              obtain ⟨hgb, hg0⟩ := hb
              have hb := below_row hu hgb hB0
              have e13 : val 13 = .pointer (some ⟨b, off + k * 4 + 2, none⟩) := hd 13 (memB_mem.1 rfl)
              have ha := ha.sub (Sub.ins (d := 39) (Sub.nil _) (dep_get rfl e13))
              exact ss_val ha rfl rfl (fa_23_1 rfl) rfl rfl
            | 15, _ =>
              intro val fl w1 a hb ha hd hfl
              obtain ⟨hgb, hg0⟩ := hb
              have hb := below_row hu hgb hB0
              have e14 : val 14 = .pointer (some ⟨b, off + k * 4 + 2 + 1, none⟩) := hd 14 (memB_mem.1 rfl)
              have ha := ha.sub (Sub.ins (d := 40) (Sub.nil _) (dep_get rfl e14))
              exact ss_val ha rfl rfl (ld_3 rfl (below_load (hbR.trans (hb.mono hwK)) c3)) rfl rfl
            | 16, _ =>
              intro val fl w1 a hb ha hd hfl
              obtain ⟨hgb, hg0⟩ := hb
              have hb := below_row hu hgb hB0
              have e15 : val 15 = .int .i64 x.heat.hi := hd 15 (memB_mem.1 rfl)
              have ha := ha.sub (Sub.ins (d := 41) (Sub.nil _) (dep_get rfl e15))
              exact ss_newS ha rfl rfl (bs_121_1 rfl) rfl (fun g w' hq _ hge => ⟨g, rfl, hq, Nat.le_trans hgb.size hge⟩)
            | k + 17, h => exact absurd h (by omega)
          · simp only [List.mem_singleton] at hi_; subst hi_
            intro val fl w1 a hb hfi ha hd hfl
            obtain ⟨hgb, hg0⟩ := hb
            have hb := below_row hu hgb hB0
            have e0 : val 0 = vc := hd 0 (memB_mem.1 rfl)
            obtain ⟨g7_, e7, q7_, h7_⟩ := hd 7 (memB_mem.1 rfl) hfi
            change val 7 = _ at e7
            have ha := ha.sub (Sub.ins (d := 33) (Sub.ins (d := 26) (Sub.nil _) (dep_get rfl e0)) (dep_get rfl e7))
            refine ts_push rint_elem ha rfl rfl rfl (hg0 hfi) (rd_one (l := [.int .i64 x.heat.lo]) q7_ rfl) (by simp [Value.oneCell']) (by omega) rfl (Nat.le_trans hB0 hgb.size) ?_
            intro v' w' ho' hgr hat
            refine ⟨v', rfl, hgr.size, ⟨grown_three hgb hgr, fun h => by rw [fset_eq] at h; cases h⟩, ⟨ho', fun b hb' => ?_⟩, fun j _ hj hn hA => ?_⟩
            · rcases hat with h | h
              · exact .inl (h ▸ hb')
              · refine .inr ?_
                change v'.ownBlock = some b at hb'
                rw [h] at hb'
                injection hb' with hb'
                have := hgb.size
                omega
            · exact phiS_cons_st (C := fun j => j ≠ 8 ∧ 8 ∉ clsAt [[], [], [], [1, 2], [1, 2, 3], [1, 2, 3, 4], [1, 2, 3, 4, 5], [1, 2, 3, 4, 5, 6], [0, 1, 2, 3, 4, 5, 6, 7], [], [], [], [10, 11], [10, 11, 12], [10, 11, 12, 13], [10, 11, 12, 13, 14], [10, 11, 12, 13, 14, 15], [0, 1, 2, 3, 4, 5, 6, 7, 8, 9, 10, 11, 12, 13, 14, 15, 16], [0, 1, 2, 3, 4, 5, 6, 7, 8, 9, 10, 11, 12, 13, 14, 15, 16, 17], [0, 1, 2, 3, 4, 5, 6, 7, 8, 9, 10, 11, 12, 13, 14, 15, 16, 17, 18]] j) (fun _ _ h => by rw [fset_eq] at h; cases h) (phiS_cons_st (C := fun j => j ≠ 8 ∧ 8 ∉ clsAt [[], [], [], [1, 2], [1, 2, 3], [1, 2, 3, 4], [1, 2, 3, 4, 5], [1, 2, 3, 4, 5, 6], [0, 1, 2, 3, 4, 5, 6, 7], [], [], [], [10, 11], [10, 11, 12], [10, 11, 12, 13], [10, 11, 12, 13, 14], [10, 11, 12, 13, 14, 15], [0, 1, 2, 3, 4, 5, 6, 7, 8, 9, 10, 11, 12, 13, 14, 15, 16], [0, 1, 2, 3, 4, 5, 6, 7, 8, 9, 10, 11, 12, 13, 14, 15, 16, 17], [0, 1, 2, 3, 4, 5, 6, 7, 8, 9, 10, 11, 12, 13, 14, 15, 16, 17, 18]] j) (fun hc => absurd rfl hc.1) (phiS_cons_st (C := fun j => j ≠ 8 ∧ 8 ∉ clsAt [[], [], [], [1, 2], [1, 2, 3], [1, 2, 3, 4], [1, 2, 3, 4, 5], [1, 2, 3, 4, 5, 6], [0, 1, 2, 3, 4, 5, 6, 7], [], [], [], [10, 11], [10, 11, 12], [10, 11, 12, 13], [10, 11, 12, 13, 14], [10, 11, 12, 13, 14, 15], [0, 1, 2, 3, 4, 5, 6, 7, 8, 9, 10, 11, 12, 13, 14, 15, 16], [0, 1, 2, 3, 4, 5, 6, 7, 8, 9, 10, 11, 12, 13, 14, 15, 16, 17], [0, 1, 2, 3, 4, 5, 6, 7, 8, 9, 10, 11, 12, 13, 14, 15, 16, 17, 18]] j) (fun _ ⟨g, h1, h2, h3⟩ => ⟨g, h1, h2.grown hgr (fun h => by have := (hu.lt _ h.symm).2; omega), h3⟩) (fun _ _ h => h))) j ⟨hj, hn⟩
          · intro val fl w' hfl hb halc hd
            obtain ⟨hgb, _⟩ := hb
            have hb := below_row hu hgb hB0
            have e0 : val 0 = vc := hd 0 (by omega)
            have e1 : val 1 = .slice (some ⟨b, off, none⟩) sky.length cp := hd 1 (by omega)
            have e2 : val 2 = .int .i64 (k : Nat) := hd 2 (by omega)
            have e3 : val 3 = .pointer (some ⟨b, off + k * 4, none⟩) := hd 3 (by omega)
            have e4 : val 4 = .pointer (some ⟨b, off + k * 4 + 2, none⟩) := hd 4 (by omega)
            have e5 : val 5 = .pointer (some ⟨b, off + k * 4 + 2, none⟩) := hd 5 (by omega)
            have e6 : val 6 = .int .i64 x.heat.lo := hd 6 (by omega)
            obtain ⟨ho8, hn8⟩ := hd 8 (by omega)
            change w'.ownsRow _ _ _ (val 8) _ _ at ho8
            have e9 : val 9 = vw := hd 9 (by omega)
            have e10 : val 10 = .slice (some ⟨b, off, none⟩) sky.length cp := hd 10 (by omega)
            have e11 : val 11 = .int .i64 (k : Nat) := hd 11 (by omega)
            have e12 : val 12 = .pointer (some ⟨b, off + k * 4, none⟩) := hd 12 (by omega)
            have e13 : val 13 = .pointer (some ⟨b, off + k * 4 + 2, none⟩) := hd 13 (by omega)
            have e14 : val 14 = .pointer (some ⟨b, off + k * 4 + 2 + 1, none⟩) := hd 14 (by omega)
            have e15 : val 15 = .int .i64 x.heat.hi := hd 15 (by omega)
            obtain ⟨ga16, e16, qa16, hga16⟩ := hd 16 (by omega)
            change val 16 = _ at e16
            refine EL.ends (cs := [vc, .slice (some ⟨b, off, none⟩) sky.length cp, .int .i64 (k : Nat), .pointer (some ⟨b, off + k * 4, none⟩), .pointer (some ⟨b, off + k * 4 + 2, none⟩), .pointer (some ⟨b, off + k * 4 + 2, none⟩), .int .i64 x.heat.lo, val 7, val 8, vw, .slice (some ⟨b, off, none⟩) sky.length cp, .int .i64 (k : Nat), .pointer (some ⟨b, off + k * 4, none⟩), .pointer (some ⟨b, off + k * 4 + 2, none⟩), .pointer (some ⟨b, off + k * 4 + 2 + 1, none⟩), .int .i64 x.heat.hi, .slice (some ⟨ga16, 0, none⟩) 1 1]) ⟨e0, e1, e2, e3, e4, e5, e6, rfl, rfl, e9, e10, e11, e12, e13, e14, e15, e16, trivial⟩ rfl ?_
            replace q1 := q1.below hb hg1K
            replace hv := own_apart hv hgb huv
            have n1_8 : g1 ≠ ga16 := Nat.ne_of_lt (Nat.lt_of_lt_of_le lt_1 hga16)
            have hap := apart_new huv R.hv hn8
            refine EL.push rint_elem rfl rfl hv (rd_one (l := [.int .i64 x.heat.hi]) qa16 rfl) (by simp [Value.oneCell']) (by omega) rfl (Nat.le_trans hB0 (Nat.le_trans hgb.size (Nat.le_refl _))) rfl ?_
            intro v' w'' ho'' hg'' hb'' hat''
            replace hap := apart_push hap ho8 hat''
            replace ho8 := own_apart ho8 hg'' (apart_new huv R.hv hn8).symm
            refine EL.val (x_assign rfl) rfl ?_
            refine EL.val (x_assign rfl) rfl ?_
            refine EL.nil ?_
            refine EX.blk ?_
            refine EX.seq ?_
            refine EC.region ?_
            refine EL.val (x_move rfl) rfl ?_
            refine EL.val (x_add rfl rfl (by first | assumption | exact IntWalk.i64_in _ ⟨by omega, by omega⟩)) rfl ?_
            refine EL.val (x_assign rfl) rfl ?_
            refine EL.nil ?_
            refine EX.roundD (k + 1, val 8, v') ⟨rfl, rfl, rfl, trivial⟩ ?_ ⟨hkl, ?_, ?_, hap, R.below.trans (hb.trans hb'')⟩ (by simp only; omega)
            · repeat first | exact Sub.refl _ | refine sub_past rfl ?_
            · rw [coldsOf_succ hks, rints_snoc, ← ex]
              exact ho8
            · rw [warmsOf_succ hks, rints_snoc, ← ex]
              exact ho''
        ·
          obtain rfl : k = i := by omega
          replace hbr := R.below
          replace q1 := q1K.below R.below q1K.lt
          have hbR := hbw.trans (hbr.mono hwK)
          have hu := R.hu
          have hv := R.hv
          have huv := R.uv
          have hB0 := hbr.size
          have hft := flowsTo_succ c sky k
          rw [flowAt_form] at hft
          obtain ⟨r1, r2⟩ := sky_bd (hsky k hlt)
          have hlb := left_bd hland sky k
          have hLL : leftOf c.melt c.snow.lo (warmsOf sky k) = leftL c sky k := rfl
          have hLH : leftOf c.melt c.snow.hi (coldsOf sky k) = leftH c sky k := rfl
          have hsn := hland.snow
          have T1 := fun t (ht : t ∈ warmsOf sky k) => warms_bd hsky hi (t := t) ht
          have T2 := fun t (ht : t ∈ coldsOf sky k) => colds_bd hsky hi (t := t) ht
          have hm := hland.melt
          have har := hland.area
          have hpc := hland.percent
          obtain ⟨b, off, rfl, hb0, hcs⟩ := skys_cells sky k hlt w B _ _ _ hr
          obtain ⟨x, ex⟩ : ∃ x, x = sky.getD k sky0 := ⟨_, rfl⟩
          rw [← ex] at hcs hft r1 r2
          clear ex
          obtain ⟨⟨rl, rh⟩, ⟨tl, th⟩⟩ := x
          obtain ⟨c0, c1, c2, c3⟩ := hcs
          simp only at hft r1 r2 c0 c1 c2 c3
          have wl := warmth_bd (t := tl) hm (by omega)
          have wh := warmth_bd (t := th) hm (by omega)
          obtain ⟨L, eL⟩ : ∃ x, x = leftL c sky k := ⟨_, rfl⟩
          obtain ⟨H, eH⟩ : ∃ x, x = leftH c sky k := ⟨_, rfl⟩
          rw [← eL] at hlb hft hLL
          rw [← eH] at hlb hft hLH
          obtain ⟨ML, eML⟩ : ∃ m, m = min L (warmth c.melt tl) := ⟨_, rfl⟩
          obtain ⟨MH, eMH⟩ : ∃ m, m = min H (warmth c.melt th) := ⟨_, rfl⟩
          rw [← eML, ← eMH] at hft
          have mlb : 0 ≤ ML ∧ ML ≤ 50000 := by omega
          have mhb : 0 ≤ MH ∧ MH ≤ 50000 := by omega
          have HML := fun W u (h : W.ownsRow WK.heap.size 3 1 u (k + 1) (ints (warmsOf sky k) ++ [.int .i64 tl])) => melts_last c.melt c.snow.lo (warmsOf sky k) tl k (warmsOf_len hi) ML (by rw [hLL]; exact eML) u W _ h (by omega) hm (by omega) T1 (by omega)
          have HMH := fun W u (h : W.ownsRow WK.heap.size 3 1 u (k + 1) (ints (coldsOf sky k) ++ [.int .i64 th])) => melts_last c.melt c.snow.hi (coldsOf sky k) th k (coldsOf_len hi) MH (by rw [hLH]; exact eMH) u W _ h (by omega) hm (by omega) T2 (by omega)
          have hpr : ∀ a s : Int, 0 ≤ a → a ≤ 10000 → 0 ≤ s → s ≤ 70000 → 0 ≤ a * s ∧ a * s ≤ 700000000 := fun a s h1 h2 h3 h4 => ⟨Int.mul_nonneg h1 h3, by
            have e1 := Int.mul_le_mul_of_nonneg_right h2 h3
            omega⟩
          have hpr2 : ∀ a s : Int, 0 ≤ a → a ≤ 700000000 → 0 ≤ s → s ≤ 100 → 0 ≤ a * s ∧ a * s ≤ 70000000000 := fun a s h1 h2 h3 h4 => ⟨Int.mul_nonneg h1 h3, by
            have e1 := Int.mul_le_mul_of_nonneg_right h2 h3
            omega⟩
          have p1 := hpr c.area (rl + ML) (by omega) (by omega) (by omega) (by omega)
          have p2 := hpr c.area (rh + MH) (by omega) (by omega) (by omega) (by omega)
          have p3 := hpr2 (c.area * (rl + ML)) c.percent (by omega) (by omega) (by omega) (by omega)
          have p4 := hpr2 (c.area * (rh + MH)) c.percent (by omega) (by omega) (by omega) (by omega)
          have m1 : IntKind.i64.wrap (c.area * (rl + ML)) = c.area * (rl + ML) := IntWalk.i64_in _ ⟨by omega, by omega⟩
          have m2 : IntKind.i64.wrap (c.area * (rh + MH)) = c.area * (rh + MH) := IntWalk.i64_in _ ⟨by omega, by omega⟩
          have m3 : IntKind.i64.wrap (c.area * (rl + ML) * c.percent) = c.area * (rl + ML) * c.percent := IntWalk.i64_in _ ⟨by omega, by omega⟩
          have m4 : IntKind.i64.wrap (c.area * (rh + MH) * c.percent) = c.area * (rh + MH) * c.percent := IntWalk.i64_in _ ⟨by omega, by omega⟩
          have x1 : c.area * (rl + ML) * c.percent = (rl + ML) * (c.area * c.percent) := by rw [Int.mul_comm c.area, Int.mul_assoc]
          have x2 : c.area * (rh + MH) * c.percent = (rh + MH) * (c.area * c.percent) := by rw [Int.mul_comm c.area, Int.mul_assoc]
          have HF := fun W => (rfloor_any (c.area * (rl + ML) * c.percent) 10 W (by omega) (by omega) (by omega) (by omega)).mono fun e w' (h : _ ∧ W = w') => (⟨h.1, h.2 ▸ Below.refl _ _⟩ : e = _ ∧ Below W.heap.size W w')
          have HC := fun W => (rceil_any (c.area * (rh + MH) * c.percent) 10 W (by omega) (by omega) (by omega) (by omega)).mono fun e w' (h : _ ∧ W = w') => (⟨h.1, h.2 ▸ Below.refl _ _⟩ : e = _ ∧ Below W.heap.size W w')
          rw [x1] at HF
          rw [x2] at HC
          rw [← x1] at HF
          rw [← x2] at HC
          obtain ⟨FL, eFL⟩ : ∃ y, y = floorD (c.area * (rl + ML) * c.percent) 10 := ⟨_, rfl⟩
          obtain ⟨CL, eCL⟩ : ∃ y, y = ceilD (c.area * (rh + MH) * c.percent) 10 := ⟨_, rfl⟩
          rw [← eFL] at HF
          rw [← eCL] at HC
          rw [← x1, ← x2, ← eFL, ← eCL] at hft
          have hg1K : g1 < WK.heap.size := Nat.lt_of_lt_of_le hgo hBo
          refine EC.seq ?_
          refine EC.seq ?_
          refine EC.region ?_
          refine EL.val (x_move rfl) rfl ?_
          refine EL.val (x_move rfl) rfl ?_
          refine EL.val (x_lss rfl rfl (by first | assumption | exact decide_eq_false (by omega))) rfl ?_
          refine EL.nil ?_
          refine EX.seq ?_
          refine EC.no rfl ?_
          refine EC.exit ?_
          refine EX.seq_exit ?_
          refine EX.seq_exit ?_
          refine EX.blk_here ?_
          refine EX.seq ?_
          refine EC.seq ?_
          have hW := below_row hv (w1 := wr) ⟨rfl, rfl, rfl, Nat.le_refl _, fun _ _ _ => rfl⟩ hB0
          clear hW
          have lt_1 := q1.lt
          refine EC.regionS [[], [0], [], [2], [2, 3], [], [], [], [6, 7], [6, 7, 8], [6, 7, 8, 9], [6, 7, 8, 9, 10], [6, 7, 8, 9, 10, 11], [5, 6, 7, 8, 9, 10, 11, 12], [0, 1, 2, 3, 4, 5, 6, 7, 8, 9, 10, 11, 12, 13], [], [0, 1, 2, 3, 4, 5, 6, 7, 8, 9, 10, 11, 12, 13, 14, 15], [0, 1, 2, 3, 4, 5, 6, 7, 8, 9, 10, 11, 12, 13, 14, 15, 16], [0, 1, 2, 3, 4, 5, 6, 7, 8, 9, 10, 11, 12, 13, 14, 15, 16, 17]] 18 [] [13] (fun fl w_ => wr.grownBy w_ (vw : Value).ownBlock ∧ (fl 13 = false → w_.ownsRow WK.heap.size 3 1 vw k (ints (warmsOf sky k)))) (phiS (fun i_ r => match i_ with | 0 => r 0 = .pointer (some ⟨g1, 2, none⟩) | 1 => r 1 = .int .i64 c.melt | 2 => r 2 = .pointer (some ⟨g1, 3, none⟩) | 3 => r 3 = .pointer (some ⟨g1, 3, none⟩) | 4 => r 4 = .int .i64 c.snow.lo | 5 => r 5 = vw | 6 => r 6 = .slice (some ⟨b, off, none⟩) sky.length cp | 7 => r 7 = .int .i64 (k : Nat) | 8 => r 8 = .pointer (some ⟨b, off + k * 4, none⟩) | 9 => r 9 = .pointer (some ⟨b, off + k * 4 + 2, none⟩) | 10 => r 10 = .pointer (some ⟨b, off + k * 4 + 2, none⟩) | 11 => r 11 = .int .i64 tl | 15 => r 15 = .int .i64 (k : Nat) | 17 => r 17 = .int .i64 ML | _ => True) [(12, fun fl r w_ => fl 13 = false → (∃ g_, r 12 = .slice (some ⟨g_, 0, none⟩) 1 1 ∧ Blk w_ g_ 3 #[.int .i64 tl] ∧ wr.heap.size ≤ g_)), (13, fun _ r w_ => w_.ownsRow WK.heap.size 3 1 (r 13) (k + 1) ((ints (warmsOf sky k)) ++ [.int .i64 tl]) ∧ ∀ b, (r 13).ownBlock = some b → (vw : Value).ownBlock = some b ∨ wr.heap.size ≤ b), (14, fun _ r w_ => ∃ gm cap, r 14 = .slice (some ⟨gm, 0, none⟩) (k + 1) cap ∧ w_.cell? ⟨gm, 0 + k, none⟩ = some (.int .i64 ML)), (16, fun _ r w_ => ∃ gm, r 16 = .pointer (some ⟨gm, 0 + k, none⟩) ∧ w_.cell? ⟨gm, 0 + k, none⟩ = some (.int .i64 ML))]) (by kernel_rfl) rfl rfl (by intro i hi; simp at hi; subst hi; exact ⟨by simp, by omega⟩) (base_row hv) (phiS_cons (monoS_till mono_bs) (phiS_cons (monoS_row (e := 13) (C := fun u_ => ∀ b, u_.ownBlock = some b → (vw : Value).ownBlock = some b ∨ wr.heap.size ≤ b)) (phiS_cons monoS_sl (phiS_cons monoS_pt (phiS_nil))))) (fun i_ hi_ hs_ => ?_) (fun i_ hi_ => ?_) ?_
          · match i_, hi_ with
            | 0, _ =>
              intro val fl w1 a hb ha hd hfl
              obtain ⟨hgb, hg0⟩ := hb
              have hb := below_row hv hgb hB0
              have ha := ha.sub (Sub.ins (d := 2) (Sub.nil _) rfl)
              exact ss_val ha rfl rfl (fa_25_2 rfl) rfl rfl
            | 1, _ =>
              intro val fl w1 a hb ha hd hfl
              obtain ⟨hgb, hg0⟩ := hb
              have hb := below_row hv hgb hB0
              have e0 : val 0 = .pointer (some ⟨g1, 2, none⟩) := hd 0 (memB_mem.1 rfl)
              have ha := ha.sub (Sub.ins (d := 44) (Sub.nil _) (dep_get rfl e0))
              exact ss_val ha rfl rfl (ld_3 rfl ((q1.below hb hg1K).at (j := 2) rfl)) rfl rfl
            | 2, _ =>
              intro val fl w1 a hb ha hd hfl
              obtain ⟨hgb, hg0⟩ := hb
              have hb := below_row hv hgb hB0
              have ha := ha.sub (Sub.ins (d := 2) (Sub.nil _) rfl)
              exact ss_val ha rfl rfl (fa_25_3 rfl) rfl rfl
            | 3, _ =>
              intro val fl w1 a hb ha hd hfl
              obtain ⟨hgb, hg0⟩ := hb
              have hb := below_row hv hgb hB0
              have e2 : val 2 = .pointer (some ⟨g1, 3, none⟩) := hd 2 (memB_mem.1 rfl)
              have ha := ha.sub (Sub.ins (d := 46) (Sub.nil _) (dep_get rfl e2))
              exact ss_val ha rfl rfl (fa_23_0 rfl) rfl rfl
            | 4, _ =>
              intro val fl w1 a hb ha hd hfl
              obtain ⟨hgb, hg0⟩ := hb
              have hb := below_row hv hgb hB0
              have e3 : val 3 = .pointer (some ⟨g1, 3, none⟩) := hd 3 (memB_mem.1 rfl)
              have ha := ha.sub (Sub.ins (d := 47) (Sub.nil _) (dep_get rfl e3))
              exact ss_val ha rfl rfl (ld_3 rfl ((q1.below hb hg1K).at (j := 3) rfl)) rfl rfl
            | 5, _ =>
              intro val fl w1 a hb ha hd hfl
              obtain ⟨hgb, hg0⟩ := hb
              have hb := below_row hv hgb hB0
              have ha := ha.sub (Sub.ins (d := 8) (Sub.nil _) rfl)
              exact ss_val ha rfl rfl (x_move rfl) rfl rfl
            | 6, _ =>
              intro val fl w1 a hb ha hd hfl
              obtain ⟨hgb, hg0⟩ := hb
              have hb := below_row hv hgb hB0
              have ha := ha.sub (Sub.ins (d := 1) (Sub.nil _) rfl)
              exact ss_val ha rfl rfl (x_move rfl) rfl rfl
            | 7, _ =>
              intro val fl w1 a hb ha hd hfl
              obtain ⟨hgb, hg0⟩ := hb
              have hb := below_row hv hgb hB0
              have ha := ha.sub (Sub.ins (d := 6) (Sub.nil _) rfl)
              exact ss_val ha rfl rfl (x_move rfl) rfl rfl
            | 8, _ =>
              intro val fl w1 a hb ha hd hfl
              obtain ⟨hgb, hg0⟩ := hb
              have hb := below_row hv hgb hB0
              have e6 : val 6 = .slice (some ⟨b, off, none⟩) sky.length cp := hd 6 (memB_mem.1 rfl)
              have e7 : val 7 = .int .i64 (k : Nat) := hd 7 (memB_mem.1 rfl)
              have ha := ha.sub (Sub.ins (d := 51) (Sub.ins (d := 50) (Sub.nil _) (dep_get rfl e6)) (dep_get rfl e7))
              exact ss_val ha rfl rfl (ix_26 rfl rfl hlt) rfl rfl
            | 9, _ =>
              intro val fl w1 a hb ha hd hfl
              obtain ⟨hgb, hg0⟩ := hb
              have hb := below_row hv hgb hB0
              have e8 : val 8 = .pointer (some ⟨b, off + k * 4, none⟩) := hd 8 (memB_mem.1 rfl)
              have ha := ha.sub (Sub.ins (d := 52) (Sub.nil _) (dep_get rfl e8))
              exact ss_val ha rfl rfl (fa_33_1 rfl) rfl rfl
            | 10, _ =>
              intro val fl w1 a hb ha hd hfl
              obtain ⟨hgb, hg0⟩ := hb
              have hb := below_row hv hgb hB0
              have e9 : val 9 = .pointer (some ⟨b, off + k * 4 + 2, none⟩) := hd 9 (memB_mem.1 rfl)
              have ha := ha.sub (Sub.ins (d := 53) (Sub.nil _) (dep_get rfl e9))
              exact ss_val ha rfl rfl (fa_23_0 rfl) rfl rfl
            | 11, _ =>
              intro val fl w1 a hb ha hd hfl
              obtain ⟨hgb, hg0⟩ := hb
              have hb := below_row hv hgb hB0
              have e10 : val 10 = .pointer (some ⟨b, off + k * 4 + 2, none⟩) := hd 10 (memB_mem.1 rfl)
              have ha := ha.sub (Sub.ins (d := 54) (Sub.nil _) (dep_get rfl e10))
              exact ss_val ha rfl rfl (ld_3 rfl (below_load (hbR.trans (hb.mono hwK)) c2)) rfl rfl
            | 12, _ =>
              intro val fl w1 a hb ha hd hfl
              obtain ⟨hgb, hg0⟩ := hb
              have hb := below_row hv hgb hB0
              have e11 : val 11 = .int .i64 tl := hd 11 (memB_mem.1 rfl)
              have ha := ha.sub (Sub.ins (d := 55) (Sub.nil _) (dep_get rfl e11))
              exact ss_newS ha rfl rfl (bs_121_1 rfl) rfl (fun g w' hq _ hge => fun _ => ⟨g, rfl, hq, Nat.le_trans hgb.size hge⟩)
            | 13, _ =>
              exact absurd (by simp) hs_
            | 14, _ =>
              intro val fl w1 a hb ha hd hfl
              obtain ⟨hgb, hg0⟩ := hb
              have hb := below_row hv hgb hB0
              have e1 : val 1 = .int .i64 c.melt := hd 1 (memB_mem.1 rfl)
              have e4 : val 4 = .int .i64 c.snow.lo := hd 4 (memB_mem.1 rfl)
              obtain ⟨ho13_, hn13_⟩ := hd 13 (memB_mem.1 rfl)
              change w1.ownsRow _ _ _ (val 13) _ _ at ho13_
              obtain ⟨A13_, c13_, e13, _⟩ := (Rd.of_own ho13_).shape
              rw [e13] at ho13_
              have ha := ha.sub (Sub.ins (d := 57) (Sub.ins (d := 48) (Sub.ins (d := 45) (Sub.nil _) (dep_get rfl e1)) (dep_get rfl e4)) (dep_get rfl e13))
              refine ss_call ha rfl rfl (cl_62 rfl rfl rfl) (HML _ _ ho13_) rfl ?_
              rintro e w' ⟨⟨gm, cap, rfl, hcm⟩, hb'⟩
              exact ⟨_, rfl, hb', ⟨gm, cap, rfl, by rw [Nat.zero_add]; exact hcm⟩⟩
            | 15, _ =>
              intro val fl w1 a hb ha hd hfl
              obtain ⟨hgb, hg0⟩ := hb
              have hb := below_row hv hgb hB0
              have ha := ha.sub (Sub.ins (d := 6) (Sub.nil _) rfl)
              exact ss_val ha rfl rfl (x_move rfl) rfl rfl
            | 16, _ =>
              intro val fl w1 a hb ha hd hfl
              obtain ⟨hgb, hg0⟩ := hb
              have hb := below_row hv hgb hB0
              obtain ⟨gm14_, cap14_, e14, hc14_⟩ := hd 14 (memB_mem.1 rfl)
              have e15 : val 15 = .int .i64 (k : Nat) := hd 15 (memB_mem.1 rfl)
              have ha := ha.sub (Sub.ins (d := 59) (Sub.ins (d := 58) (Sub.nil _) (dep_get rfl e14)) (dep_get rfl e15))
              exact ss_val ha rfl rfl (ix_121 rfl rfl (by omega)) ⟨_, rfl, hc14_⟩ rfl
            | 17, _ =>
              intro val fl w1 a hb ha hd hfl
              obtain ⟨hgb, hg0⟩ := hb
              have hb := below_row hv hgb hB0
              obtain ⟨gm16_, e16, hc16_⟩ := hd 16 (memB_mem.1 rfl)
              have ha := ha.sub (Sub.ins (d := 60) (Sub.nil _) (dep_get rfl e16))
              exact ss_val ha rfl rfl (ld_3 rfl hc16_) rfl rfl
            | k + 18, h => exact absurd h (by omega)
          · simp only [List.mem_singleton] at hi_; subst hi_
            intro val fl w1 a hb hfi ha hd hfl
            obtain ⟨hgb, hg0⟩ := hb
            have hb := below_row hv hgb hB0
            have e5 : val 5 = vw := hd 5 (memB_mem.1 rfl)
            obtain ⟨g12_, e12, q12_, h12_⟩ := hd 12 (memB_mem.1 rfl) hfi
            change val 12 = _ at e12
            have ha := ha.sub (Sub.ins (d := 56) (Sub.ins (d := 49) (Sub.nil _) (dep_get rfl e5)) (dep_get rfl e12))
            refine ts_push rint_elem ha rfl rfl rfl (hg0 hfi) (rd_one (l := [.int .i64 tl]) q12_ rfl) (by simp [Value.oneCell']) (by omega) rfl (Nat.le_trans hB0 hgb.size) ?_
            intro v' w' ho' hgr hat
            refine ⟨v', rfl, hgr.size, ⟨grown_three hgb hgr, fun h => by rw [fset_eq] at h; cases h⟩, ⟨ho', fun b hb' => ?_⟩, fun j _ hj hn hA => ?_⟩
            · rcases hat with h | h
              · exact .inl (h ▸ hb')
              · refine .inr ?_
                change v'.ownBlock = some b at hb'
                rw [h] at hb'
                injection hb' with hb'
                have := hgb.size
                omega
            · exact phiS_cons_st (C := fun j => j ≠ 13 ∧ 13 ∉ clsAt [[], [0], [], [2], [2, 3], [], [], [], [6, 7], [6, 7, 8], [6, 7, 8, 9], [6, 7, 8, 9, 10], [6, 7, 8, 9, 10, 11], [5, 6, 7, 8, 9, 10, 11, 12], [0, 1, 2, 3, 4, 5, 6, 7, 8, 9, 10, 11, 12, 13], [], [0, 1, 2, 3, 4, 5, 6, 7, 8, 9, 10, 11, 12, 13, 14, 15], [0, 1, 2, 3, 4, 5, 6, 7, 8, 9, 10, 11, 12, 13, 14, 15, 16], [0, 1, 2, 3, 4, 5, 6, 7, 8, 9, 10, 11, 12, 13, 14, 15, 16, 17]] j) (fun _ _ h => by rw [fset_eq] at h; cases h) (phiS_cons_st (C := fun j => j ≠ 13 ∧ 13 ∉ clsAt [[], [0], [], [2], [2, 3], [], [], [], [6, 7], [6, 7, 8], [6, 7, 8, 9], [6, 7, 8, 9, 10], [6, 7, 8, 9, 10, 11], [5, 6, 7, 8, 9, 10, 11, 12], [0, 1, 2, 3, 4, 5, 6, 7, 8, 9, 10, 11, 12, 13], [], [0, 1, 2, 3, 4, 5, 6, 7, 8, 9, 10, 11, 12, 13, 14, 15], [0, 1, 2, 3, 4, 5, 6, 7, 8, 9, 10, 11, 12, 13, 14, 15, 16], [0, 1, 2, 3, 4, 5, 6, 7, 8, 9, 10, 11, 12, 13, 14, 15, 16, 17]] j) (fun hc => absurd rfl hc.1) (phiS_cons_st (C := fun j => j ≠ 13 ∧ 13 ∉ clsAt [[], [0], [], [2], [2, 3], [], [], [], [6, 7], [6, 7, 8], [6, 7, 8, 9], [6, 7, 8, 9, 10], [6, 7, 8, 9, 10, 11], [5, 6, 7, 8, 9, 10, 11, 12], [0, 1, 2, 3, 4, 5, 6, 7, 8, 9, 10, 11, 12, 13], [], [0, 1, 2, 3, 4, 5, 6, 7, 8, 9, 10, 11, 12, 13, 14, 15], [0, 1, 2, 3, 4, 5, 6, 7, 8, 9, 10, 11, 12, 13, 14, 15, 16], [0, 1, 2, 3, 4, 5, 6, 7, 8, 9, 10, 11, 12, 13, 14, 15, 16, 17]] j) (fun hc => absurd (memB_mem.1 rfl) hc.2) (phiS_cons_st (C := fun j => j ≠ 13 ∧ 13 ∉ clsAt [[], [0], [], [2], [2, 3], [], [], [], [6, 7], [6, 7, 8], [6, 7, 8, 9], [6, 7, 8, 9, 10], [6, 7, 8, 9, 10, 11], [5, 6, 7, 8, 9, 10, 11, 12], [0, 1, 2, 3, 4, 5, 6, 7, 8, 9, 10, 11, 12, 13], [], [0, 1, 2, 3, 4, 5, 6, 7, 8, 9, 10, 11, 12, 13, 14, 15], [0, 1, 2, 3, 4, 5, 6, 7, 8, 9, 10, 11, 12, 13, 14, 15, 16], [0, 1, 2, 3, 4, 5, 6, 7, 8, 9, 10, 11, 12, 13, 14, 15, 16, 17]] j) (fun hc => absurd (memB_mem.1 rfl) hc.2) (fun _ _ h => h)))) j ⟨hj, hn⟩
          · intro val fl w' hfl hb halc hd
            obtain ⟨hgb, _⟩ := hb
            have hb := below_row hv hgb hB0
            have e0 : val 0 = .pointer (some ⟨g1, 2, none⟩) := hd 0 (by omega)
            have e1 : val 1 = .int .i64 c.melt := hd 1 (by omega)
            have e2 : val 2 = .pointer (some ⟨g1, 3, none⟩) := hd 2 (by omega)
            have e3 : val 3 = .pointer (some ⟨g1, 3, none⟩) := hd 3 (by omega)
            have e4 : val 4 = .int .i64 c.snow.lo := hd 4 (by omega)
            have e5 : val 5 = vw := hd 5 (by omega)
            have e6 : val 6 = .slice (some ⟨b, off, none⟩) sky.length cp := hd 6 (by omega)
            have e7 : val 7 = .int .i64 (k : Nat) := hd 7 (by omega)
            have e8 : val 8 = .pointer (some ⟨b, off + k * 4, none⟩) := hd 8 (by omega)
            have e9 : val 9 = .pointer (some ⟨b, off + k * 4 + 2, none⟩) := hd 9 (by omega)
            have e10 : val 10 = .pointer (some ⟨b, off + k * 4 + 2, none⟩) := hd 10 (by omega)
            have e11 : val 11 = .int .i64 tl := hd 11 (by omega)
            obtain ⟨ho13, hn13⟩ := hd 13 (by omega)
            change w'.ownsRow _ _ _ (val 13) _ _ at ho13
            have e15 : val 15 = .int .i64 (k : Nat) := hd 15 (by omega)
            have e17 : val 17 = .int .i64 ML := hd 17 (by omega)
            refine EL.ends (cs := [.pointer (some ⟨g1, 2, none⟩), .int .i64 c.melt, .pointer (some ⟨g1, 3, none⟩), .pointer (some ⟨g1, 3, none⟩), .int .i64 c.snow.lo, vw, .slice (some ⟨b, off, none⟩) sky.length cp, .int .i64 (k : Nat), .pointer (some ⟨b, off + k * 4, none⟩), .pointer (some ⟨b, off + k * 4 + 2, none⟩), .pointer (some ⟨b, off + k * 4 + 2, none⟩), .int .i64 tl, val 12, val 13, val 14, .int .i64 (k : Nat), val 16, .int .i64 ML]) ⟨e0, e1, e2, e3, e4, e5, e6, e7, e8, e9, e10, e11, rfl, rfl, rfl, e15, rfl, e17, trivial⟩ rfl ?_
            replace q1 := q1.below hb hg1K
            replace hu := own_apart hu hgb huv.symm
            replace hbr := hbr.trans (hb.mono (Nat.le_refl _))
            replace hbR := hbR.trans (hb.mono hwK)
            replace hB0 := hbr.size
            refine EL.val (x_assign rfl) rfl ?_
            refine EL.nil ?_
            refine EX.seq ?_
            refine EC.seq ?_
            have hW := below_row hu (w1 := w') ⟨rfl, rfl, rfl, Nat.le_refl _, fun _ _ _ => rfl⟩ hB0
            clear hW
            have lt_1 := q1.lt
            refine EC.regionS [[], [0], [], [2], [2, 3], [], [], [], [6, 7], [6, 7, 8], [6, 7, 8, 9], [6, 7, 8, 9, 10], [6, 7, 8, 9, 10, 11], [5, 6, 7, 8, 9, 10, 11, 12], [0, 1, 2, 3, 4, 5, 6, 7, 8, 9, 10, 11, 12, 13], [], [0, 1, 2, 3, 4, 5, 6, 7, 8, 9, 10, 11, 12, 13, 14, 15], [0, 1, 2, 3, 4, 5, 6, 7, 8, 9, 10, 11, 12, 13, 14, 15, 16], [0, 1, 2, 3, 4, 5, 6, 7, 8, 9, 10, 11, 12, 13, 14, 15, 16, 17]] 18 [] [13] (fun fl w_ => w'.grownBy w_ (vc : Value).ownBlock ∧ (fl 13 = false → w_.ownsRow WK.heap.size 3 1 vc k (ints (coldsOf sky k)))) (phiS (fun i_ r => match i_ with | 0 => r 0 = .pointer (some ⟨g1, 2, none⟩) | 1 => r 1 = .int .i64 c.melt | 2 => r 2 = .pointer (some ⟨g1, 3, none⟩) | 3 => r 3 = .pointer (some ⟨g1, 4, none⟩) | 4 => r 4 = .int .i64 c.snow.hi | 5 => r 5 = vc | 6 => r 6 = .slice (some ⟨b, off, none⟩) sky.length cp | 7 => r 7 = .int .i64 (k : Nat) | 8 => r 8 = .pointer (some ⟨b, off + k * 4, none⟩) | 9 => r 9 = .pointer (some ⟨b, off + k * 4 + 2, none⟩) | 10 => r 10 = .pointer (some ⟨b, off + k * 4 + 2 + 1, none⟩) | 11 => r 11 = .int .i64 th | 15 => r 15 = .int .i64 (k : Nat) | 17 => r 17 = .int .i64 MH | _ => True) [(12, fun fl r w_ => fl 13 = false → (∃ g_, r 12 = .slice (some ⟨g_, 0, none⟩) 1 1 ∧ Blk w_ g_ 3 #[.int .i64 th] ∧ w'.heap.size ≤ g_)), (13, fun _ r w_ => w_.ownsRow WK.heap.size 3 1 (r 13) (k + 1) ((ints (coldsOf sky k)) ++ [.int .i64 th]) ∧ ∀ b, (r 13).ownBlock = some b → (vc : Value).ownBlock = some b ∨ w'.heap.size ≤ b), (14, fun _ r w_ => ∃ gm cap, r 14 = .slice (some ⟨gm, 0, none⟩) (k + 1) cap ∧ w_.cell? ⟨gm, 0 + k, none⟩ = some (.int .i64 MH)), (16, fun _ r w_ => ∃ gm, r 16 = .pointer (some ⟨gm, 0 + k, none⟩) ∧ w_.cell? ⟨gm, 0 + k, none⟩ = some (.int .i64 MH))]) (by kernel_rfl) rfl rfl (by intro i hi; simp at hi; subst hi; exact ⟨by simp, by omega⟩) (base_row hu) (phiS_cons (monoS_till mono_bs) (phiS_cons (monoS_row (e := 13) (C := fun u_ => ∀ b, u_.ownBlock = some b → (vc : Value).ownBlock = some b ∨ w'.heap.size ≤ b)) (phiS_cons monoS_sl (phiS_cons monoS_pt (phiS_nil))))) (fun i_ hi_ hs_ => ?_) (fun i_ hi_ => ?_) ?_
            · match i_, hi_ with
              | 0, _ =>
                intro val fl w1 a hb ha hd hfl
                obtain ⟨hgb, hg0⟩ := hb
                have hb := below_row hu hgb hB0
                have ha := ha.sub (Sub.ins (d := 2) (Sub.nil _) rfl)
                exact ss_val ha rfl rfl (fa_25_2 rfl) rfl rfl
              | 1, _ =>
                intro val fl w1 a hb ha hd hfl
                obtain ⟨hgb, hg0⟩ := hb
                have hb := below_row hu hgb hB0
                have e0 : val 0 = .pointer (some ⟨g1, 2, none⟩) := hd 0 (memB_mem.1 rfl)
                have ha := ha.sub (Sub.ins (d := 62) (Sub.nil _) (dep_get rfl e0))
                exact ss_val ha rfl rfl (ld_3 rfl ((q1.below hb hg1K).at (j := 2) rfl)) rfl rfl
              | 2, _ =>
                intro val fl w1 a hb ha hd hfl
                obtain ⟨hgb, hg0⟩ := hb
                have hb := below_row hu hgb hB0
                have ha := ha.sub (Sub.ins (d := 2) (Sub.nil _) rfl)
                exact ss_val ha rfl rfl (fa_25_3 rfl) rfl rfl
              | 3, _ =>
                intro val fl w1 a hb ha hd hfl
                obtain ⟨hgb, hg0⟩ := hb
                have hb := below_row hu hgb hB0
                have e2 : val 2 = .pointer (some ⟨g1, 3, none⟩) := hd 2 (memB_mem.1 rfl)
                have ha := ha.sub (Sub.ins (d := 64) (Sub.nil _) (dep_get rfl e2))
                exact ss_val ha rfl rfl (fa_23_1 rfl) rfl rfl
              | 4, _ =>
                intro val fl w1 a hb ha hd hfl
                obtain ⟨hgb, hg0⟩ := hb
                have hb := below_row hu hgb hB0
                have e3 : val 3 = .pointer (some ⟨g1, 4, none⟩) := hd 3 (memB_mem.1 rfl)
                have ha := ha.sub (Sub.ins (d := 65) (Sub.nil _) (dep_get rfl e3))
                exact ss_val ha rfl rfl (ld_3 rfl ((q1.below hb hg1K).at (j := 4) rfl)) rfl rfl
              | 5, _ =>
                intro val fl w1 a hb ha hd hfl
                obtain ⟨hgb, hg0⟩ := hb
                have hb := below_row hu hgb hB0
                have ha := ha.sub (Sub.ins (d := 7) (Sub.nil _) rfl)
                exact ss_val ha rfl rfl (x_move rfl) rfl rfl
              | 6, _ =>
                intro val fl w1 a hb ha hd hfl
                obtain ⟨hgb, hg0⟩ := hb
                have hb := below_row hu hgb hB0
                have ha := ha.sub (Sub.ins (d := 1) (Sub.nil _) rfl)
                exact ss_val ha rfl rfl (x_move rfl) rfl rfl
              | 7, _ =>
                intro val fl w1 a hb ha hd hfl
                obtain ⟨hgb, hg0⟩ := hb
                have hb := below_row hu hgb hB0
                have ha := ha.sub (Sub.ins (d := 6) (Sub.nil _) rfl)
                exact ss_val ha rfl rfl (x_move rfl) rfl rfl
              | 8, _ =>
                intro val fl w1 a hb ha hd hfl
                obtain ⟨hgb, hg0⟩ := hb
                have hb := below_row hu hgb hB0
                have e6 : val 6 = .slice (some ⟨b, off, none⟩) sky.length cp := hd 6 (memB_mem.1 rfl)
                have e7 : val 7 = .int .i64 (k : Nat) := hd 7 (memB_mem.1 rfl)
                have ha := ha.sub (Sub.ins (d := 69) (Sub.ins (d := 68) (Sub.nil _) (dep_get rfl e6)) (dep_get rfl e7))
                exact ss_val ha rfl rfl (ix_26 rfl rfl hlt) rfl rfl
              | 9, _ =>
                intro val fl w1 a hb ha hd hfl
                obtain ⟨hgb, hg0⟩ := hb
                have hb := below_row hu hgb hB0
                have e8 : val 8 = .pointer (some ⟨b, off + k * 4, none⟩) := hd 8 (memB_mem.1 rfl)
                have ha := ha.sub (Sub.ins (d := 70) (Sub.nil _) (dep_get rfl e8))
                exact ss_val ha rfl rfl (fa_33_1 rfl) rfl rfl
              | 10, _ =>
                intro val fl w1 a hb ha hd hfl
                obtain ⟨hgb, hg0⟩ := hb
                have hb := below_row hu hgb hB0
                have e9 : val 9 = .pointer (some ⟨b, off + k * 4 + 2, none⟩) := hd 9 (memB_mem.1 rfl)
                have ha := ha.sub (Sub.ins (d := 71) (Sub.nil _) (dep_get rfl e9))
                exact ss_val ha rfl rfl (fa_23_1 rfl) rfl rfl
              | 11, _ =>
                intro val fl w1 a hb ha hd hfl
                obtain ⟨hgb, hg0⟩ := hb
                have hb := below_row hu hgb hB0
                have e10 : val 10 = .pointer (some ⟨b, off + k * 4 + 2 + 1, none⟩) := hd 10 (memB_mem.1 rfl)
                have ha := ha.sub (Sub.ins (d := 72) (Sub.nil _) (dep_get rfl e10))
                exact ss_val ha rfl rfl (ld_3 rfl (below_load (hbR.trans (hb.mono hwK)) c3)) rfl rfl
              | 12, _ =>
                intro val fl w1 a hb ha hd hfl
                obtain ⟨hgb, hg0⟩ := hb
                have hb := below_row hu hgb hB0
                have e11 : val 11 = .int .i64 th := hd 11 (memB_mem.1 rfl)
                have ha := ha.sub (Sub.ins (d := 73) (Sub.nil _) (dep_get rfl e11))
                exact ss_newS ha rfl rfl (bs_121_1 rfl) rfl (fun g w' hq _ hge => fun _ => ⟨g, rfl, hq, Nat.le_trans hgb.size hge⟩)
              | 13, _ =>
                exact absurd (by simp) hs_
              | 14, _ =>
                intro val fl w1 a hb ha hd hfl
                obtain ⟨hgb, hg0⟩ := hb
                have hb := below_row hu hgb hB0
                have e1 : val 1 = .int .i64 c.melt := hd 1 (memB_mem.1 rfl)
                have e4 : val 4 = .int .i64 c.snow.hi := hd 4 (memB_mem.1 rfl)
                obtain ⟨ho13_, hn13_⟩ := hd 13 (memB_mem.1 rfl)
                change w1.ownsRow _ _ _ (val 13) _ _ at ho13_
                obtain ⟨A13_, c13_, e13, _⟩ := (Rd.of_own ho13_).shape
                rw [e13] at ho13_
                have ha := ha.sub (Sub.ins (d := 75) (Sub.ins (d := 66) (Sub.ins (d := 63) (Sub.nil _) (dep_get rfl e1)) (dep_get rfl e4)) (dep_get rfl e13))
                refine ss_call ha rfl rfl (cl_62 rfl rfl rfl) (HMH _ _ ho13_) rfl ?_
                rintro e w' ⟨⟨gm, cap, rfl, hcm⟩, hb'⟩
                exact ⟨_, rfl, hb', ⟨gm, cap, rfl, by rw [Nat.zero_add]; exact hcm⟩⟩
              | 15, _ =>
                intro val fl w1 a hb ha hd hfl
                obtain ⟨hgb, hg0⟩ := hb
                have hb := below_row hu hgb hB0
                have ha := ha.sub (Sub.ins (d := 6) (Sub.nil _) rfl)
                exact ss_val ha rfl rfl (x_move rfl) rfl rfl
              | 16, _ =>
                intro val fl w1 a hb ha hd hfl
                obtain ⟨hgb, hg0⟩ := hb
                have hb := below_row hu hgb hB0
                obtain ⟨gm14_, cap14_, e14, hc14_⟩ := hd 14 (memB_mem.1 rfl)
                have e15 : val 15 = .int .i64 (k : Nat) := hd 15 (memB_mem.1 rfl)
                have ha := ha.sub (Sub.ins (d := 77) (Sub.ins (d := 76) (Sub.nil _) (dep_get rfl e14)) (dep_get rfl e15))
                exact ss_val ha rfl rfl (ix_121 rfl rfl (by omega)) ⟨_, rfl, hc14_⟩ rfl
              | 17, _ =>
                intro val fl w1 a hb ha hd hfl
                obtain ⟨hgb, hg0⟩ := hb
                have hb := below_row hu hgb hB0
                obtain ⟨gm16_, e16, hc16_⟩ := hd 16 (memB_mem.1 rfl)
                have ha := ha.sub (Sub.ins (d := 78) (Sub.nil _) (dep_get rfl e16))
                exact ss_val ha rfl rfl (ld_3 rfl hc16_) rfl rfl
              | k + 18, h => exact absurd h (by omega)
            · simp only [List.mem_singleton] at hi_; subst hi_
              intro val fl w1 a hb hfi ha hd hfl
              obtain ⟨hgb, hg0⟩ := hb
              have hb := below_row hu hgb hB0
              have e5 : val 5 = vc := hd 5 (memB_mem.1 rfl)
              obtain ⟨g12_, e12, q12_, h12_⟩ := hd 12 (memB_mem.1 rfl) hfi
              change val 12 = _ at e12
              have ha := ha.sub (Sub.ins (d := 74) (Sub.ins (d := 67) (Sub.nil _) (dep_get rfl e5)) (dep_get rfl e12))
              refine ts_push rint_elem ha rfl rfl rfl (hg0 hfi) (rd_one (l := [.int .i64 th]) q12_ rfl) (by simp [Value.oneCell']) (by omega) rfl (Nat.le_trans hB0 hgb.size) ?_
              intro v' w' ho' hgr hat
              refine ⟨v', rfl, hgr.size, ⟨grown_three hgb hgr, fun h => by rw [fset_eq] at h; cases h⟩, ⟨ho', fun b hb' => ?_⟩, fun j _ hj hn hA => ?_⟩
              · rcases hat with h | h
                · exact .inl (h ▸ hb')
                · refine .inr ?_
                  change v'.ownBlock = some b at hb'
                  rw [h] at hb'
                  injection hb' with hb'
                  have := hgb.size
                  omega
              · exact phiS_cons_st (C := fun j => j ≠ 13 ∧ 13 ∉ clsAt [[], [0], [], [2], [2, 3], [], [], [], [6, 7], [6, 7, 8], [6, 7, 8, 9], [6, 7, 8, 9, 10], [6, 7, 8, 9, 10, 11], [5, 6, 7, 8, 9, 10, 11, 12], [0, 1, 2, 3, 4, 5, 6, 7, 8, 9, 10, 11, 12, 13], [], [0, 1, 2, 3, 4, 5, 6, 7, 8, 9, 10, 11, 12, 13, 14, 15], [0, 1, 2, 3, 4, 5, 6, 7, 8, 9, 10, 11, 12, 13, 14, 15, 16], [0, 1, 2, 3, 4, 5, 6, 7, 8, 9, 10, 11, 12, 13, 14, 15, 16, 17]] j) (fun _ _ h => by rw [fset_eq] at h; cases h) (phiS_cons_st (C := fun j => j ≠ 13 ∧ 13 ∉ clsAt [[], [0], [], [2], [2, 3], [], [], [], [6, 7], [6, 7, 8], [6, 7, 8, 9], [6, 7, 8, 9, 10], [6, 7, 8, 9, 10, 11], [5, 6, 7, 8, 9, 10, 11, 12], [0, 1, 2, 3, 4, 5, 6, 7, 8, 9, 10, 11, 12, 13], [], [0, 1, 2, 3, 4, 5, 6, 7, 8, 9, 10, 11, 12, 13, 14, 15], [0, 1, 2, 3, 4, 5, 6, 7, 8, 9, 10, 11, 12, 13, 14, 15, 16], [0, 1, 2, 3, 4, 5, 6, 7, 8, 9, 10, 11, 12, 13, 14, 15, 16, 17]] j) (fun hc => absurd rfl hc.1) (phiS_cons_st (C := fun j => j ≠ 13 ∧ 13 ∉ clsAt [[], [0], [], [2], [2, 3], [], [], [], [6, 7], [6, 7, 8], [6, 7, 8, 9], [6, 7, 8, 9, 10], [6, 7, 8, 9, 10, 11], [5, 6, 7, 8, 9, 10, 11, 12], [0, 1, 2, 3, 4, 5, 6, 7, 8, 9, 10, 11, 12, 13], [], [0, 1, 2, 3, 4, 5, 6, 7, 8, 9, 10, 11, 12, 13, 14, 15], [0, 1, 2, 3, 4, 5, 6, 7, 8, 9, 10, 11, 12, 13, 14, 15, 16], [0, 1, 2, 3, 4, 5, 6, 7, 8, 9, 10, 11, 12, 13, 14, 15, 16, 17]] j) (fun hc => absurd (memB_mem.1 rfl) hc.2) (phiS_cons_st (C := fun j => j ≠ 13 ∧ 13 ∉ clsAt [[], [0], [], [2], [2, 3], [], [], [], [6, 7], [6, 7, 8], [6, 7, 8, 9], [6, 7, 8, 9, 10], [6, 7, 8, 9, 10, 11], [5, 6, 7, 8, 9, 10, 11, 12], [0, 1, 2, 3, 4, 5, 6, 7, 8, 9, 10, 11, 12, 13], [], [0, 1, 2, 3, 4, 5, 6, 7, 8, 9, 10, 11, 12, 13, 14, 15], [0, 1, 2, 3, 4, 5, 6, 7, 8, 9, 10, 11, 12, 13, 14, 15, 16], [0, 1, 2, 3, 4, 5, 6, 7, 8, 9, 10, 11, 12, 13, 14, 15, 16, 17]] j) (fun hc => absurd (memB_mem.1 rfl) hc.2) (fun _ _ h => h)))) j ⟨hj, hn⟩
            · intro val fl w' hfl hb halc hd
              obtain ⟨hgb, _⟩ := hb
              have hb := below_row hu hgb hB0
              have e0 : val 0 = .pointer (some ⟨g1, 2, none⟩) := hd 0 (by omega)
              have e1 : val 1 = .int .i64 c.melt := hd 1 (by omega)
              have e2 : val 2 = .pointer (some ⟨g1, 3, none⟩) := hd 2 (by omega)
              have e3 : val 3 = .pointer (some ⟨g1, 4, none⟩) := hd 3 (by omega)
              have e4 : val 4 = .int .i64 c.snow.hi := hd 4 (by omega)
              have e5 : val 5 = vc := hd 5 (by omega)
              have e6 : val 6 = .slice (some ⟨b, off, none⟩) sky.length cp := hd 6 (by omega)
              have e7 : val 7 = .int .i64 (k : Nat) := hd 7 (by omega)
              have e8 : val 8 = .pointer (some ⟨b, off + k * 4, none⟩) := hd 8 (by omega)
              have e9 : val 9 = .pointer (some ⟨b, off + k * 4 + 2, none⟩) := hd 9 (by omega)
              have e10 : val 10 = .pointer (some ⟨b, off + k * 4 + 2 + 1, none⟩) := hd 10 (by omega)
              have e11 : val 11 = .int .i64 th := hd 11 (by omega)
              obtain ⟨ho13, hn13⟩ := hd 13 (by omega)
              change w'.ownsRow _ _ _ (val 13) _ _ at ho13
              have e15 : val 15 = .int .i64 (k : Nat) := hd 15 (by omega)
              have e17 : val 17 = .int .i64 MH := hd 17 (by omega)
              refine EL.ends (cs := [.pointer (some ⟨g1, 2, none⟩), .int .i64 c.melt, .pointer (some ⟨g1, 3, none⟩), .pointer (some ⟨g1, 4, none⟩), .int .i64 c.snow.hi, vc, .slice (some ⟨b, off, none⟩) sky.length cp, .int .i64 (k : Nat), .pointer (some ⟨b, off + k * 4, none⟩), .pointer (some ⟨b, off + k * 4 + 2, none⟩), .pointer (some ⟨b, off + k * 4 + 2 + 1, none⟩), .int .i64 th, val 12, val 13, val 14, .int .i64 (k : Nat), val 16, .int .i64 MH]) ⟨e0, e1, e2, e3, e4, e5, e6, e7, e8, e9, e10, e11, rfl, rfl, rfl, e15, rfl, e17, trivial⟩ rfl ?_
              replace q1 := q1.below hb hg1K
              replace hbr := hbr.trans (hb.mono (Nat.le_refl _))
              replace hbR := hbR.trans (hb.mono hwK)
              replace hB0 := hbr.size
              refine EL.val (x_assign rfl) rfl ?_
              refine EL.nil ?_
              refine EX.seq ?_
              have lt_1 := q1.lt
              refine EC.regionP [[], [], [1], [], [], [3, 4], [3, 4, 5], [3, 4, 5, 6], [3, 4, 5, 6, 7], [], [3, 4, 5, 6, 7, 8, 9], [1, 2, 3, 4, 5, 6, 7, 8, 9, 10], [], [12], [1, 2, 3, 4, 5, 6, 7, 8, 9, 10, 11, 12, 13], [1, 2, 3, 4, 5, 6, 7, 8, 9, 10, 11, 12, 13, 14], [], [16], [], [], [18, 19], [18, 19, 20], [18, 19, 20, 21], [18, 19, 20, 21, 22], [], [18, 19, 20, 21, 22, 23, 24], [16, 17, 18, 19, 20, 21, 22, 23, 24, 25], [], [27], [16, 17, 18, 19, 20, 21, 22, 23, 24, 25, 26, 27, 28], [1, 2, 3, 4, 5, 6, 7, 8, 9, 10, 11, 12, 13, 14, 15, 16, 17, 18, 19, 20, 21, 22, 23, 24, 25, 26, 27, 28, 29], [1, 2, 3, 4, 5, 6, 7, 8, 9, 10, 11, 12, 13, 14, 15, 16, 17, 18, 19, 20, 21, 22, 23, 24, 25, 26, 27, 28, 29, 30], [1, 2, 3, 4, 5, 6, 7, 8, 9, 10, 11, 12, 13, 14, 15, 16, 17, 18, 19, 20, 21, 22, 23, 24, 25, 26, 27, 28, 29, 30, 31], [0, 1, 2, 3, 4, 5, 6, 7, 8, 9, 10, 11, 12, 13, 14, 15, 16, 17, 18, 19, 20, 21, 22, 23, 24, 25, 26, 27, 28, 29, 30, 31, 32], [0, 1, 2, 3, 4, 5, 6, 7, 8, 9, 10, 11, 12, 13, 14, 15, 16, 17, 18, 19, 20, 21, 22, 23, 24, 25, 26, 27, 28, 29, 30, 31, 32, 33]] 33 [] (phi (fun i_ r => match i_ with | 0 => r 0 = vo | 1 => r 1 = .pointer (some ⟨g1, 0, none⟩) | 2 => r 2 = .int .i64 c.area | 3 => r 3 = .slice (some ⟨b, off, none⟩) sky.length cp | 4 => r 4 = .int .i64 (k : Nat) | 5 => r 5 = .pointer (some ⟨b, off + k * 4, none⟩) | 6 => r 6 = .pointer (some ⟨b, off + k * 4, none⟩) | 7 => r 7 = .pointer (some ⟨b, off + k * 4, none⟩) | 8 => r 8 = .int .i64 rl | 9 => r 9 = .int .i64 ML | 10 => r 10 = .int .i64 (rl + ML) | 11 => r 11 = .int .i64 (c.area * (rl + ML)) | 12 => r 12 = .pointer (some ⟨g1, 1, none⟩) | 13 => r 13 = .int .i64 c.percent | 14 => r 14 = .int .i64 (c.area * (rl + ML) * c.percent) | 15 => r 15 = .int .i64 FL | 16 => r 16 = .pointer (some ⟨g1, 0, none⟩) | 17 => r 17 = .int .i64 c.area | 18 => r 18 = .slice (some ⟨b, off, none⟩) sky.length cp | 19 => r 19 = .int .i64 (k : Nat) | 20 => r 20 = .pointer (some ⟨b, off + k * 4, none⟩) | 21 => r 21 = .pointer (some ⟨b, off + k * 4, none⟩) | 22 => r 22 = .pointer (some ⟨b, off + k * 4 + 1, none⟩) | 23 => r 23 = .int .i64 rh | 24 => r 24 = .int .i64 MH | 25 => r 25 = .int .i64 (rh + MH) | 26 => r 26 = .int .i64 (c.area * (rh + MH)) | 27 => r 27 = .pointer (some ⟨g1, 1, none⟩) | 28 => r 28 = .int .i64 c.percent | 29 => r 29 = .int .i64 (c.area * (rh + MH) * c.percent) | 30 => r 30 = .int .i64 CL | 31 => r 31 = .agg #[.int .i64 FL, .int .i64 CL] | _ => True) [(32, fun r w_ => ∃ g_, r 32 = .slice (some ⟨g_, 0, none⟩) 1 1 ∧ Blk w_ g_ 23 #[.int .i64 FL, .int .i64 CL] ∧ w'.heap.size ≤ g_)]) (by kernel_rfl) rfl rfl (phi_cons mono_bs (phi_nil)) (fun i_ hi_ => ?_) ?_
              · match i_, hi_ with
                | 0, _ =>
                  intro val w1 a hb ha hd
                  have ha := ha.sub (Sub.ins (d := 5) (Sub.nil _) rfl)
                  exact hs_val ha rfl rfl (x_move rfl) rfl rfl
                | 1, _ =>
                  intro val w1 a hb ha hd
                  have ha := ha.sub (Sub.ins (d := 2) (Sub.nil _) rfl)
                  exact hs_val ha rfl rfl (fa_25_0 rfl) rfl rfl
                | 2, _ =>
                  intro val w1 a hb ha hd
                  have e1 : val 1 = .pointer (some ⟨g1, 0, none⟩) := hd 1 (memB_mem.1 rfl)
                  have ha := ha.sub (Sub.ins (d := 81) (Sub.nil _) (dep_get rfl e1))
                  exact hs_val ha rfl rfl (ld_3 rfl ((q1.below hb q1.lt).at (j := 0) rfl)) rfl rfl
                | 3, _ =>
                  intro val w1 a hb ha hd
                  have ha := ha.sub (Sub.ins (d := 1) (Sub.nil _) rfl)
                  exact hs_val ha rfl rfl (x_move rfl) rfl rfl
                | 4, _ =>
                  intro val w1 a hb ha hd
                  have ha := ha.sub (Sub.ins (d := 6) (Sub.nil _) rfl)
                  exact hs_val ha rfl rfl (x_move rfl) rfl rfl
                | 5, _ =>
                  intro val w1 a hb ha hd
                  have e3 : val 3 = .slice (some ⟨b, off, none⟩) sky.length cp := hd 3 (memB_mem.1 rfl)
                  have e4 : val 4 = .int .i64 (k : Nat) := hd 4 (memB_mem.1 rfl)
                  have ha := ha.sub (Sub.ins (d := 84) (Sub.ins (d := 83) (Sub.nil _) (dep_get rfl e3)) (dep_get rfl e4))
                  exact hs_val ha rfl rfl (ix_26 rfl rfl hlt) rfl rfl
                | 6, _ =>
                  intro val w1 a hb ha hd
                  have e5 : val 5 = .pointer (some ⟨b, off + k * 4, none⟩) := hd 5 (memB_mem.1 rfl)
                  have ha := ha.sub (Sub.ins (d := 85) (Sub.nil _) (dep_get rfl e5))
                  exact hs_val ha rfl rfl (fa_33_0 rfl) rfl rfl
                | 7, _ =>
                  intro val w1 a hb ha hd
                  have e6 : val 6 = .pointer (some ⟨b, off + k * 4, none⟩) := hd 6 (memB_mem.1 rfl)
                  have ha := ha.sub (Sub.ins (d := 86) (Sub.nil _) (dep_get rfl e6))
                  exact hs_val ha rfl rfl (fa_23_0 rfl) rfl rfl
                | 8, _ =>
                  intro val w1 a hb ha hd
                  have e7 : val 7 = .pointer (some ⟨b, off + k * 4, none⟩) := hd 7 (memB_mem.1 rfl)
                  have ha := ha.sub (Sub.ins (d := 87) (Sub.nil _) (dep_get rfl e7))
                  exact hs_val ha rfl rfl (ld_3 rfl (below_load (Below.on hbR hb hbR.size) c0)) rfl rfl
                | 9, _ =>
                  intro val w1 a hb ha hd
                  have ha := ha.sub (Sub.ins (d := 10) (Sub.nil _) rfl)
                  exact hs_val ha rfl rfl (x_move rfl) rfl rfl
                | 10, _ =>
                  intro val w1 a hb ha hd
                  have e8 : val 8 = .int .i64 rl := hd 8 (memB_mem.1 rfl)
                  have e9 : val 9 = .int .i64 ML := hd 9 (memB_mem.1 rfl)
                  have ha := ha.sub (Sub.ins (d := 89) (Sub.ins (d := 88) (Sub.nil _) (dep_get rfl e8)) (dep_get rfl e9))
                  exact hs_val ha rfl rfl (x_add rfl rfl (by first | assumption | exact IntWalk.i64_in _ ⟨by omega, by omega⟩)) rfl rfl
                | 11, _ =>
                  intro val w1 a hb ha hd
                  have e2 : val 2 = .int .i64 c.area := hd 2 (memB_mem.1 rfl)
                  have e10 : val 10 = .int .i64 (rl + ML) := hd 10 (memB_mem.1 rfl)
                  have ha := ha.sub (Sub.ins (d := 90) (Sub.ins (d := 82) (Sub.nil _) (dep_get rfl e2)) (dep_get rfl e10))
                  exact hs_val ha rfl rfl (x_mul rfl rfl (by first | assumption | exact IntWalk.i64_in _ ⟨by omega, by omega⟩)) rfl rfl
                | 12, _ =>
                  intro val w1 a hb ha hd
                  have ha := ha.sub (Sub.ins (d := 2) (Sub.nil _) rfl)
                  exact hs_val ha rfl rfl (fa_25_1 rfl) rfl rfl
                | 13, _ =>
                  intro val w1 a hb ha hd
                  have e12 : val 12 = .pointer (some ⟨g1, 1, none⟩) := hd 12 (memB_mem.1 rfl)
                  have ha := ha.sub (Sub.ins (d := 92) (Sub.nil _) (dep_get rfl e12))
                  exact hs_val ha rfl rfl (ld_3 rfl ((q1.below hb q1.lt).at (j := 1) rfl)) rfl rfl
                | 14, _ =>
                  intro val w1 a hb ha hd
                  have e11 : val 11 = .int .i64 (c.area * (rl + ML)) := hd 11 (memB_mem.1 rfl)
                  have e13 : val 13 = .int .i64 c.percent := hd 13 (memB_mem.1 rfl)
                  have ha := ha.sub (Sub.ins (d := 93) (Sub.ins (d := 91) (Sub.nil _) (dep_get rfl e11)) (dep_get rfl e13))
                  exact hs_val ha rfl rfl (x_mul rfl rfl (by first | assumption | exact IntWalk.i64_in _ ⟨by omega, by omega⟩)) rfl rfl
                | 15, _ =>
                  intro val w1 a hb ha hd
                  have e14 : val 14 = .int .i64 (c.area * (rl + ML) * c.percent) := hd 14 (memB_mem.1 rfl)
                  have ha := ha.sub (Sub.ins (d := 94) (Sub.nil _) (dep_get rfl e14))
                  refine hs_call ha rfl rfl (cl_63 rfl rfl) (HF _) rfl ?_
                  rintro e w' ⟨rfl, hb'⟩
                  exact ⟨_, rfl, hb', rfl⟩
                | 16, _ =>
                  intro val w1 a hb ha hd
                  have ha := ha.sub (Sub.ins (d := 2) (Sub.nil _) rfl)
                  exact hs_val ha rfl rfl (fa_25_0 rfl) rfl rfl
                | 17, _ =>
                  intro val w1 a hb ha hd
                  have e16 : val 16 = .pointer (some ⟨g1, 0, none⟩) := hd 16 (memB_mem.1 rfl)
                  have ha := ha.sub (Sub.ins (d := 96) (Sub.nil _) (dep_get rfl e16))
                  exact hs_val ha rfl rfl (ld_3 rfl ((q1.below hb q1.lt).at (j := 0) rfl)) rfl rfl
                | 18, _ =>
                  intro val w1 a hb ha hd
                  have ha := ha.sub (Sub.ins (d := 1) (Sub.nil _) rfl)
                  exact hs_val ha rfl rfl (x_move rfl) rfl rfl
                | 19, _ =>
                  intro val w1 a hb ha hd
                  have ha := ha.sub (Sub.ins (d := 6) (Sub.nil _) rfl)
                  exact hs_val ha rfl rfl (x_move rfl) rfl rfl
                | 20, _ =>
                  intro val w1 a hb ha hd
                  have e18 : val 18 = .slice (some ⟨b, off, none⟩) sky.length cp := hd 18 (memB_mem.1 rfl)
                  have e19 : val 19 = .int .i64 (k : Nat) := hd 19 (memB_mem.1 rfl)
                  have ha := ha.sub (Sub.ins (d := 99) (Sub.ins (d := 98) (Sub.nil _) (dep_get rfl e18)) (dep_get rfl e19))
                  exact hs_val ha rfl rfl (ix_26 rfl rfl hlt) rfl rfl
                | 21, _ =>
                  intro val w1 a hb ha hd
                  have e20 : val 20 = .pointer (some ⟨b, off + k * 4, none⟩) := hd 20 (memB_mem.1 rfl)
                  have ha := ha.sub (Sub.ins (d := 100) (Sub.nil _) (dep_get rfl e20))
                  exact hs_val ha rfl rfl (fa_33_0 rfl) rfl rfl
                | 22, _ =>
                  intro val w1 a hb ha hd
                  have e21 : val 21 = .pointer (some ⟨b, off + k * 4, none⟩) := hd 21 (memB_mem.1 rfl)
                  have ha := ha.sub (Sub.ins (d := 101) (Sub.nil _) (dep_get rfl e21))
                  exact hs_val ha rfl rfl (fa_23_1 rfl) rfl rfl
                | 23, _ =>
                  intro val w1 a hb ha hd
                  have e22 : val 22 = .pointer (some ⟨b, off + k * 4 + 1, none⟩) := hd 22 (memB_mem.1 rfl)
                  have ha := ha.sub (Sub.ins (d := 102) (Sub.nil _) (dep_get rfl e22))
                  exact hs_val ha rfl rfl (ld_3 rfl (below_load (Below.on hbR hb hbR.size) c1)) rfl rfl
                | 24, _ =>
                  intro val w1 a hb ha hd
                  have ha := ha.sub (Sub.ins (d := 11) (Sub.nil _) rfl)
                  exact hs_val ha rfl rfl (x_move rfl) rfl rfl
                | 25, _ =>
                  intro val w1 a hb ha hd
                  have e23 : val 23 = .int .i64 rh := hd 23 (memB_mem.1 rfl)
                  have e24 : val 24 = .int .i64 MH := hd 24 (memB_mem.1 rfl)
                  have ha := ha.sub (Sub.ins (d := 104) (Sub.ins (d := 103) (Sub.nil _) (dep_get rfl e23)) (dep_get rfl e24))
                  exact hs_val ha rfl rfl (x_add rfl rfl (by first | assumption | exact IntWalk.i64_in _ ⟨by omega, by omega⟩)) rfl rfl
                | 26, _ =>
                  intro val w1 a hb ha hd
                  have e17 : val 17 = .int .i64 c.area := hd 17 (memB_mem.1 rfl)
                  have e25 : val 25 = .int .i64 (rh + MH) := hd 25 (memB_mem.1 rfl)
                  have ha := ha.sub (Sub.ins (d := 105) (Sub.ins (d := 97) (Sub.nil _) (dep_get rfl e17)) (dep_get rfl e25))
                  exact hs_val ha rfl rfl (x_mul rfl rfl (by first | assumption | exact IntWalk.i64_in _ ⟨by omega, by omega⟩)) rfl rfl
                | 27, _ =>
                  intro val w1 a hb ha hd
                  have ha := ha.sub (Sub.ins (d := 2) (Sub.nil _) rfl)
                  exact hs_val ha rfl rfl (fa_25_1 rfl) rfl rfl
                | 28, _ =>
                  intro val w1 a hb ha hd
                  have e27 : val 27 = .pointer (some ⟨g1, 1, none⟩) := hd 27 (memB_mem.1 rfl)
                  have ha := ha.sub (Sub.ins (d := 107) (Sub.nil _) (dep_get rfl e27))
                  exact hs_val ha rfl rfl (ld_3 rfl ((q1.below hb q1.lt).at (j := 1) rfl)) rfl rfl
                | 29, _ =>
                  intro val w1 a hb ha hd
                  have e26 : val 26 = .int .i64 (c.area * (rh + MH)) := hd 26 (memB_mem.1 rfl)
                  have e28 : val 28 = .int .i64 c.percent := hd 28 (memB_mem.1 rfl)
                  have ha := ha.sub (Sub.ins (d := 108) (Sub.ins (d := 106) (Sub.nil _) (dep_get rfl e26)) (dep_get rfl e28))
                  exact hs_val ha rfl rfl (x_mul rfl rfl (by first | assumption | exact IntWalk.i64_in _ ⟨by omega, by omega⟩)) rfl rfl
                | 30, _ =>
                  intro val w1 a hb ha hd
                  have e29 : val 29 = .int .i64 (c.area * (rh + MH) * c.percent) := hd 29 (memB_mem.1 rfl)
                  have ha := ha.sub (Sub.ins (d := 109) (Sub.nil _) (dep_get rfl e29))
                  refine hs_call ha rfl rfl (cl_64 rfl rfl) (HC _) rfl ?_
                  rintro e w' ⟨rfl, hb'⟩
                  exact ⟨_, rfl, hb', rfl⟩
                | 31, _ =>
                  intro val w1 a hb ha hd
                  have e15 : val 15 = .int .i64 FL := hd 15 (memB_mem.1 rfl)
                  have e30 : val 30 = .int .i64 CL := hd 30 (memB_mem.1 rfl)
                  have ha := ha.sub (Sub.ins (d := 110) (Sub.ins (d := 95) (Sub.nil _) (dep_get rfl e15)) (dep_get rfl e30))
                  exact hs_val ha rfl rfl (bd_23_0_1 rfl rfl) rfl rfl
                | 32, _ =>
                  intro val w1 a hb ha hd
                  have e31 : val 31 = .agg #[.int .i64 FL, .int .i64 CL] := hd 31 (memB_mem.1 rfl)
                  have ha := ha.sub (Sub.ins (d := 111) (Sub.nil _) (dep_get rfl e31))
                  exact hs_newS ha rfl rfl (bs_28_1 rfl) rfl (fun g w' hq _ hge => ⟨g, rfl, hq, Nat.le_trans hb.size hge⟩)
                | k + 33, h => exact absurd h (by omega)
              · intro val w' hb halc hd
                have e0 : val 0 = vo := hd 0 (by omega)
                have e1 : val 1 = .pointer (some ⟨g1, 0, none⟩) := hd 1 (by omega)
                have e2 : val 2 = .int .i64 c.area := hd 2 (by omega)
                have e3 : val 3 = .slice (some ⟨b, off, none⟩) sky.length cp := hd 3 (by omega)
                have e4 : val 4 = .int .i64 (k : Nat) := hd 4 (by omega)
                have e5 : val 5 = .pointer (some ⟨b, off + k * 4, none⟩) := hd 5 (by omega)
                have e6 : val 6 = .pointer (some ⟨b, off + k * 4, none⟩) := hd 6 (by omega)
                have e7 : val 7 = .pointer (some ⟨b, off + k * 4, none⟩) := hd 7 (by omega)
                have e8 : val 8 = .int .i64 rl := hd 8 (by omega)
                have e9 : val 9 = .int .i64 ML := hd 9 (by omega)
                have e10 : val 10 = .int .i64 (rl + ML) := hd 10 (by omega)
                have e11 : val 11 = .int .i64 (c.area * (rl + ML)) := hd 11 (by omega)
                have e12 : val 12 = .pointer (some ⟨g1, 1, none⟩) := hd 12 (by omega)
                have e13 : val 13 = .int .i64 c.percent := hd 13 (by omega)
                have e14 : val 14 = .int .i64 (c.area * (rl + ML) * c.percent) := hd 14 (by omega)
                have e15 : val 15 = .int .i64 FL := hd 15 (by omega)
                have e16 : val 16 = .pointer (some ⟨g1, 0, none⟩) := hd 16 (by omega)
                have e17 : val 17 = .int .i64 c.area := hd 17 (by omega)
                have e18 : val 18 = .slice (some ⟨b, off, none⟩) sky.length cp := hd 18 (by omega)
                have e19 : val 19 = .int .i64 (k : Nat) := hd 19 (by omega)
                have e20 : val 20 = .pointer (some ⟨b, off + k * 4, none⟩) := hd 20 (by omega)
                have e21 : val 21 = .pointer (some ⟨b, off + k * 4, none⟩) := hd 21 (by omega)
                have e22 : val 22 = .pointer (some ⟨b, off + k * 4 + 1, none⟩) := hd 22 (by omega)
                have e23 : val 23 = .int .i64 rh := hd 23 (by omega)
                have e24 : val 24 = .int .i64 MH := hd 24 (by omega)
                have e25 : val 25 = .int .i64 (rh + MH) := hd 25 (by omega)
                have e26 : val 26 = .int .i64 (c.area * (rh + MH)) := hd 26 (by omega)
                have e27 : val 27 = .pointer (some ⟨g1, 1, none⟩) := hd 27 (by omega)
                have e28 : val 28 = .int .i64 c.percent := hd 28 (by omega)
                have e29 : val 29 = .int .i64 (c.area * (rh + MH) * c.percent) := hd 29 (by omega)
                have e30 : val 30 = .int .i64 CL := hd 30 (by omega)
                have e31 : val 31 = .agg #[.int .i64 FL, .int .i64 CL] := hd 31 (by omega)
                obtain ⟨ga32, e32, qa32, hga32⟩ := hd 32 (by omega)
                change val 32 = _ at e32
                change Blk w' ga32 23 #[.int .i64 FL, .int .i64 CL] at qa32
                refine EL.ends (cs := [vo, .pointer (some ⟨g1, 0, none⟩), .int .i64 c.area, .slice (some ⟨b, off, none⟩) sky.length cp, .int .i64 (k : Nat), .pointer (some ⟨b, off + k * 4, none⟩), .pointer (some ⟨b, off + k * 4, none⟩), .pointer (some ⟨b, off + k * 4, none⟩), .int .i64 rl, .int .i64 ML, .int .i64 (rl + ML), .int .i64 (c.area * (rl + ML)), .pointer (some ⟨g1, 1, none⟩), .int .i64 c.percent, .int .i64 (c.area * (rl + ML) * c.percent), .int .i64 FL, .pointer (some ⟨g1, 0, none⟩), .int .i64 c.area, .slice (some ⟨b, off, none⟩) sky.length cp, .int .i64 (k : Nat), .pointer (some ⟨b, off + k * 4, none⟩), .pointer (some ⟨b, off + k * 4, none⟩), .pointer (some ⟨b, off + k * 4 + 1, none⟩), .int .i64 rh, .int .i64 MH, .int .i64 (rh + MH), .int .i64 (c.area * (rh + MH)), .pointer (some ⟨g1, 1, none⟩), .int .i64 c.percent, .int .i64 (c.area * (rh + MH) * c.percent), .int .i64 CL, .agg #[.int .i64 FL, .int .i64 CL], .slice (some ⟨ga32, 0, none⟩) 1 1]) ⟨e0, e1, e2, e3, e4, e5, e6, e7, e8, e9, e10, e11, e12, e13, e14, e15, e16, e17, e18, e19, e20, e21, e22, e23, e24, e25, e26, e27, e28, e29, e30, e31, e32, trivial⟩ rfl ?_
                replace q1 := q1.below hb q1.lt
                have n1_9 : g1 ≠ ga32 := Nat.ne_of_lt (Nat.lt_of_lt_of_le lt_1 hga32)
                have bhbr_9 := Nat.le_trans hbr.size hga32
                replace hbr := Below.on hbr hb hbr.size
                clear hb
                have hoW := own_below ho hbr (Nat.le_refl _)
                refine EL.push bds_elem rfl rfl hoW (rd_one (l := [.int .i64 FL, .int .i64 CL]) qa32 rfl) (by simp [Value.oneCell']) (by omega) rfl (Nat.le_trans hBo hbr.size) rfl ?_
                intro v' wz ho2 _ hbz _
                replace q1 := q1.below hbz hgo
                have hbz2 := (hbw.trans (hbr.mono hwK)).trans (hbz.mono hwo)
                refine EL.val (x_assign rfl) rfl ?_
                refine EL.nil ?_
                refine EX.blk ?_
                refine EX.seq ?_
                refine EC.region ?_
                refine EL.val (x_move rfl) rfl ?_
                refine EL.val (x_add rfl rfl (by first | assumption | exact IntWalk.i64_in _ ⟨by omega, by omega⟩)) rfl ?_
                refine EL.val (x_assign rfl) rfl ?_
                refine EL.nil ?_
                refine EX.roundD (k + 1, v') ⟨rfl, rfl, trivial⟩ ?_ ⟨hlt, ?_, q1, ?_, hbz2⟩ (by simp only; omega)
                · repeat first | exact Sub.refl _ | refine sub_past rfl ?_ | refine sub_del rfl ?_ | refine sub_insL_nil ?_
                · rw [hft, bdsC_snoc]
                  exact ho2
                · exact Nat.le_trans (Nat.le_trans hBo hbr.size) hbz.size
    ·
      simp only at hi ho
      obtain rfl : i = sky.length := by omega
      refine EC.seq ?_
      refine EC.seq ?_
      refine EC.region ?_
      refine EL.val (x_move rfl) rfl ?_
      refine EL.val (x_move rfl) rfl ?_
      refine EL.val (ln_26 rfl) rfl ?_
      refine EL.val (x_lss rfl rfl (by first | assumption | exact decide_eq_false (by omega))) rfl ?_
      refine EL.nil ?_
      refine EX.seq ?_
      refine EC.no rfl ?_
      refine EC.exit ?_
      refine EX.seq_exit ?_
      refine EX.seq_exit ?_
      refine EX.blk_here ?_
      refine EX.seq ?_
      refine EC.seq ?_
      refine EC.region ?_
      refine EL.val (x_move rfl) rfl ?_
      refine EL.val (x_assign rfl) rfl ?_
      refine EL.nil ?_
      refine EX.seq ?_
      refine EC.ret ?_
      exact EX.done (res1 rfl rfl) ⟨⟨_, rfl, own_less ho hwo⟩, hbw⟩
end Go.Proofs.Ytncnlhkmdljgpaa
