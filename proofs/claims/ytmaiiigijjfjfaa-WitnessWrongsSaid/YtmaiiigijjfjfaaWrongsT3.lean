/- X11, ExX12, X12, WFw, WBf, WEq, X13, ExX14, X14, E7, E8, WRing, ExX15, X15, E9, WCrs, ExX16: what WitnessWrongsProof needs of them (merged by trimpack.py). -/
import Derived.Test.YtmaiiigijjfjfaaWrongsT2
set_option linter.unusedVariables false
set_option linter.unusedSimpArgs false
namespace Go.Proofs.Ytmaiiigijjfjfaa
open Go Go.RowKit
theorem row_info : (Try.prog.info? 26).map (fun i => (i.zero, i.size, i.bytes)) = some (some (.slice none 0 0), 1, 24) := by kernel_rfl
theorem row_elem : Elem Try.prog 41 26 1 24 := Elem.mk' Try.underlying41 row_info rfl (by omega)
theorem own_empty1 {w : World} {base g T : Nat} (hb : base ≤ g) (h : Blk w g T #[]) : w.ownsRow base T 1 (.slice (some ⟨g, 0, none⟩) 0 0) 0 [] :=
  ⟨rfl, .inr ⟨g, 0, #[], rfl, hb, h, Nat.le_refl _, by first | exact rfl | simp, rfl, rfl⟩⟩
theorem links_allN {c : Case} (hc : caseB c = true) {l : List Int} (hl : inCourseN c l) : ∀ x ∈ linksOf c l, (x.fr < nOf c ∧ x.to < nOf c ∧ -2000000 ≤ x.most ∧ x.most ≤ 2000000) ∧ x.fr ≠ x.to := by
  obtain ⟨hev, _, _, hck, hcu⟩ := caseB_ok hc
  intro x hx
  unfold linksOf at hx
  rw [List.mem_append, List.mem_append] at hx
  rcases hx with (hx | hx) | hx
  · refine flat_range (P := fun x => (x.fr < nOf c ∧ x.to < nOf c ∧ -2000000 ≤ x.most ∧ x.most ≤ 2000000) ∧ x.fr ≠ x.to) (g := evL) (fun i hi x hx => ?_) x hx
    simp only [evL, List.mem_cons, List.not_mem_nil, or_false] at hx
    rcases hx with rfl | rfl <;> simp only [nOf] <;> omega
  · refine flat_range (P := fun x => (x.fr < nOf c ∧ x.to < nOf c ∧ -2000000 ≤ x.most ∧ x.most ≤ 2000000) ∧ x.fr ≠ x.to) (g := clL c) (fun i hi x hx => ?_) x hx
    have hb := bdOk_iff.1 (hck i hi)
    simp only [clL, List.mem_cons, List.not_mem_nil, or_false] at hx
    rcases hx with rfl | rfl <;> simp only [nOf] <;> omega
  · refine flat_range (P := fun x => (x.fr < nOf c ∧ x.to < nOf c ∧ -2000000 ≤ x.most ∧ x.most ≤ 2000000) ∧ x.fr ≠ x.to) (g := crsL c l) (fun i hi x hx => ?_) x hx
    by_cases hn : l.getD i 0 < 0
    · rw [crsL, if_pos hn] at hx; cases hx
    · have h1 := hl.1
      have h2 := hl.2 i hi
      have ho : OptOk c (optAt c i (l.getD i 0)) := optB_ok ((hcu i (by omega)).2 _ (by omega))
      rw [crsL, if_neg hn] at hx
      have h1 := ho.event
      have h2 := ho.mins
      have h3 := ho.kind
      have hf : optFrom c (optAt c i (l.getD i 0)) < nOf c ∧ optFrom c (optAt c i (l.getD i 0)) ≠ 1 + (optAt c i (l.getD i 0)).event.toNat := by unfold optFrom nOf; split <;> omega
      have ht : 1 + (optAt c i (l.getD i 0)).event.toNat < nOf c := by unfold nOf; omega
      simp only [optL, List.mem_cons, List.not_mem_nil, or_false] at hx
      rcases hx with rfl | rfl
      · exact ⟨⟨hf.1, ht, by simp only; omega, by simp only; omega⟩, hf.2⟩
      · exact ⟨⟨ht, hf.1, by simp only; omega, by simp only; omega⟩, hf.2.symm⟩
theorem links_okN {c : Case} (hc : caseB c = true) {l : List Int} (hl : inCourseN c l) {ls : List Lnk} (e : ls = linksOf c l) : LnksOk (nOf c) ls ∧ ∀ k, k < ls.length → (ls.getD k lnk0).fr ≠ (ls.getD k lnk0).to := by
  subst e
  refine ⟨fun k hk => ?_, fun k hk => ?_⟩ <;> rw [show (linksOf c l).getD k lnk0 = (linksOf c l)[k] by simp [hk]]
  · exact (links_allN hc hl _ (List.getElem_mem hk)).1
  · exact (links_allN hc hl _ (List.getElem_mem hk)).2
theorem mat_again {w : World} {base n m gO c g cr i : Nat} {f : Mat} {fs : List Value} (h : OwnMat w base (.slice (some ⟨gO, 0, none⟩) m c) n m f fs) (hi : i < m) (hn : 0 < n) (er : fs.getD i undef = .slice (some ⟨g, 0, none⟩) n cr) : w.cell? ⟨gO, 0 + i, none⟩ = some (.slice (some ⟨g, 0, none⟩) n cr) ∧ w.ownsRow base 3 1 (.slice (some ⟨g, 0, none⟩) n cr) n (ints (rowM n (f i))) := by
  obtain ⟨g', cr', e1, h1, h2⟩ := mat_row h hi hn
  rw [er] at e1
  injection e1 with e1 _ e2
  subst e2
  injection e1 with e1
  injection e1 with e1
  subst e1
  exact ⟨h1, h2⟩
theorem mat_cell {w : World} {base n c g k : Nat} {h : Nat → Int} (ho : w.ownsRow base 3 1 (.slice (some ⟨g, 0, none⟩) n c) n (ints (rowM n h))) (hk : k < n) : w.cell? ⟨g, 0 + k, none⟩ = some (.int .i64 (h k)) := by
  have := int_cell ho (rowM_len n h) hk
  rwa [rowM_at hk] at this
theorem linksM_bd {ls : List Lnk} {n : Nat} (h : LnksOk n ls) : ∀ {k : Nat}, k ≤ ls.length → ∀ a b, -2000000 ≤ linksM ls k a b ∧ linksM ls k a b ≤ farR
  | 0, _, a, b => by unfold linksM mat0 farR; split <;> omega
  | k + 1, hk, a, b => by
    have h1 := linksM_bd h (k := k) (by omega) a b
    have h2 := h k (by omega)
    have h3 := linksM_bd h (k := k) (by omega) (ls.getD k lnk0).fr (ls.getD k lnk0).to
    rw [linksM, linkM, updM]
    split <;> omega
set_option maxHeartbeats 4000000 in
set_option maxRecDepth 100000 in
theorem rmost_any (c : Case) (vc vl : Value) (vs : List Value) (w : World) (B : Nat) (hr : RdCase w B vc vl c vs) (hB : B ≤ w.heap.size) (hn1 : c.clocks.length ≤ 1073741824) (hn2 : c.clues.length ≤ 1073741824) (l : List Int) (vi : Value) (hrl : Rd w B 1 vi l.length (ints l)) (hc : caseB c = true) (hcr : inCourseN c l) (hbd : ∀ b, b < nOf c → (∀ j, j < b + 1 → posM (fwM (linksOf c l) j) (nOf c)) → ∀ i k, i < nOf c → k < nOf c → -1000000000 ≤ fwM (linksOf c l) b i k ∧ fwM (linksOf c l) b i k ≤ 1000000000) :
    Calls Try.prog 41 #[.agg #[.int .i64 c.events, vc, vl], vi] w fun e w' => (∃ v, e = .returned (.tuple #[v, .bool (okM (linksOf c l) (nOf c))]) ∧ (okM (linksOf c l) (nOf c) = true → ∃ fs, OwnMat w' w.heap.size v (nOf c) (nOf c) (fwM (linksOf c l) (nOf c)) fs)) ∧ Below w.heap.size w w' := by
  obtain ⟨Ac, cc_, rfl, _⟩ := hr.clocks.shape
  obtain ⟨Al, cl_, rfl, _⟩ := hr.clues.rd.shape
  obtain ⟨Ai, ci_, rfl, _⟩ := hrl.shape
  obtain ⟨hev, hcl8, hcl20, hck, hcu⟩ := caseB_ok hc
  have hcrl := hcr.1
  have hbw := Below.refl w.heap.size w
  refine EC.enter 148 Try.func41 rfl rfl rfl ?_
  refine EC.seq ?_
  refine EC.region ?_
  refine EL.newP (bx_25 rfl) rfl ?_
  intro g1 w1 q1 hb1 hg1 hl1
  have bhbw_1 := Nat.le_trans hbw.size hg1
  have hbg1 : w.heap.size ≤ g1 := Nat.le_trans hbw.size hg1
  have hbh1 := hg1
  replace hbw := Below.on hbw hb1 hbw.size
  clear hb1 hg1 hl1
  refine EL.val (x_assign rfl) rfl ?_
  refine EL.val (x_assign rfl) rfl ?_
  refine EL.nil ?_
  refine EX.seq ?_
  refine EC.seq ?_
  refine EC.region ?_
  refine EL.val (fa_25_0 rfl) rfl ?_
  refine EL.val (ld_3 rfl (q1.at (j := 0) rfl)) rfl ?_
  refine EL.val (x_add rfl rfl (by first | assumption | exact IntWalk.i64_in _ ⟨by omega, by omega⟩)) rfl ?_
  refine EL.val (fa_25_1 rfl) rfl ?_
  refine EL.val (ld_22 rfl (q1.at (j := 1) rfl)) rfl ?_
  refine EL.val (ln_22 rfl) rfl ?_
  refine EL.val (x_add rfl rfl (c := ((nOf c : Nat) : Int)) ((IntWalk.i64_in _ ⟨by omega, by omega⟩).trans (by unfold nOf; omega))) rfl ?_
  refine EL.newS (bs_41_0) rfl ?_
  intro g2 w2 q2 hb2 hg2 hl2
  have n1_2 : g1 ≠ g2 := Nat.ne_of_lt (Nat.lt_of_lt_of_le q1.lt hg2)
  have bhbw_2 := Nat.le_trans hbw.size hg2
  have hbg2 : w.heap.size ≤ g2 := Nat.le_trans hbw.size hg2
  have hbh2 := hg2
  replace q1 := q1.below hb2 q1.lt
  replace hbw := Below.on hbw hb2 hbw.size
  clear hb2 hg2 hl2
  have hemp : ∀ n : Nat, OwnMat w2 w.heap.size (.slice (some ⟨g2, 0, none⟩) 0 0) n 0 mat0 [] := fun n => ⟨own_empty1 hbg2 q2, rfl, fun i hi => absurd hi (by omega), fun i j _ h => absurd h (by simp)⟩
  refine EL.val (x_assign rfl) rfl ?_
  refine EL.val (x_assign rfl) rfl ?_
  refine EL.nil ?_
  refine EX.seq ?_
  refine EC.seq ?_
  refine EC.seq ?_
  refine EC.region ?_
  refine EL.val (x_assign rfl) rfl ?_
  refine EL.nil ?_
  refine EX.seq ?_
  refine EC.block ?_
  obtain ⟨n, en⟩ : ∃ z, z = nOf c := ⟨_, rfl⟩
  have hn1_ : 1 ≤ n ∧ n ≤ 29 := by rw [en]; unfold nOf; omega
  refine EC.loopD [7, 8, 9, 10, 26, 27, 28, 29, 30, 31, 32, 33, 34, 35, 36, 37, 38, 39, 40, 41, 42, 43, 44, 45, 46] (fun x : Nat × Value => [(7, x.2), (8, .int .i64 (x.1 : Nat))]) (fun x W => x.1 ≤ n ∧ (∃ fs, OwnMat W w.heap.size x.2 n x.1 mat0 fs) ∧ Blk W g1 25 #[.int .i64 c.events, .slice Ac c.clocks.length cc_, .slice Al c.clues.length cl_] ∧ Below w.heap.size w W) (fun x => n - x.1) (0, _) ⟨Nat.zero_le _, ⟨[], hemp n⟩, q1, hbw⟩ ⟨rfl, rfl, trivial⟩ ?_
  clear q1 hbw hemp
  rintro ⟨i, v⟩ wi ⟨hi, ⟨fs, hM⟩, q1, hbw⟩
  dsimp only at hi hM
  by_cases hlt : i < n
  ·
    refine EC.seq ?_
    refine EC.seq ?_
    refine EC.region ?_
    refine EL.val (x_move rfl) rfl ?_
    refine EL.val (x_move rfl) rfl ?_
    refine EL.val (x_lss rfl rfl (decide_eq_true (show ((i : Nat) : Int) < ((nOf c : Nat) : Int) by omega))) rfl ?_
    refine EL.nil ?_
    refine EX.seq ?_
    refine EC.yes rfl ?_
    refine EC.skip ?_
    refine EX.seq ?_
    refine EC.seq ?_
    refine EC.block ?_
    refine EC.seq ?_
    refine EC.region ?_
    refine EL.newS (bs_26_0) rfl ?_
    intro g3 w3 q3 hb3 hg3 hl3
    have n1_3 : g1 ≠ g3 := Nat.ne_of_lt (Nat.lt_of_lt_of_le q1.lt hg3)
    have bhbw_3 := Nat.le_trans hbw.size hg3
    have hbg3 : w.heap.size ≤ g3 := Nat.le_trans hbw.size hg3
    have hbh3 := hg3
    have hM0 := hM
    replace q1 := q1.below hb3 q1.lt
    replace hM := hM.below hb3
    replace hbw := Below.on hbw hb3 hbw.size
    clear hb3 hg3 hl3
    have hemp2 : w3.ownsRow w.heap.size 3 1 (.slice (some ⟨g3, 0, none⟩) 0 0) 0 (ints (rowM 0 fun _ => farR)) := own_empty1 hbg3 q3
    have hap0 : ∀ j, j < i → Apart (fs.getD j undef) (.slice (some ⟨g3, 0, none⟩) 0 0) := fun j hj g h1 h2 => by have h3 := ((hM0.each j hj).lt g h1).2; have h4 : g3 = g := Option.some.inj h2; rw [← h4] at h3; exact absurd hbh3 (Nat.not_le_of_lt h3)
    refine EL.val (x_assign rfl) rfl ?_
    refine EL.nil ?_
    refine EX.seq ?_
    refine EC.seq ?_
    refine EC.seq ?_
    refine EC.region ?_
    refine EL.val (x_assign rfl) rfl ?_
    refine EL.nil ?_
    refine EX.seq ?_
    refine EC.block ?_
    refine EC.loopD [9, 10, 32, 33, 34, 35, 36, 37, 38, 39] (fun x : Nat × Value => [(9, x.2), (10, .int .i64 (x.1 : Nat))]) (fun x W => x.1 ≤ n ∧ W.ownsRow w.heap.size 3 1 x.2 x.1 (ints (rowM x.1 fun _ => farR)) ∧ (∀ j, j < i → Apart (fs.getD j undef) x.2) ∧ OwnMat W w.heap.size v n i mat0 fs ∧ Blk W g1 25 #[.int .i64 c.events, .slice Ac c.clocks.length cc_, .slice Al c.clues.length cl_] ∧ Below w.heap.size w W) (fun x => n - x.1) (0, _) ⟨Nat.zero_le _, hemp2, hap0, hM, q1, hbw⟩ ⟨rfl, rfl, trivial⟩ ?_
    clear q1 hbw hemp2 hap0 hM
    rintro ⟨k, u⟩ wk ⟨hk, hrow, hap, hM, q1, hbw⟩
    dsimp only at hk hrow hap
    by_cases hkl : k < n
    ·
      refine EC.seq ?_
      refine EC.seq ?_
      refine EC.region ?_
      refine EL.val (x_move rfl) rfl ?_
      refine EL.val (x_move rfl) rfl ?_
      refine EL.val (x_lss rfl rfl (decide_eq_true (show ((k : Nat) : Int) < ((nOf c : Nat) : Int) by omega))) rfl ?_
      refine EL.nil ?_
      refine EX.seq ?_
      refine EC.yes rfl ?_
      refine EC.skip ?_
      refine EX.seq ?_
      refine EC.seq ?_
      refine EC.block ?_
      refine EC.region ?_
      refine EL.val (x_move rfl) rfl ?_
      refine EL.newS (bs_26_1 rfl) rfl ?_
      intro g4 w4 q4 hb4 hg4 hl4
      have n1_4 : g1 ≠ g4 := Nat.ne_of_lt (Nat.lt_of_lt_of_le q1.lt hg4)
      have bhbw_4 := Nat.le_trans hbw.size hg4
      have hbg4 : w.heap.size ≤ g4 := Nat.le_trans hbw.size hg4
      have hbh4 := hg4
      have hM0 := hM
      replace q1 := q1.below hb4 q1.lt
      replace hM := hM.below hb4
      replace hrow := own_below hrow hb4 (Nat.le_refl _)
      replace hbw := Below.on hbw hb4 hbw.size
      clear hb4 hg4 hl4
      refine EL.push i64_elem rfl rfl hrow (rd_one (l := [.int .i64 farR]) q4 rfl) (fun u hu => by simp only [List.mem_singleton] at hu; subst hu; rfl) (by omega) rfl hbw.size rfl ?_
      intro u2 w9 ho2 hg hb2 hat
      replace q1 := blk_grown q1 hrow rfl hg
      have hap2 : ∀ j, j < i → Apart (fs.getD j undef) u2 := fun j hj => (apart_push (hap j hj).symm (hM.each j hj) hat).symm
      replace hM := hM.keepRow hrow hap hg
      replace hbw := hbw.trans hb2
      refine EL.val (x_assign rfl) rfl ?_
      refine EL.nil ?_
      refine EX.blk ?_
      refine EX.seq ?_
      refine EC.region ?_
      refine EL.val (x_move rfl) rfl ?_
      refine EL.val (x_add rfl rfl (c := ((k + 1 : Nat) : Int)) ((IntWalk.i64_in _ ⟨by first | omega | (simp only; omega), by first | omega | (simp only; omega)⟩).trans (by first | omega | (simp only; omega)))) rfl ?_
      refine EL.val (x_assign rfl) rfl ?_
      refine EL.nil ?_
      refine EX.roundD (k + 1, _) ⟨rfl, rfl, trivial⟩ (by repeat first | with_reducible exact Sub.refl _ | refine sub_past rfl ?_ | exact Sub.refl _ | refine sub_del rfl ?_ | refine sub_insL_nil ?_) ⟨hkl, by simp only; rw [rowM_succ, ints_app]; exact ho2, hap2, hM, q1, hbw⟩ (by simp only; omega)
    ·
      obtain rfl : k = n := by omega
      obtain ⟨AR, cR, rfl, _⟩ := (Rd.of_own hrow).shape
      obtain ⟨gR, rfl⟩ := own_slice hrow (by omega)
      refine EC.seq ?_
      refine EC.seq ?_
      refine EC.region ?_
      refine EL.val (x_move rfl) rfl ?_
      refine EL.val (x_move rfl) rfl ?_
      refine EL.val (x_lss rfl rfl (decide_eq_false (show ¬((k : Nat) : Int) < ((nOf c : Nat) : Int) by omega))) rfl ?_
      refine EL.nil ?_
      refine EX.seq ?_
      refine EC.no rfl ?_
      refine EC.exit ?_
      refine EX.seq_exit ?_
      refine EX.seq_exit ?_
      refine EX.blk_here ?_
      refine EX.seq ?_
      refine EC.seq ?_
      refine EC.region ?_
      refine EL.val (x_move rfl) rfl ?_
      refine EL.val (x_move rfl) rfl ?_
      refine EL.val (ix_26 rfl rfl hlt) rfl ?_
      obtain ⟨cur_, hcur_⟩ := own_blk hrow
      have hneb := row_ne2 (e := 3) hrow q1 rfl
      refine EL.storeRow (l' := [.int .i64 0]) rfl rfl hrow sz_3 rfl rfl (by rw [ints_len, rowM_len]; omega) rfl ?_
      intro w8 ho2 hg
      have hbm := (hrow.lt gR rfl).1
      rw [Nat.zero_add, ints_set _ (by rw [rowM_len]; exact hlt), rowM_set hlt] at ho2
      replace q1 := q1.grown hg (fun h => hneb (Option.some.inj h))
      replace hM := hM.keepRow hrow hap hg
      replace hbw := below_store hbw hg hbm
      have hr0 : rowM k (updV (fun _ => farR) i 0) = rowM k (mat0 i) := rowM_ext fun b _ => by unfold updV mat0; by_cases h : b = i; (subst h; simp); (rw [if_neg h, if_neg (Ne.symm h)])
      rw [hr0] at ho2
      replace hrow := ho2
      clear ho2 hcur_
      refine EL.nil ?_
      refine EX.seq ?_
      refine EC.region ?_
      refine EL.val (x_move rfl) rfl ?_
      refine EL.val (x_move rfl) rfl ?_
      refine EL.newS (bs_41_1 rfl) rfl ?_
      intro g5 w5 q5 hb5 hg5 hl5
      have n1_5 : g1 ≠ g5 := Nat.ne_of_lt (Nat.lt_of_lt_of_le q1.lt hg5)
      have bhbw_5 := Nat.le_trans hbw.size hg5
      have hbg5 : w.heap.size ≤ g5 := Nat.le_trans hbw.size hg5
      have hbh5 := hg5
      have hM0 := hM
      replace q1 := q1.below hb5 q1.lt
      replace hM := hM.below hb5
      replace hrow := own_below hrow hb5 (Nat.le_refl _)
      replace hbw := Below.on hbw hb5 hbw.size
      clear hb5 hg5 hl5
      refine EL.push row_elem rfl rfl hM.own (rd_one (l := [.slice (some ⟨gR, 0, none⟩) k cR]) q5 rfl) (fun u hu => by simp only [List.mem_singleton] at hu; subst hu; rfl) (by omega) rfl hbw.size rfl ?_
      intro v2 w9 ho2 hg hb2 _
      replace q1 := blk_grown q1 hM.own rfl hg
      have hM2 := hM.push hrow hap ho2 hg
      replace hbw := hbw.trans hb2
      refine EL.val (x_assign rfl) rfl ?_
      refine EL.nil ?_
      refine EX.blk ?_
      refine EX.seq ?_
      refine EC.region ?_
      refine EL.val (x_move rfl) rfl ?_
      refine EL.val (x_add rfl rfl (c := ((i + 1 : Nat) : Int)) ((IntWalk.i64_in _ ⟨by first | omega | (simp only; omega), by first | omega | (simp only; omega)⟩).trans (by first | omega | (simp only; omega)))) rfl ?_
      refine EL.val (x_assign rfl) rfl ?_
      refine EL.nil ?_
      refine EX.roundD (i + 1, _) ⟨rfl, rfl, trivial⟩ (by repeat first | with_reducible exact Sub.refl _ | refine sub_past rfl ?_ | exact Sub.refl _ | refine sub_del rfl ?_ | refine sub_insL_nil ?_) ⟨hlt, ⟨_, hM2⟩, q1, hbw⟩ (by simp only; omega)
  ·
    obtain rfl : i = n := by omega
    obtain ⟨AO, cO, rfl, _⟩ := (Rd.of_own hM.own).shape
    obtain ⟨gO, rfl⟩ := own_slice hM.own (by omega)
    refine EC.seq ?_
    refine EC.seq ?_
    refine EC.region ?_
    refine EL.val (x_move rfl) rfl ?_
    refine EL.val (x_move rfl) rfl ?_
    refine EL.val (x_lss rfl rfl (decide_eq_false (show ¬((i : Nat) : Int) < ((nOf c : Nat) : Int) by omega))) rfl ?_
    refine EL.nil ?_
    refine EX.seq ?_
    refine EC.no rfl ?_
    refine EC.exit ?_
    refine EX.seq_exit ?_
    refine EX.seq_exit ?_
    refine EX.blk_here ?_
    refine EX.seq ?_
    refine EC.seq ?_
    refine EC.region ?_
    refine EL.val (ld_25 rfl (q1.at (j := 0) rfl) (q1.at (j := 1) rfl) (q1.at (j := 2) rfl)) rfl ?_
    refine EL.val (x_move rfl) rfl ?_
    have hszw := hbw.size
    refine EL.call (cl_18 rfl rfl) rfl (rlinks_any c _ _ vs _ B (hr.below (hbw.mono hB)) (Nat.le_trans hB hbw.size) hn1 hn2 l _ (hrl.below (hbw.mono hB)) hc hcr) ?_
    rintro e wl ⟨⟨vL, rfl, hls⟩, hcl⟩
    refine ⟨_, rfl, ?_⟩
    replace q1 := q1.below hcl q1.lt
    replace hM := hM.below hcl
    replace hbw := Below.on hbw hcl hbw.size
    replace hls := own_less hls hszw
    obtain ⟨AL, cL, rfl, _⟩ := (Rd.of_own hls).shape
    obtain ⟨ls, els⟩ : ∃ z, z = linksOf c l := ⟨_, rfl⟩
    rw [← els] at hls hbd ⊢
    have hll : ls.length ≤ 1000 := by rw [els, linksOf, List.length_append, List.length_append, evLinks_len, clLinks_len]; have := crsLinks_len c l l.length; omega
    obtain ⟨hlo, hlne⟩ := links_okN hc hcr els
    rw [← en] at hlo hbd ⊢
    refine EL.val (x_assign rfl) rfl ?_
    refine EL.nil ?_
    refine EX.seq ?_
    refine EC.seq ?_
    refine EC.seq ?_
    refine EC.region ?_
    refine EL.val (x_assign rfl) rfl ?_
    refine EL.nil ?_
    refine EX.seq ?_
    refine EC.block ?_
    refine EC.loopD [12, 13, 50, 51, 52, 53, 54, 55, 56, 57, 58, 59, 60, 61, 62, 63, 64, 65, 66, 67, 68, 69, 70, 71, 72, 73, 74, 75, 76, 77, 78, 79] (fun x : Nat => [(12, .int .i64 (x : Nat))]) (fun x W => x ≤ ls.length ∧ (∃ fs, OwnMat W w.heap.size (.slice (some ⟨gO, 0, none⟩) i cO) i i (linksM ls x) fs) ∧ Blk W g1 25 #[.int .i64 c.events, .slice Ac c.clocks.length cc_, .slice Al c.clues.length cl_] ∧ Below w.heap.size w W ∧ W.ownsRow w.heap.size 39 3 (.slice AL ls.length cL) ls.length (lnksC ls)) (fun x => ls.length - x) 0 ⟨Nat.zero_le _, ⟨fs, hM⟩, q1, hbw, hls⟩ ⟨rfl, trivial⟩ ?_
    clear q1 hbw hM hls
    rintro y wy ⟨hy, ⟨fs, hM⟩, q1, hbw, hls⟩
    by_cases hyl : y < ls.length
    ·
      obtain ⟨bl, ol, e_, _, lc0, lc1, lc2⟩ := lnks_cells ls y hyl wy _ _ _ _ (Rd.of_own hls)
      subst e_
      obtain ⟨hfr, hto, hm0, hm1⟩ := hlo y hyl
      have hlb := linksM_bd hlo (k := y) (by omega)
      obtain ⟨lk, ea⟩ : ∃ z, z = ls.getD y lnk0 := ⟨_, rfl⟩
      rw [← ea] at lc0 lc1 lc2 hfr hto hm0 hm1
      obtain ⟨f, ef⟩ : ∃ z, z = linksM ls y := ⟨_, rfl⟩
      have hnx : linksM ls (y + 1) = updM f lk.fr lk.to (min (f lk.fr lk.to) lk.most) := by rw [linksM, ← ef, ← ea]; rfl
      rw [← ef] at hM
      have hM0 := hM
      obtain ⟨gF, cF, erF, _, _⟩ := mat_row hM (i := lk.fr) hfr (by omega)
      refine EC.seq ?_
      refine EC.seq ?_
      refine EC.region ?_
      refine EL.val (x_move rfl) rfl ?_
      refine EL.val (x_move rfl) rfl ?_
      refine EL.val (ln_29 rfl) rfl ?_
      refine EL.val (x_lss rfl rfl (by first | assumption | exact decide_eq_true (by omega))) rfl ?_
      refine EL.nil ?_
      refine EX.seq ?_
      refine EC.yes rfl ?_
      refine EC.skip ?_
      refine EX.seq ?_
      refine EC.seq ?_
      refine EC.block ?_
      refine EC.seq ?_
      refine EC.region ?_
      refine EL.val (x_move rfl) rfl ?_
      refine EL.val (x_move rfl) rfl ?_
      refine EL.val (ix_29 rfl rfl hyl) rfl ?_
      refine EL.val (ld_39 rfl lc0 lc1 lc2) rfl ?_
      refine EL.newP al_39 rfl ?_
      intro g6 w6 q6 hb6 hg6 hl6
      have n1_6 : g1 ≠ g6 := Nat.ne_of_lt (Nat.lt_of_lt_of_le q1.lt hg6)
      have bhbw_6 := Nat.le_trans hbw.size hg6
      have hbg6 : w.heap.size ≤ g6 := Nat.le_trans hbw.size hg6
      have hbh6 := hg6
      have hM0 := hM
      have hlsne6 : ∀ x, (Value.slice (some ⟨bl, ol, none⟩) ls.length cL).ownBlock = some x → x ≠ g6 := fun x hx => Nat.ne_of_lt (Nat.lt_of_lt_of_le (hls.lt x hx).2 hg6)
      replace q1 := q1.below hb6 q1.lt
      replace hM := hM.below hb6
      replace hls := own_below hls hb6 (Nat.le_refl _)
      replace hbw := Below.on hbw hb6 hbw.size
      clear hb6 hg6 hl6
      refine EL.store rfl rfl q6 sz_39 rfl rfl rfl rfl ?_
      intro w7 hq7 hg7
      replace q1 := q1.grown hg7 (fun h => n1_6 (Option.some.inj h))
      replace hM := hM.type q6 rfl rfl hg7
      replace hls := hls.kept hg7 (.inr (fun h => hlsne6 _ h rfl))
      replace hbw := below_store hbw hg7 bhbw_6
      replace q6 := hq7
      clear hg7 hq7
      refine EL.nil ?_
      refine EX.seq ?_
      obtain ⟨rcF, roF⟩ := mat_again hM (i := lk.fr) hfr (by omega) erF
      have ceF := mat_cell roF hto
      have lt_1 := q1.lt
      have lt_6 := q6.lt
      refine EC.regionP [[], [], [1], [0, 1, 2], [0, 1, 2, 3], [], [5], [], [], [8], [7, 8, 9], [7, 8, 9, 10], [], [12], [7, 8, 9, 10, 11, 12, 13], [7, 8, 9, 10, 11, 12, 13, 14], [], [16], [7, 8, 9, 10, 11, 12, 13, 14, 15, 16, 17], [0, 1, 2, 3, 4, 5, 6, 7, 8, 9, 10, 11, 12, 13, 14, 15, 16, 17, 18], [0, 1, 2, 3, 4, 5, 6, 7, 8, 9, 10, 11, 12, 13, 14, 15, 16, 17, 18, 19]] 19 [] (phi (fun i_ r => match i_ with | 0 => r 0 = .slice (some ⟨gO, 0, none⟩) i cO | 1 => r 1 = .pointer (some ⟨g6, 0, none⟩) | 2 => r 2 = .int .i64 (lk.fr : Nat) | 3 => r 3 = .pointer (some ⟨gO, 0 + lk.fr, none⟩) | 4 => r 4 = .slice (some ⟨gF, 0, none⟩) i cF | 5 => r 5 = .pointer (some ⟨g6, 1, none⟩) | 6 => r 6 = .int .i64 (lk.to : Nat) | 7 => r 7 = .slice (some ⟨gO, 0, none⟩) i cO | 8 => r 8 = .pointer (some ⟨g6, 0, none⟩) | 9 => r 9 = .int .i64 (lk.fr : Nat) | 10 => r 10 = .pointer (some ⟨gO, 0 + lk.fr, none⟩) | 11 => r 11 = .slice (some ⟨gF, 0, none⟩) i cF | 12 => r 12 = .pointer (some ⟨g6, 1, none⟩) | 13 => r 13 = .int .i64 (lk.to : Nat) | 14 => r 14 = .pointer (some ⟨gF, 0 + lk.to, none⟩) | 15 => r 15 = .int .i64 (f lk.fr lk.to) | 16 => r 16 = .pointer (some ⟨g6, 2, none⟩) | 17 => r 17 = .int .i64 lk.most | 18 => r 18 = .int .i64 (min (f lk.fr lk.to) lk.most) | _ => True) []) (by kernel_rfl) rfl rfl (phi_nil) (fun i_ hi_ => ?_) ?_
      · match i_, hi_ with
        | 0, _ =>
          intro val w1 a hb ha hd
          have ha := ha.sub (Sub.ins (d := 7) (Sub.nil _) rfl)
          exact hs_val ha rfl rfl (x_move rfl) rfl rfl
        | 1, _ =>
          intro val w1 a hb ha hd
          have ha := ha.sub (Sub.ins (d := 13) (Sub.nil _) rfl)
          exact hs_val ha rfl rfl (fa_39_0 rfl) rfl rfl
        | 2, _ =>
          intro val w1 a hb ha hd
          have e1 : val 1 = .pointer (some ⟨g6, 0, none⟩) := hd 1 (memB_mem.1 rfl)
          have ha := ha.sub (Sub.ins (d := 61) (Sub.nil _) (dep_get rfl e1))
          exact hs_val ha rfl rfl (ld_3 rfl ((q6.below hb q6.lt).at (j := 0) rfl)) rfl rfl
        | 3, _ =>
          intro val w1 a hb ha hd
          have e0 : val 0 = .slice (some ⟨gO, 0, none⟩) i cO := hd 0 (memB_mem.1 rfl)
          have e2 : val 2 = .int .i64 (lk.fr : Nat) := hd 2 (memB_mem.1 rfl)
          have ha := ha.sub (Sub.ins (d := 62) (Sub.ins (d := 60) (Sub.nil _) (dep_get rfl e0)) (dep_get rfl e2))
          exact hs_val ha rfl rfl (ix_41 rfl rfl hfr) rfl rfl
        | 4, _ =>
          intro val w1 a hb ha hd
          have e3 : val 3 = .pointer (some ⟨gO, 0 + lk.fr, none⟩) := hd 3 (memB_mem.1 rfl)
          have ha := ha.sub (Sub.ins (d := 63) (Sub.nil _) (dep_get rfl e3))
          exact hs_val ha rfl rfl (ld_26 rfl (below_load hb rcF)) rfl rfl
        | 5, _ =>
          intro val w1 a hb ha hd
          have ha := ha.sub (Sub.ins (d := 13) (Sub.nil _) rfl)
          exact hs_val ha rfl rfl (fa_39_1 rfl) rfl rfl
        | 6, _ =>
          intro val w1 a hb ha hd
          have e5 : val 5 = .pointer (some ⟨g6, 1, none⟩) := hd 5 (memB_mem.1 rfl)
          have ha := ha.sub (Sub.ins (d := 65) (Sub.nil _) (dep_get rfl e5))
          exact hs_val ha rfl rfl (ld_3 rfl ((q6.below hb q6.lt).at (j := 1) rfl)) rfl rfl
        | 7, _ =>
          intro val w1 a hb ha hd
          have ha := ha.sub (Sub.ins (d := 7) (Sub.nil _) rfl)
          exact hs_val ha rfl rfl (x_move rfl) rfl rfl
        | 8, _ =>
          intro val w1 a hb ha hd
          have ha := ha.sub (Sub.ins (d := 13) (Sub.nil _) rfl)
          exact hs_val ha rfl rfl (fa_39_0 rfl) rfl rfl
        | 9, _ =>
          intro val w1 a hb ha hd
          have e8 : val 8 = .pointer (some ⟨g6, 0, none⟩) := hd 8 (memB_mem.1 rfl)
          have ha := ha.sub (Sub.ins (d := 68) (Sub.nil _) (dep_get rfl e8))
          exact hs_val ha rfl rfl (ld_3 rfl ((q6.below hb q6.lt).at (j := 0) rfl)) rfl rfl
        | 10, _ =>
          intro val w1 a hb ha hd
          have e7 : val 7 = .slice (some ⟨gO, 0, none⟩) i cO := hd 7 (memB_mem.1 rfl)
          have e9 : val 9 = .int .i64 (lk.fr : Nat) := hd 9 (memB_mem.1 rfl)
          have ha := ha.sub (Sub.ins (d := 69) (Sub.ins (d := 67) (Sub.nil _) (dep_get rfl e7)) (dep_get rfl e9))
          exact hs_val ha rfl rfl (ix_41 rfl rfl hfr) rfl rfl
        | 11, _ =>
          intro val w1 a hb ha hd
          have e10 : val 10 = .pointer (some ⟨gO, 0 + lk.fr, none⟩) := hd 10 (memB_mem.1 rfl)
          have ha := ha.sub (Sub.ins (d := 70) (Sub.nil _) (dep_get rfl e10))
          exact hs_val ha rfl rfl (ld_26 rfl (below_load hb rcF)) rfl rfl
        | 12, _ =>
          intro val w1 a hb ha hd
          have ha := ha.sub (Sub.ins (d := 13) (Sub.nil _) rfl)
          exact hs_val ha rfl rfl (fa_39_1 rfl) rfl rfl
        | 13, _ =>
          intro val w1 a hb ha hd
          have e12 : val 12 = .pointer (some ⟨g6, 1, none⟩) := hd 12 (memB_mem.1 rfl)
          have ha := ha.sub (Sub.ins (d := 72) (Sub.nil _) (dep_get rfl e12))
          exact hs_val ha rfl rfl (ld_3 rfl ((q6.below hb q6.lt).at (j := 1) rfl)) rfl rfl
        | 14, _ =>
          intro val w1 a hb ha hd
          have e11 : val 11 = .slice (some ⟨gF, 0, none⟩) i cF := hd 11 (memB_mem.1 rfl)
          have e13 : val 13 = .int .i64 (lk.to : Nat) := hd 13 (memB_mem.1 rfl)
          have ha := ha.sub (Sub.ins (d := 73) (Sub.ins (d := 71) (Sub.nil _) (dep_get rfl e11)) (dep_get rfl e13))
          exact hs_val ha rfl rfl (ix_26 rfl rfl hto) rfl rfl
        | 15, _ =>
          intro val w1 a hb ha hd
          have e14 : val 14 = .pointer (some ⟨gF, 0 + lk.to, none⟩) := hd 14 (memB_mem.1 rfl)
          have ha := ha.sub (Sub.ins (d := 74) (Sub.nil _) (dep_get rfl e14))
          exact hs_val ha rfl rfl (ld_3 rfl (below_load hb ceF)) rfl rfl
        | 16, _ =>
          intro val w1 a hb ha hd
          have ha := ha.sub (Sub.ins (d := 13) (Sub.nil _) rfl)
          exact hs_val ha rfl rfl (fa_39_2 rfl) rfl rfl
        | 17, _ =>
          intro val w1 a hb ha hd
          have e16 : val 16 = .pointer (some ⟨g6, 2, none⟩) := hd 16 (memB_mem.1 rfl)
          have ha := ha.sub (Sub.ins (d := 76) (Sub.nil _) (dep_get rfl e16))
          exact hs_val ha rfl rfl (ld_3 rfl ((q6.below hb q6.lt).at (j := 2) rfl)) rfl rfl
        | 18, _ =>
          intro val w1 a hb ha hd
          have e15 : val 15 = .int .i64 (f lk.fr lk.to) := hd 15 (memB_mem.1 rfl)
          have e17 : val 17 = .int .i64 lk.most := hd 17 (memB_mem.1 rfl)
          have ha := ha.sub (Sub.ins (d := 77) (Sub.ins (d := 75) (Sub.nil _) (dep_get rfl e15)) (dep_get rfl e17))
          exact hs_val ha rfl rfl (mm_min rfl rfl rfl) rfl rfl
        | k + 19, h => exact absurd h (by omega)
      · intro val wR17 hb halc hd
        have e0 : val 0 = .slice (some ⟨gO, 0, none⟩) i cO := hd 0 (by omega)
        have e1 : val 1 = .pointer (some ⟨g6, 0, none⟩) := hd 1 (by omega)
        have e2 : val 2 = .int .i64 (lk.fr : Nat) := hd 2 (by omega)
        have e3 : val 3 = .pointer (some ⟨gO, 0 + lk.fr, none⟩) := hd 3 (by omega)
        have e4 : val 4 = .slice (some ⟨gF, 0, none⟩) i cF := hd 4 (by omega)
        have e5 : val 5 = .pointer (some ⟨g6, 1, none⟩) := hd 5 (by omega)
        have e6 : val 6 = .int .i64 (lk.to : Nat) := hd 6 (by omega)
        have e7 : val 7 = .slice (some ⟨gO, 0, none⟩) i cO := hd 7 (by omega)
        have e8 : val 8 = .pointer (some ⟨g6, 0, none⟩) := hd 8 (by omega)
        have e9 : val 9 = .int .i64 (lk.fr : Nat) := hd 9 (by omega)
        have e10 : val 10 = .pointer (some ⟨gO, 0 + lk.fr, none⟩) := hd 10 (by omega)
        have e11 : val 11 = .slice (some ⟨gF, 0, none⟩) i cF := hd 11 (by omega)
        have e12 : val 12 = .pointer (some ⟨g6, 1, none⟩) := hd 12 (by omega)
        have e13 : val 13 = .int .i64 (lk.to : Nat) := hd 13 (by omega)
        have e14 : val 14 = .pointer (some ⟨gF, 0 + lk.to, none⟩) := hd 14 (by omega)
        have e15 : val 15 = .int .i64 (f lk.fr lk.to) := hd 15 (by omega)
        have e16 : val 16 = .pointer (some ⟨g6, 2, none⟩) := hd 16 (by omega)
        have e17 : val 17 = .int .i64 lk.most := hd 17 (by omega)
        have e18 : val 18 = .int .i64 (min (f lk.fr lk.to) lk.most) := hd 18 (by omega)
        refine EL.ends (cs := [.slice (some ⟨gO, 0, none⟩) i cO, .pointer (some ⟨g6, 0, none⟩), .int .i64 (lk.fr : Nat), .pointer (some ⟨gO, 0 + lk.fr, none⟩), .slice (some ⟨gF, 0, none⟩) i cF, .pointer (some ⟨g6, 1, none⟩), .int .i64 (lk.to : Nat), .slice (some ⟨gO, 0, none⟩) i cO, .pointer (some ⟨g6, 0, none⟩), .int .i64 (lk.fr : Nat), .pointer (some ⟨gO, 0 + lk.fr, none⟩), .slice (some ⟨gF, 0, none⟩) i cF, .pointer (some ⟨g6, 1, none⟩), .int .i64 (lk.to : Nat), .pointer (some ⟨gF, 0 + lk.to, none⟩), .int .i64 (f lk.fr lk.to), .pointer (some ⟨g6, 2, none⟩), .int .i64 lk.most, .int .i64 (min (f lk.fr lk.to) lk.most)]) ⟨e0, e1, e2, e3, e4, e5, e6, e7, e8, e9, e10, e11, e12, e13, e14, e15, e16, e17, e18, trivial⟩ rfl ?_
        replace q1 := q1.below hb q1.lt
        replace q6 := q6.below hb q6.lt
        replace hM := hM.below hb
        replace hls := own_below hls hb (Nat.le_refl _)
        replace hbw := Below.on hbw hb hbw.size
        clear hb
        refine EL.val (ix_26 rfl rfl hto) rfl ?_
        obtain ⟨rcF, roF⟩ := mat_again hM (i := lk.fr) hfr (by omega) erF
        obtain ⟨cur_, hcur_⟩ := own_blk roF
        have neb1 := row_ne2 (e := 3) roF q1 rfl
        have neb6 := row_ne2 (e := 3) roF q6 rfl
        refine EL.storeRow (l' := [.int .i64 (min (f lk.fr lk.to) lk.most)]) rfl rfl roF sz_3 rfl rfl (by rw [ints_len, rowM_len]; omega) rfl ?_
        intro w8 ho2 hg
        have hbm := (roF.lt gF rfl).1
        skip
        rw [Nat.zero_add, ints_set _ (by rw [rowM_len]; exact hto)] at ho2
        replace q1 := q1.grown hg (fun h => neb1 (Option.some.inj h))
        replace q6 := q6.grown hg (fun h => neb6 (Option.some.inj h))
        replace hM := hM.set hfr hto erF ho2 hg hcur_
        replace hbw := below_store hbw hg hbm
        replace hls := own_type hls hcur_ rfl hg
        clear ho2 hcur_
        refine EL.nil ?_
        refine EX.blk ?_
        refine EX.seq ?_
        refine EC.region ?_
        refine EL.val (x_move rfl) rfl ?_
        refine EL.val (x_add rfl rfl (by first | assumption | exact IntWalk.i64_in _ ⟨by omega, by omega⟩)) rfl ?_
        refine EL.val (x_assign rfl) rfl ?_
        refine EL.nil ?_
        refine EX.roundD (y + 1) ⟨rfl, trivial⟩ (by repeat first | with_reducible exact Sub.refl _ | refine sub_past rfl ?_ | exact Sub.refl _ | refine sub_del rfl ?_ | refine sub_insL_nil ?_) ⟨hyl, ⟨fs, by rw [hnx]; exact hM⟩, q1, hbw, hls⟩ (by omega)
    ·
      obtain rfl : y = ls.length := by omega
      have hf0 : linksM ls ls.length = fwM ls 0 := rfl
      rw [hf0] at hM
      refine EC.seq ?_
      refine EC.seq ?_
      refine EC.region ?_
      refine EL.val (x_move rfl) rfl ?_
      refine EL.val (x_move rfl) rfl ?_
      refine EL.val (ln_29 rfl) rfl ?_
      refine EL.val (x_lss rfl rfl (by first | assumption | exact decide_eq_false (by omega))) rfl ?_
      refine EL.nil ?_
      refine EX.seq ?_
      refine EC.no rfl ?_
      refine EC.exit ?_
      refine EX.seq_exit ?_
      refine EX.seq_exit ?_
      refine EX.blk_here ?_
      refine EX.seq ?_
      refine EC.seq ?_
      refine EC.seq ?_
      refine EC.region ?_
      refine EL.val (x_assign rfl) rfl ?_
      refine EL.nil ?_
      refine EX.seq ?_
      refine EC.block ?_
      have hp0 : posM (fwM ls 0) i := fun j _ => by rw [fwM, linksM_diag hlne (Nat.le_refl _)]; exact Int.le_refl _
      refine EC.loopD [4, 5, 14, 15, 16, 17, 80, 81, 82, 83, 84, 85, 86, 87, 88, 89, 90, 91, 92, 93, 94, 95, 96, 97, 98, 99, 100, 101, 102, 103, 104, 105, 106, 107, 108, 109, 110, 111, 112, 113, 114, 115, 116, 117, 118, 119, 120, 121, 122, 123, 124, 125, 126, 127, 128, 129, 130, 131, 132, 133, 134, 135, 136, 137, 138, 139, 140, 141, 142, 143, 144, 145, 146] (fun x : Nat => [(14, .int .i64 (x : Nat))]) (fun x W => x ≤ i ∧ (∃ fs, OwnMat W w.heap.size (.slice (some ⟨gO, 0, none⟩) i cO) i i (fwM ls x) fs) ∧ Blk W g1 25 #[.int .i64 c.events, .slice Ac c.clocks.length cc_, .slice Al c.clues.length cl_] ∧ Below w.heap.size w W ∧ ∀ j, j < x + 1 → posM (fwM ls j) i) (fun x => i - x) 0 ⟨Nat.zero_le _, ⟨fs, hM⟩, q1, hbw, fun j hj => (show j = 0 by omega) ▸ hp0⟩ ⟨rfl, trivial⟩ ?_
      clear q1 hbw hM
      rintro b wb ⟨hb_, ⟨fs, hM⟩, q1, hbw, hpos⟩
      by_cases hbi : b < i
      ·
        have hB := hbd b hbi hpos
        have hbb : fwM ls b b b = 0 := Int.le_antisymm (fwM_diag_le hlne b b) (hpos b (by omega) b hbi)
        obtain ⟨f, ef⟩ : ∃ z, z = fwM ls b := ⟨_, rfl⟩
        have hfs : fwM ls (b + 1) = stepM f b := by rw [fwM, ← ef]
        rw [← ef] at hM hB hbb
        have hM1 := hM
        rw [← partM_start (f := f) (b := b)] at hM
        refine EC.seq ?_
        refine EC.seq ?_
        refine EC.region ?_
        refine EL.val (x_move rfl) rfl ?_
        refine EL.val (x_move rfl) rfl ?_
        refine EL.val (x_lss rfl rfl (decide_eq_true (show ((b : Nat) : Int) < ((i : Nat) : Int) by omega))) rfl ?_
        refine EL.nil ?_
        refine EX.seq ?_
        refine EC.yes rfl ?_
        refine EC.skip ?_
        refine EX.seq ?_
        refine EC.seq ?_
        refine EC.block ?_
        refine EC.seq ?_
        refine EC.seq ?_
        refine EC.region ?_
        refine EL.val (x_assign rfl) rfl ?_
        refine EL.nil ?_
        refine EX.seq ?_
        refine EC.block ?_
        refine EC.loopD [15, 16, 85, 86, 87, 88, 89, 90, 91, 92, 93, 94, 95, 96, 97, 98, 99, 100, 101, 102, 103, 104, 105, 106, 107, 108, 109, 110, 111, 112, 113, 114, 115, 116, 117, 118, 119, 120, 121, 122, 123] (fun x : Nat => [(15, .int .i64 (x : Nat))]) (fun x W => x ≤ i ∧ (∃ fs, OwnMat W w.heap.size (.slice (some ⟨gO, 0, none⟩) i cO) i i (partM f b x 0) fs) ∧ Blk W g1 25 #[.int .i64 c.events, .slice Ac c.clocks.length cc_, .slice Al c.clues.length cl_] ∧ Below w.heap.size w W) (fun x => i - x) 0 ⟨Nat.zero_le _, ⟨fs, hM⟩, q1, hbw⟩ ⟨rfl, trivial⟩ ?_
        clear q1 hbw hM
        rintro rr wr ⟨hr_, ⟨fs, hM⟩, q1, hbw⟩
        by_cases hri : rr < i
        ·
          refine EC.seq ?_
          refine EC.seq ?_
          refine EC.region ?_
          refine EL.val (x_move rfl) rfl ?_
          refine EL.val (x_move rfl) rfl ?_
          refine EL.val (x_lss rfl rfl (decide_eq_true (show ((rr : Nat) : Int) < ((i : Nat) : Int) by omega))) rfl ?_
          refine EL.nil ?_
          refine EX.seq ?_
          refine EC.yes rfl ?_
          refine EC.skip ?_
          refine EX.seq ?_
          refine EC.seq ?_
          refine EC.block ?_
          refine EC.seq ?_
          refine EC.region ?_
          refine EL.val (x_assign rfl) rfl ?_
          refine EL.nil ?_
          refine EX.seq ?_
          refine EC.block ?_
          refine EC.loopD [16, 90, 91, 92, 93, 94, 95, 96, 97, 98, 99, 100, 101, 102, 103, 104, 105, 106, 107, 108, 109, 110, 111, 112, 113, 114, 115, 116, 117, 118, 119, 120, 121, 122, 123] (fun x : Nat => [(16, .int .i64 (x : Nat))]) (fun x W => x ≤ i ∧ (∃ fs, OwnMat W w.heap.size (.slice (some ⟨gO, 0, none⟩) i cO) i i (partM f b rr x) fs) ∧ Blk W g1 25 #[.int .i64 c.events, .slice Ac c.clocks.length cc_, .slice Al c.clues.length cl_] ∧ Below w.heap.size w W) (fun x => i - x) 0 ⟨Nat.zero_le _, ⟨fs, hM⟩, q1, hbw⟩ ⟨rfl, trivial⟩ ?_
          clear q1 hbw hM
          rintro k wk ⟨hk_, ⟨fs, hM⟩, q1, hbw⟩
          by_cases hki : k < i
          ·
            obtain ⟨gF, cF, erF, rcF, roF⟩ := mat_row hM (i := rr) hri (by omega)
            obtain ⟨gG, cG, erG, rcG, roG⟩ := mat_row hM (i := b) hbi (by omega)
            have ceK := mat_cell roF hki
            have ceB := mat_cell roF hbi
            have ceG := mat_cell roG hki
            rw [partM_col hbb] at ceB
            rw [partM_row hbb] at ceG
            have epk : partM f b rr k rr k = f rr k := by unfold partM; rw [if_neg (by omega)]
            rw [epk] at ceK
            have b1 := hB rr k hri hki
            have b2 := hB rr b hri hbi
            have b3 := hB b k hbi hki
            have hst := partM_next (f := f) (b := b) (i := rr) (k := k) hbb
            rw [partM_row hbb, partM_col hbb, epk] at hst
            refine EC.seq ?_
            refine EC.seq ?_
            refine EC.region ?_
            refine EL.val (x_move rfl) rfl ?_
            refine EL.val (x_move rfl) rfl ?_
            refine EL.val (x_lss rfl rfl (decide_eq_true (show ((k : Nat) : Int) < ((i : Nat) : Int) by omega))) rfl ?_
            refine EL.nil ?_
            refine EX.seq ?_
            refine EC.yes rfl ?_
            refine EC.skip ?_
            refine EX.seq ?_
            refine EC.seq ?_
            refine EC.block ?_
            have lt_1 := q1.lt
            refine EC.regionP [[], [], [0, 1], [0, 1, 2], [], [], [], [5, 6], [5, 6, 7], [], [5, 6, 7, 8, 9], [5, 6, 7, 8, 9, 10], [], [], [12, 13], [12, 13, 14], [], [12, 13, 14, 15, 16], [12, 13, 14, 15, 16, 17], [], [], [19, 20], [19, 20, 21], [], [19, 20, 21, 22, 23], [19, 20, 21, 22, 23, 24], [12, 13, 14, 15, 16, 17, 18, 19, 20, 21, 22, 23, 24, 25], [5, 6, 7, 8, 9, 10, 11, 12, 13, 14, 15, 16, 17, 18, 19, 20, 21, 22, 23, 24, 25, 26], [0, 1, 2, 3, 4, 5, 6, 7, 8, 9, 10, 11, 12, 13, 14, 15, 16, 17, 18, 19, 20, 21, 22, 23, 24, 25, 26, 27], [0, 1, 2, 3, 4, 5, 6, 7, 8, 9, 10, 11, 12, 13, 14, 15, 16, 17, 18, 19, 20, 21, 22, 23, 24, 25, 26, 27, 28]] 28 [] (phi (fun i_ r => match i_ with | 0 => r 0 = .slice (some ⟨gO, 0, none⟩) i cO | 1 => r 1 = .int .i64 (rr : Nat) | 2 => r 2 = .pointer (some ⟨gO, 0 + rr, none⟩) | 3 => r 3 = .slice (some ⟨gF, 0, none⟩) i cF | 4 => r 4 = .int .i64 (k : Nat) | 5 => r 5 = .slice (some ⟨gO, 0, none⟩) i cO | 6 => r 6 = .int .i64 (rr : Nat) | 7 => r 7 = .pointer (some ⟨gO, 0 + rr, none⟩) | 8 => r 8 = .slice (some ⟨gF, 0, none⟩) i cF | 9 => r 9 = .int .i64 (k : Nat) | 10 => r 10 = .pointer (some ⟨gF, 0 + k, none⟩) | 11 => r 11 = .int .i64 (f rr k) | 12 => r 12 = .slice (some ⟨gO, 0, none⟩) i cO | 13 => r 13 = .int .i64 (rr : Nat) | 14 => r 14 = .pointer (some ⟨gO, 0 + rr, none⟩) | 15 => r 15 = .slice (some ⟨gF, 0, none⟩) i cF | 16 => r 16 = .int .i64 (b : Nat) | 17 => r 17 = .pointer (some ⟨gF, 0 + b, none⟩) | 18 => r 18 = .int .i64 (f rr b) | 19 => r 19 = .slice (some ⟨gO, 0, none⟩) i cO | 20 => r 20 = .int .i64 (b : Nat) | 21 => r 21 = .pointer (some ⟨gO, 0 + b, none⟩) | 22 => r 22 = .slice (some ⟨gG, 0, none⟩) i cG | 23 => r 23 = .int .i64 (k : Nat) | 24 => r 24 = .pointer (some ⟨gG, 0 + k, none⟩) | 25 => r 25 = .int .i64 (f b k) | 26 => r 26 = .int .i64 (f rr b + f b k) | 27 => r 27 = .int .i64 (min (f rr k) (f rr b + f b k)) | _ => True) []) (by kernel_rfl) rfl rfl (phi_nil) (fun i_ hi_ => ?_) ?_
            · match i_, hi_ with
              | 0, _ =>
                intro val w1 a hb ha hd
                have ha := ha.sub (Sub.ins (d := 7) (Sub.nil _) rfl)
                exact hs_val ha rfl rfl (x_move rfl) rfl rfl
              | 1, _ =>
                intro val w1 a hb ha hd
                have ha := ha.sub (Sub.ins (d := 15) (Sub.nil _) rfl)
                exact hs_val ha rfl rfl (x_move rfl) rfl rfl
              | 2, _ =>
                intro val w1 a hb ha hd
                have e0 : val 0 = .slice (some ⟨gO, 0, none⟩) i cO := hd 0 (memB_mem.1 rfl)
                have e1 : val 1 = .int .i64 (rr : Nat) := hd 1 (memB_mem.1 rfl)
                have ha := ha.sub (Sub.ins (d := 96) (Sub.ins (d := 95) (Sub.nil _) (dep_get rfl e0)) (dep_get rfl e1))
                exact hs_val ha rfl rfl (ix_41 rfl rfl hri) rfl rfl
              | 3, _ =>
                intro val w1 a hb ha hd
                have e2 : val 2 = .pointer (some ⟨gO, 0 + rr, none⟩) := hd 2 (memB_mem.1 rfl)
                have ha := ha.sub (Sub.ins (d := 97) (Sub.nil _) (dep_get rfl e2))
                exact hs_val ha rfl rfl (ld_26 rfl (below_load hb rcF)) rfl rfl
              | 4, _ =>
                intro val w1 a hb ha hd
                have ha := ha.sub (Sub.ins (d := 16) (Sub.nil _) rfl)
                exact hs_val ha rfl rfl (x_move rfl) rfl rfl
              | 5, _ =>
                intro val w1 a hb ha hd
                have ha := ha.sub (Sub.ins (d := 7) (Sub.nil _) rfl)
                exact hs_val ha rfl rfl (x_move rfl) rfl rfl
              | 6, _ =>
                intro val w1 a hb ha hd
                have ha := ha.sub (Sub.ins (d := 15) (Sub.nil _) rfl)
                exact hs_val ha rfl rfl (x_move rfl) rfl rfl
              | 7, _ =>
                intro val w1 a hb ha hd
                have e5 : val 5 = .slice (some ⟨gO, 0, none⟩) i cO := hd 5 (memB_mem.1 rfl)
                have e6 : val 6 = .int .i64 (rr : Nat) := hd 6 (memB_mem.1 rfl)
                have ha := ha.sub (Sub.ins (d := 101) (Sub.ins (d := 100) (Sub.nil _) (dep_get rfl e5)) (dep_get rfl e6))
                exact hs_val ha rfl rfl (ix_41 rfl rfl hri) rfl rfl
              | 8, _ =>
                intro val w1 a hb ha hd
                have e7 : val 7 = .pointer (some ⟨gO, 0 + rr, none⟩) := hd 7 (memB_mem.1 rfl)
                have ha := ha.sub (Sub.ins (d := 102) (Sub.nil _) (dep_get rfl e7))
                exact hs_val ha rfl rfl (ld_26 rfl (below_load hb rcF)) rfl rfl
              | 9, _ =>
                intro val w1 a hb ha hd
                have ha := ha.sub (Sub.ins (d := 16) (Sub.nil _) rfl)
                exact hs_val ha rfl rfl (x_move rfl) rfl rfl
              | 10, _ =>
                intro val w1 a hb ha hd
                have e8 : val 8 = .slice (some ⟨gF, 0, none⟩) i cF := hd 8 (memB_mem.1 rfl)
                have e9 : val 9 = .int .i64 (k : Nat) := hd 9 (memB_mem.1 rfl)
                have ha := ha.sub (Sub.ins (d := 104) (Sub.ins (d := 103) (Sub.nil _) (dep_get rfl e8)) (dep_get rfl e9))
                exact hs_val ha rfl rfl (ix_26 rfl rfl hki) rfl rfl
              | 11, _ =>
                intro val w1 a hb ha hd
                have e10 : val 10 = .pointer (some ⟨gF, 0 + k, none⟩) := hd 10 (memB_mem.1 rfl)
                have ha := ha.sub (Sub.ins (d := 105) (Sub.nil _) (dep_get rfl e10))
                exact hs_val ha rfl rfl (ld_3 rfl (below_load hb ceK)) rfl rfl
              | 12, _ =>
                intro val w1 a hb ha hd
                have ha := ha.sub (Sub.ins (d := 7) (Sub.nil _) rfl)
                exact hs_val ha rfl rfl (x_move rfl) rfl rfl
              | 13, _ =>
                intro val w1 a hb ha hd
                have ha := ha.sub (Sub.ins (d := 15) (Sub.nil _) rfl)
                exact hs_val ha rfl rfl (x_move rfl) rfl rfl
              | 14, _ =>
                intro val w1 a hb ha hd
                have e12 : val 12 = .slice (some ⟨gO, 0, none⟩) i cO := hd 12 (memB_mem.1 rfl)
                have e13 : val 13 = .int .i64 (rr : Nat) := hd 13 (memB_mem.1 rfl)
                have ha := ha.sub (Sub.ins (d := 108) (Sub.ins (d := 107) (Sub.nil _) (dep_get rfl e12)) (dep_get rfl e13))
                exact hs_val ha rfl rfl (ix_41 rfl rfl hri) rfl rfl
              | 15, _ =>
                intro val w1 a hb ha hd
                have e14 : val 14 = .pointer (some ⟨gO, 0 + rr, none⟩) := hd 14 (memB_mem.1 rfl)
                have ha := ha.sub (Sub.ins (d := 109) (Sub.nil _) (dep_get rfl e14))
                exact hs_val ha rfl rfl (ld_26 rfl (below_load hb rcF)) rfl rfl
              | 16, _ =>
                intro val w1 a hb ha hd
                have ha := ha.sub (Sub.ins (d := 14) (Sub.nil _) rfl)
                exact hs_val ha rfl rfl (x_move rfl) rfl rfl
              | 17, _ =>
                intro val w1 a hb ha hd
                have e15 : val 15 = .slice (some ⟨gF, 0, none⟩) i cF := hd 15 (memB_mem.1 rfl)
                have e16 : val 16 = .int .i64 (b : Nat) := hd 16 (memB_mem.1 rfl)
                have ha := ha.sub (Sub.ins (d := 111) (Sub.ins (d := 110) (Sub.nil _) (dep_get rfl e15)) (dep_get rfl e16))
                exact hs_val ha rfl rfl (ix_26 rfl rfl hbi) rfl rfl
              | 18, _ =>
                intro val w1 a hb ha hd
                have e17 : val 17 = .pointer (some ⟨gF, 0 + b, none⟩) := hd 17 (memB_mem.1 rfl)
                have ha := ha.sub (Sub.ins (d := 112) (Sub.nil _) (dep_get rfl e17))
                exact hs_val ha rfl rfl (ld_3 rfl (below_load hb ceB)) rfl rfl
              | 19, _ =>
                intro val w1 a hb ha hd
                have ha := ha.sub (Sub.ins (d := 7) (Sub.nil _) rfl)
                exact hs_val ha rfl rfl (x_move rfl) rfl rfl
              | 20, _ =>
                intro val w1 a hb ha hd
                have ha := ha.sub (Sub.ins (d := 14) (Sub.nil _) rfl)
                exact hs_val ha rfl rfl (x_move rfl) rfl rfl
              | 21, _ =>
                intro val w1 a hb ha hd
                have e19 : val 19 = .slice (some ⟨gO, 0, none⟩) i cO := hd 19 (memB_mem.1 rfl)
                have e20 : val 20 = .int .i64 (b : Nat) := hd 20 (memB_mem.1 rfl)
                have ha := ha.sub (Sub.ins (d := 115) (Sub.ins (d := 114) (Sub.nil _) (dep_get rfl e19)) (dep_get rfl e20))
                exact hs_val ha rfl rfl (ix_41 rfl rfl hbi) rfl rfl
              | 22, _ =>
                intro val w1 a hb ha hd
                have e21 : val 21 = .pointer (some ⟨gO, 0 + b, none⟩) := hd 21 (memB_mem.1 rfl)
                have ha := ha.sub (Sub.ins (d := 116) (Sub.nil _) (dep_get rfl e21))
                exact hs_val ha rfl rfl (ld_26 rfl (below_load hb rcG)) rfl rfl
              | 23, _ =>
                intro val w1 a hb ha hd
                have ha := ha.sub (Sub.ins (d := 16) (Sub.nil _) rfl)
                exact hs_val ha rfl rfl (x_move rfl) rfl rfl
              | 24, _ =>
                intro val w1 a hb ha hd
                have e22 : val 22 = .slice (some ⟨gG, 0, none⟩) i cG := hd 22 (memB_mem.1 rfl)
                have e23 : val 23 = .int .i64 (k : Nat) := hd 23 (memB_mem.1 rfl)
                have ha := ha.sub (Sub.ins (d := 118) (Sub.ins (d := 117) (Sub.nil _) (dep_get rfl e22)) (dep_get rfl e23))
                exact hs_val ha rfl rfl (ix_26 rfl rfl hki) rfl rfl
              | 25, _ =>
                intro val w1 a hb ha hd
                have e24 : val 24 = .pointer (some ⟨gG, 0 + k, none⟩) := hd 24 (memB_mem.1 rfl)
                have ha := ha.sub (Sub.ins (d := 119) (Sub.nil _) (dep_get rfl e24))
                exact hs_val ha rfl rfl (ld_3 rfl (below_load hb ceG)) rfl rfl
              | 26, _ =>
                intro val w1 a hb ha hd
                have e18 : val 18 = .int .i64 (f rr b) := hd 18 (memB_mem.1 rfl)
                have e25 : val 25 = .int .i64 (f b k) := hd 25 (memB_mem.1 rfl)
                have ha := ha.sub (Sub.ins (d := 120) (Sub.ins (d := 113) (Sub.nil _) (dep_get rfl e18)) (dep_get rfl e25))
                exact hs_val ha rfl rfl (x_add rfl rfl (by first | assumption | exact IntWalk.i64_in _ ⟨by omega, by omega⟩)) rfl rfl
              | 27, _ =>
                intro val w1 a hb ha hd
                have e11 : val 11 = .int .i64 (f rr k) := hd 11 (memB_mem.1 rfl)
                have e26 : val 26 = .int .i64 (f rr b + f b k) := hd 26 (memB_mem.1 rfl)
                have ha := ha.sub (Sub.ins (d := 121) (Sub.ins (d := 106) (Sub.nil _) (dep_get rfl e11)) (dep_get rfl e26))
                exact hs_val ha rfl rfl (mm_min rfl rfl rfl) rfl rfl
              | k + 28, h => exact absurd h (by omega)
            · intro val wR27 hb halc hd
              have e0 : val 0 = .slice (some ⟨gO, 0, none⟩) i cO := hd 0 (by omega)
              have e1 : val 1 = .int .i64 (rr : Nat) := hd 1 (by omega)
              have e2 : val 2 = .pointer (some ⟨gO, 0 + rr, none⟩) := hd 2 (by omega)
              have e3 : val 3 = .slice (some ⟨gF, 0, none⟩) i cF := hd 3 (by omega)
              have e4 : val 4 = .int .i64 (k : Nat) := hd 4 (by omega)
              have e5 : val 5 = .slice (some ⟨gO, 0, none⟩) i cO := hd 5 (by omega)
              have e6 : val 6 = .int .i64 (rr : Nat) := hd 6 (by omega)
              have e7 : val 7 = .pointer (some ⟨gO, 0 + rr, none⟩) := hd 7 (by omega)
              have e8 : val 8 = .slice (some ⟨gF, 0, none⟩) i cF := hd 8 (by omega)
              have e9 : val 9 = .int .i64 (k : Nat) := hd 9 (by omega)
              have e10 : val 10 = .pointer (some ⟨gF, 0 + k, none⟩) := hd 10 (by omega)
              have e11 : val 11 = .int .i64 (f rr k) := hd 11 (by omega)
              have e12 : val 12 = .slice (some ⟨gO, 0, none⟩) i cO := hd 12 (by omega)
              have e13 : val 13 = .int .i64 (rr : Nat) := hd 13 (by omega)
              have e14 : val 14 = .pointer (some ⟨gO, 0 + rr, none⟩) := hd 14 (by omega)
              have e15 : val 15 = .slice (some ⟨gF, 0, none⟩) i cF := hd 15 (by omega)
              have e16 : val 16 = .int .i64 (b : Nat) := hd 16 (by omega)
              have e17 : val 17 = .pointer (some ⟨gF, 0 + b, none⟩) := hd 17 (by omega)
              have e18 : val 18 = .int .i64 (f rr b) := hd 18 (by omega)
              have e19 : val 19 = .slice (some ⟨gO, 0, none⟩) i cO := hd 19 (by omega)
              have e20 : val 20 = .int .i64 (b : Nat) := hd 20 (by omega)
              have e21 : val 21 = .pointer (some ⟨gO, 0 + b, none⟩) := hd 21 (by omega)
              have e22 : val 22 = .slice (some ⟨gG, 0, none⟩) i cG := hd 22 (by omega)
              have e23 : val 23 = .int .i64 (k : Nat) := hd 23 (by omega)
              have e24 : val 24 = .pointer (some ⟨gG, 0 + k, none⟩) := hd 24 (by omega)
              have e25 : val 25 = .int .i64 (f b k) := hd 25 (by omega)
              have e26 : val 26 = .int .i64 (f rr b + f b k) := hd 26 (by omega)
              have e27 : val 27 = .int .i64 (min (f rr k) (f rr b + f b k)) := hd 27 (by omega)
              refine EL.ends (cs := [.slice (some ⟨gO, 0, none⟩) i cO, .int .i64 (rr : Nat), .pointer (some ⟨gO, 0 + rr, none⟩), .slice (some ⟨gF, 0, none⟩) i cF, .int .i64 (k : Nat), .slice (some ⟨gO, 0, none⟩) i cO, .int .i64 (rr : Nat), .pointer (some ⟨gO, 0 + rr, none⟩), .slice (some ⟨gF, 0, none⟩) i cF, .int .i64 (k : Nat), .pointer (some ⟨gF, 0 + k, none⟩), .int .i64 (f rr k), .slice (some ⟨gO, 0, none⟩) i cO, .int .i64 (rr : Nat), .pointer (some ⟨gO, 0 + rr, none⟩), .slice (some ⟨gF, 0, none⟩) i cF, .int .i64 (b : Nat), .pointer (some ⟨gF, 0 + b, none⟩), .int .i64 (f rr b), .slice (some ⟨gO, 0, none⟩) i cO, .int .i64 (b : Nat), .pointer (some ⟨gO, 0 + b, none⟩), .slice (some ⟨gG, 0, none⟩) i cG, .int .i64 (k : Nat), .pointer (some ⟨gG, 0 + k, none⟩), .int .i64 (f b k), .int .i64 (f rr b + f b k), .int .i64 (min (f rr k) (f rr b + f b k))]) ⟨e0, e1, e2, e3, e4, e5, e6, e7, e8, e9, e10, e11, e12, e13, e14, e15, e16, e17, e18, e19, e20, e21, e22, e23, e24, e25, e26, e27, trivial⟩ rfl ?_
              replace q1 := q1.below hb q1.lt
              replace hM := hM.below hb
              replace hbw := Below.on hbw hb hbw.size
              clear hb
              refine EL.val (ix_26 rfl rfl hki) rfl ?_
              obtain ⟨rcF, roF⟩ := mat_again hM (i := rr) hri (by omega) erF
              obtain ⟨cur_, hcur_⟩ := own_blk roF
              have neb1 := row_ne2 (e := 3) roF q1 rfl
              refine EL.storeRow (l' := [.int .i64 (min (f rr k) (f rr b + f b k))]) rfl rfl roF sz_3 rfl rfl (by rw [ints_len, rowM_len]; omega) rfl ?_
              intro w8 ho2 hg
              have hbm := (roF.lt gF rfl).1
              skip
              rw [Nat.zero_add, ints_set _ (by rw [rowM_len]; exact hki)] at ho2
              replace q1 := q1.grown hg (fun h => neb1 (Option.some.inj h))
              replace hM := hM.set hri hki erF ho2 hg hcur_
              replace hbw := below_store hbw hg hbm
              clear ho2 hcur_
              refine EL.nil ?_
              refine EX.blk ?_
              refine EX.seq ?_
              refine EC.region ?_
              refine EL.val (x_move rfl) rfl ?_
              refine EL.val (x_add rfl rfl (by first | assumption | exact IntWalk.i64_in _ ⟨by omega, by omega⟩)) rfl ?_
              refine EL.val (x_assign rfl) rfl ?_
              refine EL.nil ?_
              rw [hst] at hM
              refine EX.roundD (k + 1) ⟨rfl, trivial⟩ (by repeat first | with_reducible exact Sub.refl _ | refine sub_past rfl ?_ | exact Sub.refl _ | refine sub_del rfl ?_ | refine sub_insL_nil ?_) ⟨hki, ⟨fs, hM⟩, q1, hbw⟩ (by omega)
          ·
            obtain rfl : k = i := by omega
            have hM := hM.congr (fun a c _ hc => partM_line a c hc)
            refine EC.seq ?_
            refine EC.seq ?_
            refine EC.region ?_
            refine EL.val (x_move rfl) rfl ?_
            refine EL.val (x_move rfl) rfl ?_
            refine EL.val (x_lss rfl rfl (decide_eq_false (show ¬((k : Nat) : Int) < ((k : Nat) : Int) by omega))) rfl ?_
            refine EL.nil ?_
            refine EX.seq ?_
            refine EC.no rfl ?_
            refine EC.exit ?_
            refine EX.seq_exit ?_
            refine EX.seq_exit ?_
            refine EX.blk_here ?_
            refine EX.blk ?_
            refine EX.seq ?_
            refine EC.region ?_
            refine EL.val (x_move rfl) rfl ?_
            refine EL.val (x_add rfl rfl (by first | assumption | exact IntWalk.i64_in _ ⟨by omega, by omega⟩)) rfl ?_
            refine EL.val (x_assign rfl) rfl ?_
            refine EL.nil ?_
            refine EX.roundD (rr + 1) ⟨rfl, trivial⟩ (by repeat first | with_reducible exact Sub.refl _ | refine sub_past rfl ?_ | exact Sub.refl _ | refine sub_del rfl ?_ | refine sub_insL_nil ?_) ⟨hri, ⟨fs, hM⟩, q1, hbw⟩ (by omega)
        ·
          obtain rfl : rr = i := by omega
          have hM := hM.congr (fun a c ha _ => partM_end a c ha)
          obtain ⟨gD, cD, erD, rcD, roD⟩ := mat_row hM (i := b) hbi (by omega)
          have ceD := mat_cell roD hbi
          refine EC.seq ?_
          refine EC.seq ?_
          refine EC.region ?_
          refine EL.val (x_move rfl) rfl ?_
          refine EL.val (x_move rfl) rfl ?_
          refine EL.val (x_lss rfl rfl (decide_eq_false (show ¬((rr : Nat) : Int) < ((rr : Nat) : Int) by omega))) rfl ?_
          refine EL.nil ?_
          refine EX.seq ?_
          refine EC.no rfl ?_
          refine EC.exit ?_
          refine EX.seq_exit ?_
          refine EX.seq_exit ?_
          refine EX.blk_here ?_
          refine EX.seq ?_
          refine EC.seq ?_
          refine EC.seq ?_
          refine EC.region ?_
          refine EL.val (x_move rfl) rfl ?_
          refine EL.val (x_move rfl) rfl ?_
          refine EL.val (ix_41 rfl rfl hbi) rfl ?_
          refine EL.val (ld_26 rfl rcD) rfl ?_
          refine EL.val (x_move rfl) rfl ?_
          refine EL.val (ix_26 rfl rfl hbi) rfl ?_
          refine EL.val (ld_3 rfl ceD) rfl ?_
          by_cases hng : stepM f b b b < 0
          ·
            have hno : okM ls rr = false := by rw [okM]; exact decide_eq_false (fun h => by have := h (b + 1) (by omega) b hbi; rw [hfs] at this; omega)
            refine EL.val (x_lss rfl rfl (by first | assumption | exact decide_eq_true (by omega))) rfl ?_
            refine EL.nil ?_
            refine EX.seq ?_
            refine EC.yes rfl ?_
            refine EC.seq ?_
            refine EC.region ?_
            refine EL.val (x_move rfl) rfl ?_
            refine EL.val (x_assign rfl) rfl ?_
            refine EL.val (x_assign rfl) rfl ?_
            refine EL.nil ?_
            refine EX.seq ?_
            refine EC.ret ?_
            refine EX.seq_ret ?_
            refine EX.blk_ret ?_
            refine EX.seq_ret ?_
            refine EX.seq_ret ?_
            refine EX.blk_ret ?_
            refine EX.seq_ret ?_
            exact EX.done (res2 rfl rfl rfl) ⟨⟨_, by rw [hno], fun h => by rw [hno] at h; cases h⟩, hbw⟩
          ·
            refine EL.val (x_lss rfl rfl (by first | assumption | exact decide_eq_false (by omega))) rfl ?_
            refine EL.nil ?_
            refine EX.seq ?_
            refine EC.no rfl ?_
            refine EC.skip ?_
            refine EX.seq ?_
            refine EC.seq ?_
            refine EC.region ?_
            refine EL.val (x_assign rfl) rfl ?_
            refine EL.nil ?_
            refine EX.seq ?_
            refine EC.block ?_
            refine EC.loopD [4, 5, 17, 133, 134, 135, 136, 137, 138, 139, 140, 141, 142, 143, 144, 145, 146] (fun x : Nat => [(17, .int .i64 (x : Nat))]) (fun x W => x ≤ rr ∧ (∀ j, j < x → 0 ≤ stepM f b j j) ∧ (∃ fs, OwnMat W w.heap.size (.slice (some ⟨gO, 0, none⟩) rr cO) rr rr (stepM f b) fs) ∧ Blk W g1 25 #[.int .i64 c.events, .slice Ac c.clocks.length cc_, .slice Al c.clues.length cl_] ∧ Below w.heap.size w W) (fun x => rr - x) 0 ⟨Nat.zero_le _, fun j hj => absurd hj (by omega), ⟨fs, hM⟩, q1, hbw⟩ ⟨rfl, trivial⟩ ?_
            clear q1 hbw hM
            rintro p wp ⟨hp_, hpp, ⟨fs, hM⟩, q1, hbw⟩
            by_cases hpi : p < rr
            ·
              obtain ⟨gP, cP, erP, rcP, roP⟩ := mat_row hM (i := p) hpi (by omega)
              have ceP := mat_cell roP hpi
              refine EC.seq ?_
              refine EC.seq ?_
              refine EC.region ?_
              refine EL.val (x_move rfl) rfl ?_
              refine EL.val (x_move rfl) rfl ?_
              refine EL.val (x_lss rfl rfl (decide_eq_true (show ((p : Nat) : Int) < ((rr : Nat) : Int) by omega))) rfl ?_
              refine EL.nil ?_
              refine EX.seq ?_
              refine EC.yes rfl ?_
              refine EC.skip ?_
              refine EX.seq ?_
              refine EC.seq ?_
              refine EC.block ?_
              refine EC.seq ?_
              refine EC.region ?_
              refine EL.val (x_move rfl) rfl ?_
              refine EL.val (x_move rfl) rfl ?_
              refine EL.val (ix_41 rfl rfl hpi) rfl ?_
              refine EL.val (ld_26 rfl rcP) rfl ?_
              refine EL.val (x_move rfl) rfl ?_
              refine EL.val (ix_26 rfl rfl hpi) rfl ?_
              refine EL.val (ld_3 rfl ceP) rfl ?_
              by_cases hng2 : stepM f b p p < 0
              ·
                have hno : okM ls rr = false := by rw [okM]; exact decide_eq_false (fun h => by have := h (b + 1) (by omega) p hpi; rw [hfs] at this; omega)
                refine EL.val (x_lss rfl rfl (by first | assumption | exact decide_eq_true (by omega))) rfl ?_
                refine EL.nil ?_
                refine EX.seq ?_
                refine EC.yes rfl ?_
                refine EC.seq ?_
                refine EC.region ?_
                refine EL.val (x_move rfl) rfl ?_
                refine EL.val (x_assign rfl) rfl ?_
                refine EL.val (x_assign rfl) rfl ?_
                refine EL.nil ?_
                refine EX.seq ?_
                refine EC.ret ?_
                refine EX.blk_ret ?_
                refine EX.seq_ret ?_
                refine EX.seq_ret ?_
                refine EX.blk_ret ?_
                refine EX.blk_ret ?_
                refine EX.seq_ret ?_
                refine EX.seq_ret ?_
                refine EX.blk_ret ?_
                refine EX.seq_ret ?_
                exact EX.done (res2 rfl rfl rfl) ⟨⟨_, by rw [hno], fun h => by rw [hno] at h; cases h⟩, hbw⟩
              ·
                refine EL.val (x_lss rfl rfl (by first | assumption | exact decide_eq_false (by omega))) rfl ?_
                refine EL.nil ?_
                refine EX.seq ?_
                refine EC.no rfl ?_
                refine EC.skip ?_
                refine EX.blk ?_
                refine EX.seq ?_
                refine EC.region ?_
                refine EL.val (x_move rfl) rfl ?_
                refine EL.val (x_add rfl rfl (by first | assumption | exact IntWalk.i64_in _ ⟨by omega, by omega⟩)) rfl ?_
                refine EL.val (x_assign rfl) rfl ?_
                refine EL.nil ?_
                refine EX.roundD (p + 1) ⟨rfl, trivial⟩ (by repeat first | with_reducible exact Sub.refl _ | refine sub_past rfl ?_ | exact Sub.refl _ | refine sub_del rfl ?_ | refine sub_insL_nil ?_) ⟨hpi, fun j hj => by by_cases e : j < p; (exact hpp j e); (rw [show j = p by omega]; omega), ⟨fs, hM⟩, q1, hbw⟩ (by omega)
            ·
              obtain rfl : p = rr := by omega
              have hps : posM (stepM f b) p := fun j hj => hpp j hj
              refine EC.seq ?_
              refine EC.seq ?_
              refine EC.region ?_
              refine EL.val (x_move rfl) rfl ?_
              refine EL.val (x_move rfl) rfl ?_
              refine EL.val (x_lss rfl rfl (decide_eq_false (show ¬((p : Nat) : Int) < ((p : Nat) : Int) by omega))) rfl ?_
              refine EL.nil ?_
              refine EX.seq ?_
              refine EC.no rfl ?_
              refine EC.exit ?_
              refine EX.seq_exit ?_
              refine EX.seq_exit ?_
              refine EX.blk_here ?_
              refine EX.blk ?_
              refine EX.seq ?_
              refine EC.region ?_
              refine EL.val (x_move rfl) rfl ?_
              refine EL.val (x_add rfl rfl (by first | assumption | exact IntWalk.i64_in _ ⟨by omega, by omega⟩)) rfl ?_
              refine EL.val (x_assign rfl) rfl ?_
              refine EL.nil ?_
              refine EX.roundD (b + 1) ⟨rfl, trivial⟩ (by repeat first | with_reducible exact Sub.refl _ | refine sub_past rfl ?_ | exact Sub.refl _ | refine sub_del rfl ?_ | refine sub_insL_nil ?_) ⟨hbi, ⟨fs, by rw [hfs]; exact hM⟩, q1, hbw, fun j hj => by by_cases e : j < b + 1; (exact hpos j e); (rw [show j = b + 1 by omega, hfs]; exact hps)⟩ (by omega)
      ·
        obtain rfl : b = i := by omega
        have hyes : okM ls b = true := by rw [okM]; exact decide_eq_true (fun j hj => hpos j hj)
        refine EC.seq ?_
        refine EC.seq ?_
        refine EC.region ?_
        refine EL.val (x_move rfl) rfl ?_
        refine EL.val (x_move rfl) rfl ?_
        refine EL.val (x_lss rfl rfl (decide_eq_false (show ¬((b : Nat) : Int) < ((b : Nat) : Int) by omega))) rfl ?_
        refine EL.nil ?_
        refine EX.seq ?_
        refine EC.no rfl ?_
        refine EC.exit ?_
        refine EX.seq_exit ?_
        refine EX.seq_exit ?_
        refine EX.blk_here ?_
        refine EX.seq ?_
        refine EC.seq ?_
        refine EC.region ?_
        refine EL.val (x_move rfl) rfl ?_
        refine EL.val (x_assign rfl) rfl ?_
        refine EL.val (x_assign rfl) rfl ?_
        refine EL.nil ?_
        refine EX.seq ?_
        refine EC.ret ?_
        exact EX.done (res2 rfl rfl rfl) ⟨⟨_, by rw [hyes], fun _ => ⟨fs, hM⟩⟩, hbw⟩
end Go.Proofs.Ytmaiiigijjfjfaa
set_option linter.unusedVariables false
set_option linter.unusedSimpArgs false
namespace Go.Proofs.Ytmaiiigijjfjfaa
open Go Go.RowKit
section
variable {n : Nat} {σ : Sg} {w : World} {dst : Option Tmp} {ty : TypeId} {pos : String} {af : Array Edge} {g : Option (Nat × Bool)} {x y z : Operand} {at' : Array TypeId}
theorem cl_41 {x0 x1 : Operand} {v0 v1 : Value} (h0 : evS σ x0 = some v0) (h1 : evS σ x1 = some v1) (a : Act) (ha : Env n σ a) : (execOp a.eval ⟨dst, .call { callee := .value (.func 41), args := #[x0, x1], argTypes := at' }, ty, pos, af, g⟩).run Try.prog w = .ok (.enter 41 #[v0, v1]) w := by
  simp only [execOp, resolve, List.map_toArray, List.map_cons, List.map_nil, ha.eval h0, ha.eval h1]
  simp [go_sem, Act.eval]
theorem bs_22_0 (a : Act) (_ : Env n σ a) : (execOp a.eval ⟨dst, .buildSlice 22 0 #[], ty, pos, af, g⟩).run Try.prog w = .ok (.value (.slice (some ⟨w.heap.size, 0, none⟩) 0 0)) (w.alloc (.cells #[] 54)) := by
  simp only [execOp]
  go_simp
end
end Go.Proofs.Ytmaiiigijjfjfaa
set_option linter.unusedVariables false
set_option linter.unusedSimpArgs false
namespace Go.Proofs.Ytmaiiigijjfjfaa
open Go Go.RowKit
/-- no entry leaves the integers -/
def NoOver (c : Case) (l : List Int) : Prop := ∀ b, b < nOf c → (∀ j, j < b + 1 → posM (fwM (linksOf c l) j) (nOf c)) → ∀ i k, i < nOf c → k < nOf c → -1000000000 ≤ fwM (linksOf c l) b i k ∧ fwM (linksOf c l) b i k ≤ 1000000000
/-- by how much a variable can be greater than another one -/
def dist (c : Case) (l : List Int) : Mat := fwM (linksOf c l) (nOf c)
def okC (c : Case) (l : List Int) : Bool := okM (linksOf c l) (nOf c)
theorem rpossible_any (c : Case) (vc vl : Value) (vs : List Value) (w : World) (B : Nat) (hr : RdCase w B vc vl c vs) (hB : B ≤ w.heap.size) (hn1 : c.clocks.length ≤ 1073741824) (hn2 : c.clues.length ≤ 1073741824) (l : List Int) (vi : Value) (hrl : Rd w B 1 vi l.length (ints l)) (hc : caseB c = true) (hcr : inCourseN c l) (hbd : NoOver c l) :
    Calls Try.prog 17 #[.agg #[.int .i64 c.events, vc, vl], vi] w fun e w' => e = .returned (.bool (okC c l)) ∧ Below w.heap.size w w' := by
  obtain ⟨Ac, cc_, rfl, _⟩ := hr.clocks.shape
  obtain ⟨Al, cl_, rfl, _⟩ := hr.clues.rd.shape
  obtain ⟨Ai, ci_, rfl, _⟩ := hrl.shape
  obtain ⟨hev, hcl8, hcl20, hck, hcu⟩ := caseB_ok hc
  have hbw := Below.refl w.heap.size w
  refine EC.enter 14 Try.func17 rfl rfl rfl ?_
  refine EC.seq ?_
  refine EC.region ?_
  refine EL.newP (bx_25 rfl) rfl ?_
  intro g1 w1 q1 hb1 hg1 hl1
  have bhbw_1 := Nat.le_trans hbw.size hg1
  replace hbw := Below.on hbw hb1 hbw.size
  clear hb1 hg1 hl1
  refine EL.val (x_assign rfl) rfl ?_
  refine EL.nil ?_
  refine EX.seq ?_
  refine EC.seq ?_
  refine EC.region ?_
  refine EL.val (ld_25 rfl (q1.at (j := 0) rfl) (q1.at (j := 1) rfl) (q1.at (j := 2) rfl)) rfl ?_
  refine EL.val (x_move rfl) rfl ?_
  have hszw := hbw.size
  refine EL.call (cl_41 rfl rfl) rfl (rmost_any c _ _ vs _ B (hr.below (hbw.mono hB)) (Nat.le_trans hB hbw.size) hn1 hn2 l _ (hrl.below (hbw.mono hB)) hc hcr hbd) ?_
  rintro e wl ⟨⟨vM, rfl, hMo⟩, hcl⟩
  refine ⟨_, rfl, ?_⟩
  replace q1 := q1.below hcl q1.lt
  replace hbw := Below.on hbw hcl hbw.size
  clear hcl
  refine EL.val (x_move rfl) rfl ?_
  refine EL.val (x_extract rfl rfl) rfl ?_
  refine EL.val (x_extract rfl rfl) rfl ?_
  refine EL.val (x_assign rfl) rfl ?_
  refine EL.val (x_assign rfl) rfl ?_
  refine EL.nil ?_
  refine EX.seq ?_
  refine EC.seq ?_
  refine EC.region ?_
  refine EL.val (x_move rfl) rfl ?_
  refine EL.val (x_assign rfl) rfl ?_
  refine EL.nil ?_
  refine EX.seq ?_
  refine EC.ret ?_
  exact EX.done (res1 rfl rfl) ⟨rfl, hbw⟩
end Go.Proofs.Ytmaiiigijjfjfaa
set_option linter.unusedVariables false
set_option linter.unusedSimpArgs false
namespace Go.Proofs.Ytmaiiigijjfjfaa
open Go
/-- numbers for all variables that all links allow -/
def Feas (ls : List Lnk) (π : Nat → Int) : Prop := ∀ k, k < ls.length → π (ls.getD k lnk0).to ≤ π (ls.getD k lnk0).fr + (ls.getD k lnk0).most
/-- the links that all webs have -/
structure Hub (n : Nat) (ls : List Lnk) : Prop where
  ok : LnksOk n ls
  ne : ∀ k, k < ls.length → (ls.getD k lnk0).fr ≠ (ls.getD k lnk0).to
  up : ∀ v, 0 < v → v < n → ∃ k, k < ls.length ∧ (ls.getD k lnk0).fr = 0 ∧ (ls.getD k lnk0).to = v ∧ (ls.getD k lnk0).most ≤ 1000000
  down : ∀ v, 0 < v → v < n → ∃ k, k < ls.length ∧ (ls.getD k lnk0).fr = v ∧ (ls.getD k lnk0).to = 0 ∧ (ls.getD k lnk0).most ≤ 100000
section
variable {ls : List Lnk} {n : Nat}
theorem linkM_le (f : Mat) (x : Lnk) (a b : Nat) : linkM f x a b ≤ f a b := by
  unfold linkM updM
  split
  · rename_i h; obtain ⟨rfl, rfl⟩ := h; omega
  · exact Int.le_refl _
theorem linksM_mono : ∀ (k j : Nat) (a b : Nat), linksM ls (k + j) a b ≤ linksM ls k a b
  | k, 0, a, b => Int.le_refl _
  | k, j + 1, a, b => Int.le_trans (linkM_le _ _ a b) (linksM_mono k j a b)
theorem links_le {k : Nat} (hk : k < ls.length) : fwM ls 0 (ls.getD k lnk0).fr (ls.getD k lnk0).to ≤ (ls.getD k lnk0).most := by
  have h1 := linksM_mono (ls := ls) (k + 1) (ls.length - (k + 1)) (ls.getD k lnk0).fr (ls.getD k lnk0).to
  rw [show k + 1 + (ls.length - (k + 1)) = ls.length by omega] at h1
  have h2 : linksM ls (k + 1) (ls.getD k lnk0).fr (ls.getD k lnk0).to ≤ (ls.getD k lnk0).most := by
    rw [linksM, linkM, updM, if_pos ⟨rfl, rfl⟩]
    omega
  rw [fwM]
  omega
theorem fw_mono (b : Nat) (i k : Nat) : fwM ls (b + 1) i k ≤ fwM ls b i k := by rw [fwM, stepM]; omega
theorem fw_le0 : ∀ (b i k : Nat), fwM ls b i k ≤ fwM ls 0 i k
  | 0, _, _ => Int.le_refl _
  | b + 1, i, k => Int.le_trans (fw_mono b i k) (fw_le0 b i k)
theorem fw_diag (hub : Hub n ls) {b i : Nat} (hi : i < n) (hp : posM (fwM ls b) n) : fwM ls b i i = 0 := Int.le_antisymm (fwM_diag_le hub.ne b i) (hp i hi)
/-- by way of a variable that was taken -/
theorem fw_tri (hub : Hub n ls) : ∀ {b : Nat}, b ≤ n → (∀ j, j < b + 1 → posM (fwM ls j) n) → ∀ j, j < b → ∀ i k, i < n → k < n → fwM ls b i k ≤ fwM ls b i j + fwM ls b j k
  | 0, _, _, j, hj, _, _, _, _ => absurd hj (by omega)
  | b + 1, hb, hp, j, hj, i, k, hi, hk => by
    have hbb := fw_diag hub (b := b) (i := b) (by omega) (hp b (by omega))
    have T := fw_tri hub (b := b) (by omega) (fun j hj => hp j (by omega))
    rw [fwM]
    by_cases e : j = b
    · subst e
      rw [stepM_col hbb, stepM_row hbb]
      unfold stepM
      omega
    · have t1 := T j (by omega) i k hi hk
      have t2 := T j (by omega) i b hi (by omega)
      have t3 := T j (by omega) b k (by omega) hk
      have t4 := T j (by omega) b b (by omega) (by omega)
      unfold stepM
      omega
/-- a sum by way of taken variables goes through the first and the last one -/
theorem fw_ends (hub : Hub n ls) : ∀ {b : Nat}, b ≤ n → (∀ j, j < b + 1 → posM (fwM ls j) n) → ∀ i k, i < n → k < n → fwM ls b i k = fwM ls 0 i k ∨ ∃ x y, x < b ∧ y < b ∧ fwM ls 0 i x + fwM ls b x y + fwM ls 0 y k ≤ fwM ls b i k
  | 0, _, _, _, _, _, _ => .inl rfl
  | b + 1, hb, hp, i, k, hi, hk => by
    have hbb := fw_diag hub (b := b) (i := b) (by omega) (hp b (by omega))
    have hbb2 := fw_diag hub (b := b + 1) (i := b) (by omega) (hp (b + 1) (by omega))
    have T := fw_tri hub (b := b) (by omega) (fun j hj => hp j (by omega))
    have C := fw_ends hub (b := b) (by omega) (fun j hj => hp j (by omega))
    have hcol : ∀ a, fwM ls (b + 1) a b = fwM ls b a b := fun a => by rw [fwM]; exact stepM_col hbb a
    have hrow : ∀ a, fwM ls (b + 1) b a = fwM ls b b a := fun a => by rw [fwM]; exact stepM_row hbb a
    have hmin : fwM ls (b + 1) i k = min (fwM ls b i k) (fwM ls b i b + fwM ls b b k) := rfl
    by_cases e : fwM ls b i k ≤ fwM ls b i b + fwM ls b b k
    · rw [show fwM ls (b + 1) i k = fwM ls b i k by omega]
      rcases C i k hi hk with h | ⟨x, y, hx, hy, h⟩
      · exact .inl h
      · have := fw_mono (ls := ls) b x y
        exact .inr ⟨x, y, by omega, by omega, by omega⟩
    · rw [show fwM ls (b + 1) i k = fwM ls b i b + fwM ls b b k by omega]
      rcases C i b hi (by omega) with h1 | ⟨x, y, hx, hy, h1⟩
      · rcases C b k (by omega) hk with h2 | ⟨z, u, hz, hu, h2⟩
        · exact .inr ⟨b, b, by omega, by omega, by omega⟩
        · have t := T z (by omega) b u (by omega) (by omega)
          have m := fw_le0 (ls := ls) b b z
          have r := hrow u
          exact .inr ⟨b, u, by omega, by omega, by omega⟩
      · have t := T y (by omega) x b (by omega) (by omega)
        have m := fw_le0 (ls := ls) b y b
        rcases C b k (by omega) hk with h2 | ⟨z, u, hz, hu, h2⟩
        · have r := hcol x
          exact .inr ⟨x, b, by omega, by omega, by omega⟩
        · have t2 := T z (by omega) b u (by omega) (by omega)
          have m2 := fw_le0 (ls := ls) b b z
          have s : fwM ls (b + 1) x u ≤ fwM ls b x b + fwM ls b b u := by rw [fwM, stepM]; omega
          exact .inr ⟨x, u, by omega, by omega, by omega⟩
theorem fw0_bd (hub : Hub n ls) (i k : Nat) : -2000000 ≤ fwM ls 0 i k ∧ fwM ls 0 i k ≤ 1000000000 := linksM_bd hub.ok (Nat.le_refl _) i k
theorem fw0_up (hub : Hub n ls) {v : Nat} (hv : v < n) : fwM ls 0 0 v ≤ 1000000 ∧ fwM ls 0 v 0 ≤ 100000 := by
  by_cases h : v = 0
  · subst h
    rw [fwM, linksM_diag hub.ne (Nat.le_refl _)]
    omega
  · obtain ⟨k, hk, e1, e2, e3⟩ := hub.up v (by omega) hv
    obtain ⟨j, hj, f1, f2, f3⟩ := hub.down v (by omega) hv
    have a := links_le hk
    have b := links_le hj
    rw [e1, e2] at a
    rw [f1, f2] at b
    omega
/-- no entry is too small -/
theorem fw_bd (hub : Hub n ls) {b : Nat} (hb : b ≤ n) (hp : ∀ j, j < b + 1 → posM (fwM ls j) n) {i k : Nat} (hi : i < n) (hk : k < n) : -10000000 ≤ fwM ls b i k ∧ fwM ls b i k ≤ 1000000000 := by
  have h0 := fw0_bd hub i k
  have h1 := fw_le0 (ls := ls) b i k
  refine ⟨?_, by omega⟩
  rcases fw_ends hub hb hp i k hi hk with h | ⟨x, y, hx, hy, h⟩
  · omega
  · have a1 := fw0_bd hub i x
    have a2 := fw0_bd hub y k
    have T := fw_tri hub hb hp
    have t1 := T x hx 0 y (by omega) (by omega)
    have t2 := T 0 (by omega) y y (by omega) (by omega)
    have dy := fw_diag hub (i := y) (by omega) (hp b (by omega))
    have u1 := (fw0_up hub (v := x) (by omega)).1
    have u2 := (fw0_up hub (v := y) (by omega)).2
    have m1 := fw_le0 (ls := ls) b 0 x
    have m2 := fw_le0 (ls := ls) b y 0
    omega
/-- nothing feasible is further apart -/
theorem feas_far (hub : Hub n ls) {π : Nat → Int} (hf : Feas ls π) {u v : Nat} (hu : u < n) (hv : v < n) : π v - π u ≤ 1100000 := by
  have h : ∀ w, w < n → π w ≤ π 0 + 1000000 ∧ π 0 ≤ π w + 100000 := fun w hw => by
    by_cases e : w = 0
    · subst e; omega
    · obtain ⟨k, hk, e1, e2, e3⟩ := hub.up w (by omega) hw
      obtain ⟨j, hj, f1, f2, f3⟩ := hub.down w (by omega) hw
      have a := hf k hk
      have b := hf j hj
      rw [e1, e2] at a
      rw [f1, f2] at b
      omega
  have a := h u hu
  have b := h v hv
  omega
theorem feas_links (hub : Hub n ls) {π : Nat → Int} (hf : Feas ls π) : ∀ {k : Nat}, k ≤ ls.length → ∀ u v, u < n → v < n → π v - π u ≤ linksM ls k u v
  | 0, _, u, v, hu, hv => by
    have := feas_far hub hf hu hv
    unfold linksM mat0 farR
    split
    · rename_i h; subst h; omega
    · omega
  | k + 1, hk, u, v, hu, hv => by
    have h1 := feas_links hub hf (k := k) (by omega) u v hu hv
    have h2 := hf k (by omega)
    rw [linksM, linkM, updM]
    split
    · rename_i h
      obtain ⟨rfl, rfl⟩ := h
      omega
    · exact h1
theorem feas_fw (hub : Hub n ls) {π : Nat → Int} (hf : Feas ls π) : ∀ {b : Nat}, b ≤ n → ∀ u v, u < n → v < n → π v - π u ≤ fwM ls b u v
  | 0, _, u, v, hu, hv => feas_links hub hf (Nat.le_refl _) u v hu hv
  | b + 1, hb, u, v, hu, hv => by
    have h1 := feas_fw hub hf (b := b) (by omega) u v hu hv
    have h2 := feas_fw hub hf (b := b) (by omega) u b hu (by omega)
    have h3 := feas_fw hub hf (b := b) (by omega) b v (by omega) hv
    rw [fwM, stepM]
    omega
theorem okM_iff : okM ls n = true ↔ ∀ b, b < n + 1 → posM (fwM ls b) n := by unfold okM; rw [decide_eq_true_iff]
/-- where something is feasible, no variable is above itself -/
theorem ok_of_feas (hub : Hub n ls) {π : Nat → Int} (hf : Feas ls π) : okM ls n = true := okM_iff.2 fun b hb i hi => by
  have := feas_fw hub hf (b := b) (by omega) i i hi hi
  omega
/-- the distances from a variable are feasible -/
theorem feas_dist (hub : Hub n ls) (hok : okM ls n = true) {u : Nat} (hu : u < n) : Feas ls (fwM ls n u) := fun k hk => by
  have hl := hub.ok k hk
  have t := fw_tri hub (Nat.le_refl n) (okM_iff.1 hok) (ls.getD k lnk0).fr hl.1 u (ls.getD k lnk0).to hu hl.2.1
  have a := links_le hk
  have m := fw_le0 (ls := ls) n (ls.getD k lnk0).fr (ls.getD k lnk0).to
  omega
end
end Go.Proofs.Ytmaiiigijjfjfaa
set_option linter.unusedVariables false
set_option linter.unusedSimpArgs false
namespace Go.Proofs.Ytmaiiigijjfjfaa
open Go
theorem countP_range {p q : Nat → Bool} : ∀ {n : Nat}, (∀ v, v < n → p v = true → q v = true) → (List.range n).countP p ≤ (List.range n).countP q
  | 0, _ => Nat.le_refl _
  | n + 1, h => by
    have ih := countP_range (n := n) fun v hv => h v (by omega)
    have h1 := h n (by omega)
    rw [List.range_succ, List.countP_append, List.countP_append, List.countP_singleton, List.countP_singleton]
    cases e : p n with
    | false => simp only [Bool.false_eq_true, if_false]; omega
    | true => rw [h1 e]; simp only [if_true]; omega
theorem countP_lt {p q : Nat → Bool} : ∀ {n : Nat}, (∀ v, v < n → p v = true → q v = true) → (∃ v, v < n ∧ p v = false ∧ q v = true) → (List.range n).countP p < (List.range n).countP q
  | 0, _, ⟨v, hv, _⟩ => absurd hv (by omega)
  | n + 1, h, ⟨v, hv, h1, h2⟩ => by
    rw [List.range_succ, List.countP_append, List.countP_append, List.countP_singleton, List.countP_singleton]
    by_cases e : v = n
    · subst e
      have ih := countP_range (n := v) fun u hu => h u (by omega)
      rw [h1, h2]
      simp only [Bool.false_eq_true, if_false, if_true]
      omega
    · have ih := countP_lt (n := n) (fun u hu => h u (by omega)) ⟨v, by omega, h1, h2⟩
      have h3 := h n (by omega)
      cases e2 : p n with
      | false => simp only [Bool.false_eq_true, if_false]; omega
      | true => rw [h3 e2]; simp only [if_true]; omega
theorem countP_all {p : Nat → Bool} (n : Nat) : (List.range n).countP p ≤ n := by
  have := List.countP_le_length (p := p) (l := List.range n)
  simpa using this
section
variable {ls : List Lnk} {n : Nat} {d I : Nat → Int}
/-- d is the greatest of the numbers that the links and I allow -/
structure Top (ls : List Lnk) (n : Nat) (d I : Nat → Int) : Prop where
  ok : LnksOk n ls
  pos : 0 < n
  feas : Feas ls d
  le : ∀ v, v < n → d v ≤ I v
  top : ∀ π, Feas ls π → (∀ v, v < n → π v ≤ I v) → ∀ v, v < n → π v ≤ d v
  far : ∀ v, v < n → d v < farI
/-- between both -/
structure Mid (n : Nat) (d I : Nat → Int) (s : St) : Prop where
  len : s.most.length = n
  ge : ∀ v, v < n → d v ≤ s.most.getD v 0
  le : ∀ v, v < n → s.most.getD v 0 ≤ I v
theorem rlx_down {s : St} {i : Nat} {x : Lnk} (v : Nat) (hl : x.to < s.most.length) : (rlx s i x).most.getD v 0 ≤ s.most.getD v 0 := by
  unfold rlx
  split
  · rename_i h
    simp only
    rw [getD_setR hl]
    split
    · rename_i e; subst e; omega
    · exact Int.le_refl _
  · exact Int.le_refl _
theorem rlx_mid {s : St} (hs : Mid n d I s) {i : Nat} {x : Lnk} (h1 : x.fr < n) (h2 : x.to < n) (h3 : d x.to ≤ d x.fr + x.most) : Mid n d I (rlx s i x) := by
  have hl := hs.len
  refine ⟨?_, fun v hv => ?_, fun v hv => Int.le_trans (rlx_down v (by omega)) (hs.le v hv)⟩
  · unfold rlx; split <;> simp [hl]
  · have hg := hs.ge v hv
    unfold rlx
    split
    · have hf := hs.ge x.fr h1
      simp only
      rw [getD_setR (by omega)]
      split
      · rename_i e; subst e; omega
      · exact hg
    · exact hg
theorem relaxN_mid (ht : Top ls n d I) {s : St} (hs : Mid n d I s) : ∀ {k : Nat}, k ≤ ls.length → Mid n d I (relaxN ls s k)
  | 0, _ => hs
  | k + 1, hk => by
    have h := ht.ok k (by omega)
    exact rlx_mid (relaxN_mid ht hs (k := k) (by omega)) h.1 h.2.1 (ht.feas k (by omega))
theorem relaxN_down (ht : Top ls n d I) {s : St} (hs : Mid n d I s) (v : Nat) : ∀ {k : Nat}, k ≤ ls.length → (relaxN ls s k).most.getD v 0 ≤ s.most.getD v 0
  | 0, _ => Int.le_refl _
  | k + 1, hk => by
    have h := ht.ok k (by omega)
    have hm := relaxN_mid ht hs (k := k) (by omega)
    exact Int.le_trans (rlx_down v (by rw [hm.len]; exact h.2.1)) (relaxN_down ht hs v (k := k) (by omega))
/-- what is done stays done -/
theorem relaxN_done (ht : Top ls n d I) {s : St} (hs : Mid n d I s) {v : Nat} (hv : v < n) (h : s.most.getD v 0 = d v) {k : Nat} (hk : k ≤ ls.length) : (relaxN ls s k).most.getD v 0 = d v := by
  have h1 := (relaxN_mid ht hs hk).ge v hv
  have h2 := relaxN_down ht hs v hk
  omega
theorem relaxN_tight (ht : Top ls n d I) {s : St} (hs : Mid n d I s) {j : Nat} (hj : j < ls.length) (hf : s.most.getD (ls.getD j lnk0).fr 0 = d (ls.getD j lnk0).fr) (he : d (ls.getD j lnk0).to = d (ls.getD j lnk0).fr + (ls.getD j lnk0).most) : ∀ {m : Nat}, j + 1 + m ≤ ls.length → (relaxN ls s (j + 1 + m)).most.getD (ls.getD j lnk0).to 0 = d (ls.getD j lnk0).to
  | 0, hm => by
    have hl := ht.ok j hj
    have hm' := relaxN_mid ht hs (k := j) (by omega)
    have h1 := relaxN_done ht hs hl.1 hf (k := j) (by omega)
    have h2 := hm'.ge _ hl.2.1
    have h3 := ht.far _ hl.1
    have h4 := (relaxN_mid ht hs (k := j + 1) (by omega)).ge _ hl.2.1
    have h5 : (relaxN ls s (j + 1)).most.getD (ls.getD j lnk0).to 0 ≤ d (ls.getD j lnk0).to := by
      rw [relaxN, rlx]
      split
      · simp only
        rw [getD_setR (by rw [hm'.len]; exact hl.2.1), if_pos rfl, h1]
        omega
      · rename_i hn
        rw [h1] at hn
        by_cases h6 : d (ls.getD j lnk0).fr + (ls.getD j lnk0).most < (relaxN ls s j).most.getD (ls.getD j lnk0).to 0
        · exact absurd ⟨h3, h6⟩ hn
        · omega
    show (relaxN ls s (j + 1)).most.getD _ 0 = _
    omega
  | m + 1, hm => by
    have hl := ht.ok j hj
    have h1 := relaxN_tight ht hs hj hf he (m := m) (by omega)
    have h2 := (relaxN_mid ht hs (k := j + 1 + (m + 1)) hm).ge _ hl.2.1
    have h3 := ht.ok (j + 1 + m) (by omega)
    have h4 := rlx_down (s := relaxN ls s (j + 1 + m)) (i := j + 1 + m) (x := ls.getD (j + 1 + m) lnk0) (ls.getD j lnk0).to (by rw [(relaxN_mid ht hs (k := j + 1 + m) (by omega)).len]; exact h3.2.1)
    have h5 : (relaxN ls s (j + 1 + (m + 1))).most.getD (ls.getD j lnk0).to 0 ≤ (relaxN ls s (j + 1 + m)).most.getD (ls.getD j lnk0).to 0 := h4
    omega
/-- where not all is done, a link leads on that allows no more -/
theorem leads_on (ht : Top ls n d I) {s : St} (hs : Mid n d I s) {v : Nat} (hv : v < n) (hn : s.most.getD v 0 ≠ d v) : ∃ j, j < ls.length ∧ s.most.getD (ls.getD j lnk0).fr 0 = d (ls.getD j lnk0).fr ∧ s.most.getD (ls.getD j lnk0).to 0 ≠ d (ls.getD j lnk0).to ∧ d (ls.getD j lnk0).to = d (ls.getD j lnk0).fr + (ls.getD j lnk0).most := by
  apply Classical.byContradiction
  intro hc
  have key := ht.top (fun u => if s.most.getD u 0 = d u then d u else d u + 1) (fun j hj => by
    have hf := ht.feas j hj
    have h1 : ¬(s.most.getD (ls.getD j lnk0).fr 0 = d (ls.getD j lnk0).fr ∧ s.most.getD (ls.getD j lnk0).to 0 ≠ d (ls.getD j lnk0).to ∧ d (ls.getD j lnk0).to = d (ls.getD j lnk0).fr + (ls.getD j lnk0).most) := fun h => hc ⟨j, hj, h⟩
    try simp only
    split
    · split <;> omega
    · split
      · by_cases e : d (ls.getD j lnk0).to = d (ls.getD j lnk0).fr + (ls.getD j lnk0).most
        · exact absurd ⟨by assumption, by assumption, e⟩ h1
        · omega
      · omega) (fun u hu => by
    have h1 := hs.ge u hu
    have h2 := hs.le u hu
    have h3 := ht.le u hu
    try simp only
    split <;> omega) v hv
  try simp only at key
  rw [if_neg hn] at key
  omega
def doneN (n : Nat) (d : Nat → Int) (s : St) : Nat := (List.range n).countP fun v => decide (s.most.getD v 0 = d v)
theorem mid_ring {s : St} (hs : Mid n d I s) (r : Int) : Mid n d I ⟨s.most, s.via, r⟩ := ⟨hs.len, hs.ge, hs.le⟩
theorem round_mid (ht : Top ls n d I) {s : St} (hs : Mid n d I s) : Mid n d I (roundS ls s) := relaxN_mid ht (mid_ring hs _) (Nat.le_refl _)
theorem round_more (ht : Top ls n d I) {s : St} (hs : Mid n d I s) {v : Nat} (hv : v < n) (hn : s.most.getD v 0 ≠ d v) : doneN n d s < doneN n d (roundS ls s) := by
  obtain ⟨j, hj, h1, h2, h3⟩ := leads_on ht hs hv hn
  have hs' := mid_ring hs (-1)
  refine countP_lt (fun u hu h => ?_) ⟨(ls.getD j lnk0).to, (ht.ok j hj).2.1, decide_eq_false h2, decide_eq_true ?_⟩
  · exact decide_eq_true (relaxN_done ht hs' hu (of_decide_eq_true h) (Nat.le_refl _))
  · have := relaxN_tight ht hs' hj h1 h3 (m := ls.length - (j + 1)) (by omega)
    rw [show j + 1 + (ls.length - (j + 1)) = ls.length by omega] at this
    exact this
theorem first_done (ht : Top ls n d I) {s : St} (hs : Mid n d I s) (hI : ∀ v, v < n → s.most.getD v 0 = I v) : 0 < doneN n d s := by
  rcases Nat.eq_zero_or_pos (doneN n d s) with h | h
  · exfalso
    have h0 : ∀ v, v < n → s.most.getD v 0 ≠ d v := fun v hv e => by
      have := List.countP_eq_zero.1 h v (List.mem_range.2 hv)
      simp at this
      exact this (by simpa using e)
    obtain ⟨j, hj, h1, _⟩ := leads_on ht hs ht.pos (h0 0 ht.pos)
    exact h0 _ (ht.ok j hj).1 h1
  · exact h
/-- a round in which all is done changes nothing -/
theorem relaxN_same (ht : Top ls n d I) {s : St} (h : ∀ v, v < n → s.most.getD v 0 = d v) : ∀ {k : Nat}, k ≤ ls.length → relaxN ls s k = s
  | 0, _ => rfl
  | k + 1, hk => by
    have hl := ht.ok k (by omega)
    have hf := ht.feas k (by omega)
    rw [relaxN, relaxN_same ht h (k := k) (by omega), rlx, if_neg]
    rw [h _ hl.1, h _ hl.2.1]
    omega
theorem no_relax {s : St} (hr : s.ring < 0) : ∀ {k : Nat}, (relaxN ls s k).ring < 0 → relaxN ls s k = s ∧ ∀ j, j < k → ¬(s.most.getD (ls.getD j lnk0).fr 0 < farI ∧ s.most.getD (ls.getD j lnk0).fr 0 + (ls.getD j lnk0).most < s.most.getD (ls.getD j lnk0).to 0)
  | 0, _ => ⟨rfl, fun j hj => absurd hj (by omega)⟩
  | k + 1, h => by
    rw [relaxN, rlx] at h
    split at h
    · simp only at h; omega
    · rename_i hc
      obtain ⟨h1, h2⟩ := no_relax hr (k := k) h
      rw [h1] at hc
      refine ⟨by rw [relaxN, h1, rlx, if_neg hc], fun j hj => ?_⟩
      by_cases e : j < k
      · exact h2 j e
      · rw [show j = k by omega]; exact hc
theorem ring_done (ht : Top ls n d I) {s : St} (hs : Mid n d I s) (h : (roundS ls s).ring < 0) : ∀ v, v < n → (roundS ls s).most.getD v 0 = d v := fun v hv => by
  obtain ⟨h1, h2⟩ := no_relax (ls := ls) (s := ⟨s.most, s.via, -1⟩) (by simp) (k := ls.length) h
  have e : (roundS ls s).most = s.most := by unfold roundS; rw [h1]
  rw [e]
  apply Classical.byContradiction
  intro hn
  obtain ⟨j, hj, j1, j2, j3⟩ := leads_on ht hs hv hn
  have hl := ht.ok j hj
  have g := hs.ge _ hl.2.1
  refine h2 j hj ⟨?_, ?_⟩
  · simp only; rw [j1]; exact ht.far _ hl.1
  · simp only; omega
theorem rounds_top (ht : Top ls n d I) {s : St} (hs : Mid n d I s) (hI : ∀ v, v < n → s.most.getD v 0 = I v) : ∀ k : Nat, Mid n d I (rounds ls s k) ∧ ((0 < k ∧ (rounds ls s k).ring < 0 ∧ ∀ v, v < n → (rounds ls s k).most.getD v 0 = d v) ∨ ((0 < k → 0 ≤ (rounds ls s k).ring) ∧ k < doneN n d (rounds ls s k)))
  | 0 => ⟨hs, .inr ⟨fun h => absurd h (by omega), first_done ht hs hI⟩⟩
  | k + 1 => by
    obtain ⟨hm, h⟩ := rounds_top ht hs hI k
    rw [rounds]
    split
    · rename_i hst
      refine ⟨hm, ?_⟩
      rcases h with ⟨h1, h2, h3⟩ | ⟨h, _⟩
      · exact .inl ⟨by omega, h2, h3⟩
      · have := h hst.1; omega
    · refine ⟨round_mid ht hm, ?_⟩
      by_cases hr : (roundS ls (rounds ls s k)).ring < 0
      · exact .inl ⟨by omega, hr, ring_done ht hm hr⟩
      · refine .inr ⟨fun _ => by omega, ?_⟩
        by_cases hall : ∀ v, v < n → (rounds ls s k).most.getD v 0 = d v
        · have e : roundS ls (rounds ls s k) = ⟨(rounds ls s k).most, (rounds ls s k).via, -1⟩ := relaxN_same ht (s := ⟨(rounds ls s k).most, (rounds ls s k).via, -1⟩) hall (Nat.le_refl _)
          rw [e] at hr
          simp at hr
        · obtain ⟨v, hv⟩ := Classical.not_forall.1 hall
          obtain ⟨hv1, hv2⟩ := Classical.not_imp.1 hv
          have := round_more ht hm hv1 hv2
          rcases h with ⟨_, _, h3⟩ | ⟨_, h⟩
          · exact absurd (h3 v hv1) hv2
          · omega
/-- after n rounds all is done -/
theorem rounds_done (ht : Top ls n d I) {s : St} (hs : Mid n d I s) (hI : ∀ v, v < n → s.most.getD v 0 = I v) : (rounds ls s n).ring < 0 ∧ ∀ v, v < n → (rounds ls s n).most.getD v 0 = d v := by
  rcases (rounds_top ht hs hI n).2 with ⟨_, h2, h3⟩ | ⟨_, h⟩
  · exact ⟨h2, h3⟩
  · have := countP_all (p := fun v => decide ((rounds ls s n).most.getD v 0 = d v)) n
    unfold doneN at h
    omega
end
end Go.Proofs.Ytmaiiigijjfjfaa
set_option linter.unusedVariables false
set_option linter.unusedSimpArgs false
namespace Go.Proofs.Ytmaiiigijjfjfaa
open Go
theorem mem_at {ls : List Lnk} {x : Lnk} (h : x ∈ ls) : ∃ k, k < ls.length ∧ ls.getD k lnk0 = x := by
  obtain ⟨k, hk, e⟩ := List.getElem_of_mem h
  exact ⟨k, hk, by simp [hk, e]⟩
theorem hub_of {c : Case} (hc : caseB c = true) {l : List Int} (hl : inCourseN c l) : Hub (nOf c) (linksOf c l) := by
  obtain ⟨h1, h2⟩ := links_okN hc hl rfl
  obtain ⟨hev, h8, h20, hck, _⟩ := caseB_ok hc
  have find : ∀ v, 0 < v → v < nOf c → ∃ a b : Lnk, (a ∈ linksOf c l ∧ b ∈ linksOf c l) ∧ (a.fr = 0 ∧ a.to = v ∧ a.most ≤ 1000000) ∧ b.fr = v ∧ b.to = 0 ∧ b.most ≤ 100000 := fun v hv hn => by
    unfold nOf at hn
    by_cases e : v < 1 + c.events.toNat
    · have m : ∀ x ∈ evL (v - 1), x ∈ linksOf c l := fun x hx => by
        unfold linksOf
        rw [List.mem_append, List.mem_append]
        exact .inl (.inl (List.mem_flatMap.2 ⟨v - 1, List.mem_range.2 (by omega), hx⟩))
      exact ⟨⟨0, 1 + (v - 1), 1000000⟩, ⟨1 + (v - 1), 0, 0⟩, ⟨m _ (by simp [evL]), m _ (by simp [evL])⟩, ⟨rfl, by simp only; omega, by simp only; omega⟩, by simp only; omega, rfl, by simp only; omega⟩
    · obtain ⟨k, rfl⟩ : ∃ k, v = 1 + c.events.toNat + k := ⟨v - (1 + c.events.toNat), by omega⟩
      have hb := bdOk_iff.1 (hck k (by omega))
      have m : ∀ x ∈ clL c k, x ∈ linksOf c l := fun x hx => by
        unfold linksOf
        rw [List.mem_append, List.mem_append]
        exact .inl (.inr (List.mem_flatMap.2 ⟨k, List.mem_range.2 (by omega), hx⟩))
      exact ⟨⟨0, 1 + c.events.toNat + k, -(c.clocks.getD k bd0).lo⟩, ⟨1 + c.events.toNat + k, 0, (c.clocks.getD k bd0).hi⟩, ⟨m _ (by simp [clL]), m _ (by simp [clL])⟩, ⟨rfl, rfl, by simp only; omega⟩, rfl, rfl, by simp only; omega⟩
  refine ⟨h1, h2, fun v hv hn => ?_, fun v hv hn => ?_⟩
  · obtain ⟨a, b, ⟨ha, hb⟩, ⟨e1, e2, e3⟩, _⟩ := find v hv hn
    obtain ⟨k, hk, ek⟩ := mem_at ha
    exact ⟨k, hk, by rw [ek]; exact ⟨e1, e2, e3⟩⟩
  · obtain ⟨a, b, ⟨ha, hb⟩, _, e1, e2, e3⟩ := find v hv hn
    obtain ⟨k, hk, ek⟩ := mem_at hb
    exact ⟨k, hk, by rw [ek]; exact ⟨e1, e2, e3⟩⟩
section
variable {ls : List Lnk} {n : Nat}
theorem init_mid {d : Nat → Int} {fr : Int} (h : ∀ v, v < n → d v ≤ initI fr v) : Mid n d (initI fr) ⟨initM n fr, initB n, 0⟩ ∧ ∀ v, v < n → (⟨initM n fr, initB n, 0⟩ : St).most.getD v 0 = initI fr v := by
  have e : ∀ v, v < n → (initM n fr).getD v 0 = initI fr v := fun v hv => by simp [initM, hv]
  exact ⟨⟨initM_len n fr, fun v hv => by simp only; rw [e v hv]; exact h v hv, fun v hv => by simp only; rw [e v hv]; exact Int.le_refl _⟩, fun v hv => by simp only; exact e v hv⟩
/-- the least of the first rows -/
def minD (f : Mat) : Nat → Nat → Int
  | 0, v => f 0 v
  | m + 1, v => min (minD f m v) (f m v)
theorem minD_le (f : Mat) : ∀ {m u : Nat} (v : Nat), u < m → minD f m v ≤ f u v
  | 0, u, v, h => absurd h (by omega)
  | m + 1, u, v, h => by
    rw [minD]
    by_cases e : u = m
    · subst e; omega
    · have := minD_le f (m := m) (u := u) v (by omega)
      omega
theorem minD_at (f : Mat) (v : Nat) : ∀ {m : Nat}, 0 < m → ∃ u, u < m ∧ minD f m v = f u v
  | 0, h => absurd h (by omega)
  | m + 1, _ => by
    rw [minD]
    by_cases e : f m v ≤ minD f m v
    · exact ⟨m, by omega, by omega⟩
    · rcases Nat.eq_zero_or_pos m with h | h
      · subst h
        exact ⟨0, by omega, by rw [minD]; omega⟩
      · obtain ⟨u, hu, e2⟩ := minD_at f v h
        exact ⟨u, by omega, by omega⟩
theorem top_all (hub : Hub n ls) (hok : okM ls n = true) (hn : 0 < n) : Top ls n (minD (fwM ls n) n) (initI (-1)) := by
  refine ⟨hub.ok, hn, fun k hk => ?_, fun v hv => ?_, fun π hf hI v hv => ?_, fun v hv => ?_⟩
  · obtain ⟨u, hu, e⟩ := minD_at (fwM ls n) (ls.getD k lnk0).fr hn
    have a := feas_dist hub hok hu k hk
    have b := minD_le (fwM ls n) (ls.getD k lnk0).to hu
    omega
  · have hd := fw_diag hub hv (okM_iff.1 hok n (by omega))
    have b := minD_le (fwM ls n) v hv
    unfold initI
    rw [if_pos (.inr (by omega))]
    omega
  · obtain ⟨u, hu, e⟩ := minD_at (fwM ls n) v hn
    have a := feas_fw hub hf (Nat.le_refl n) u v hu hv
    have b := hI u hu
    unfold initI at b
    rw [if_pos (.inr (by omega))] at b
    omega
  · have hd := fw_diag hub hv (okM_iff.1 hok n (by omega))
    have b := minD_le (fwM ls n) v hv
    unfold farI
    omega
theorem rounds_last (s : St) : ∀ k : Nat, 0 < k → ∃ j, rounds ls s k = roundS ls (rounds ls s j)
  | 0, h => absurd h (by omega)
  | k + 1, _ => by
    rw [rounds]
    split
    · rename_i h; exact rounds_last s k h.1
    · exact ⟨k, rfl⟩
theorem low_all (hl : LnksOk n ls) {s : St} (hs : s.most.length = n ∧ ∀ v, v < n → s.most.getD v 0 ≤ 0) : ∀ {k : Nat}, k ≤ ls.length → (relaxN ls s k).most.length = n ∧ ∀ v, v < n → (relaxN ls s k).most.getD v 0 ≤ 0
  | 0, _ => hs
  | k + 1, hk => by
    have ih := low_all hl hs (k := k) (by omega)
    have h := hl k (by omega)
    refine ⟨?_, fun v hv => Int.le_trans (rlx_down v (by rw [ih.1]; exact h.2.1)) (ih.2 v hv)⟩
    rw [relaxN, rlx]
    split <;> simp [ih.1]
theorem low_rounds (hl : LnksOk n ls) {s : St} (hs : s.most.length = n ∧ ∀ v, v < n → s.most.getD v 0 ≤ 0) : ∀ k : Nat, (rounds ls s k).most.length = n ∧ ∀ v, v < n → (rounds ls s k).most.getD v 0 ≤ 0
  | 0 => hs
  | k + 1 => by
    have ih := low_rounds hl hs k
    rw [rounds]
    split
    · exact ih
    · exact low_all hl (s := ⟨(rounds ls s k).most, (rounds ls s k).via, -1⟩) ih (Nat.le_refl _)
end
/-- a course is possible for the program just if it is for the reference -/
theorem fits_okC {c : Case} (hc : caseB c = true) {l : List Int} (hl : inCourseN c l) : fitsS c l = okC c l := by
  have hub := hub_of hc hl
  have hn : 0 < nOf c := by unfold nOf; omega
  cases hok : okC c l with
  | true =>
    have ht := top_all hub hok hn
    obtain ⟨h1, h2⟩ := init_mid (n := nOf c) (fr := -1) (d := minD (fwM (linksOf c l) (nOf c)) (nOf c)) ht.le
    exact decide_eq_true (rounds_done ht h1 h2).1
  | false =>
    refine decide_eq_false fun h => ?_
    unfold rch reachS at h
    obtain ⟨j, e⟩ := rounds_last (ls := linksOf c l) ⟨initM (nOf c) (-1), initB (nOf c), 0⟩ (nOf c) hn
    rw [e] at h
    have hz : ∀ v, v < nOf c → (initM (nOf c) (-1)).getD v 0 ≤ 0 := fun v hv => by
      rw [show (initM (nOf c) (-1)).getD v 0 = initI (-1) v by simp [initM, hv], initI, if_pos (.inr (by omega))]
      exact Int.le_refl _
    have low := low_rounds hub.ok (s := ⟨initM (nOf c) (-1), initB (nOf c), 0⟩) ⟨initM_len _ _, hz⟩ j
    obtain ⟨_, h2⟩ := no_relax (ls := linksOf c l) (s := ⟨(rounds (linksOf c l) ⟨initM (nOf c) (-1), initB (nOf c), 0⟩ j).most, (rounds (linksOf c l) ⟨initM (nOf c) (-1), initB (nOf c), 0⟩ j).via, -1⟩) (by simp) (k := (linksOf c l).length) h
    have hf : Feas (linksOf c l) fun v => (rounds (linksOf c l) ⟨initM (nOf c) (-1), initB (nOf c), 0⟩ j).most.getD v 0 := fun k hk => by
      have a := h2 k hk
      have b := low.2 _ (hub.ok k hk).1
      simp only at a
      unfold farI at a
      have : ¬((rounds (linksOf c l) ⟨initM (nOf c) (-1), initB (nOf c), 0⟩ j).most.getD ((linksOf c l).getD k lnk0).fr 0 + ((linksOf c l).getD k lnk0).most < (rounds (linksOf c l) ⟨initM (nOf c) (-1), initB (nOf c), 0⟩ j).most.getD ((linksOf c l).getD k lnk0).to 0) := fun hlt => a ⟨by omega, hlt⟩
      simp only
      omega
    have := ok_of_feas hub hf
    unfold okC at hok
    rw [this] at hok
    cases hok
theorem noOver {c : Case} (hc : caseB c = true) {l : List Int} (hl : inCourseN c l) : NoOver c l := fun b hb hp i k hi hk => by
  have := fw_bd (hub_of hc hl) (b := b) (by omega) hp hi hk
  omega
end Go.Proofs.Ytmaiiigijjfjfaa
set_option linter.unusedVariables false
set_option linter.unusedSimpArgs false
namespace Go.Proofs.Ytmaiiigijjfjfaa
open Go Go.RowKit
theorem equal_same (l : List Int) (v u : Value) (w : World) (B : Nat) (ha : Rd w B 1 v l.length (ints l)) (hb : Rd w B 1 u l.length (ints l)) (hB : B ≤ w.heap.size) (hl : l.length ≤ 1048576) :
    Calls Try.prog 29 #[v, u] w fun e w' => e = .returned (.bool true) ∧ Below w.heap.size w w' := by
  obtain ⟨Ai, ci_, rfl, _⟩ := ha.shape
  obtain ⟨Aj, cj_, rfl, _⟩ := hb.shape
  have hbw := Below.refl w.heap.size w
  refine EC.enter 26 Try.func29 rfl rfl rfl ?_
  refine EC.seq ?_
  refine EC.region ?_
  refine EL.val (x_assign rfl) rfl ?_
  refine EL.nil ?_
  refine EX.seq ?_
  refine EC.seq ?_
  refine EC.seq ?_
  refine EC.region ?_
  refine EL.val (x_move rfl) rfl ?_
  refine EL.val (ln_26 rfl) rfl ?_
  refine EL.val (x_move rfl) rfl ?_
  refine EL.val (ln_26 rfl) rfl ?_
  refine EL.val (x_neq rfl rfl (by first | assumption | exact decide_eq_false (by omega))) rfl ?_
  refine EL.nil ?_
  refine EX.seq ?_
  refine EC.no rfl ?_
  refine EC.skip ?_
  refine EX.seq ?_
  refine EC.seq ?_
  refine EC.seq ?_
  refine EC.region ?_
  refine EL.val (x_assign rfl) rfl ?_
  refine EL.nil ?_
  refine EX.seq ?_
  refine EC.block ?_
  refine EC.loopD [4, 5, 11, 12, 13, 14, 15, 16, 17, 18, 19, 20, 21, 22, 23, 24, 25] (fun x : Nat => [(5, .int .i64 (x : Nat))]) (fun x W => x ≤ l.length ∧ Below w.heap.size w W) (fun x => l.length - x) 0 ⟨Nat.zero_le _, hbw⟩ ⟨rfl, trivial⟩ ?_
  clear hbw
  rintro k wk ⟨hk, hbw⟩
  by_cases hlt : k < l.length
  ·
    obtain ⟨b1, o1, e1_, _, c1⟩ := ints_cells l k hlt w _ _ _ _ ha
    obtain ⟨b2, o2, e2_, _, c2⟩ := ints_cells l k hlt w _ _ _ _ hb
    subst e1_
    subst e2_
    refine EC.seq ?_
    refine EC.seq ?_
    refine EC.region ?_
    refine EL.val (x_move rfl) rfl ?_
    refine EL.val (x_move rfl) rfl ?_
    refine EL.val (ln_26 rfl) rfl ?_
    refine EL.val (x_lss rfl rfl (by first | assumption | exact decide_eq_true (by omega))) rfl ?_
    refine EL.nil ?_
    refine EX.seq ?_
    refine EC.yes rfl ?_
    refine EC.skip ?_
    refine EX.seq ?_
    refine EC.seq ?_
    refine EC.block ?_
    refine EC.seq ?_
    refine EC.regionQ (by kernel_rfl) (by kernel_rfl) ?_
    refine EQ.val (fun _ hw => (x_move rfl)) rfl ?_
    refine EQ.val (fun _ hw => (x_move rfl)) rfl ?_
    refine EQ.val (fun _ hw => (ix_26 rfl rfl hlt)) rfl ?_
    refine EQ.val (fun _ hw => (ld_3 rfl (below_load hw (below_load hbw c1)))) rfl ?_
    refine EQ.val (fun _ hw => (x_move rfl)) rfl ?_
    refine EQ.val (fun _ hw => (x_move rfl)) rfl ?_
    refine EQ.val (fun _ hw => (ix_26 rfl rfl hlt)) rfl ?_
    refine EQ.val (fun _ hw => (ld_3 rfl (below_load hw (below_load hbw c2)))) rfl ?_
    refine EQ.val (fun _ hw => (x_neq rfl rfl (by first | assumption | exact decide_eq_false (by omega)))) rfl ?_
    refine EQ.fin (fun w1 hw_ => ?_)
    replace hbw := Below.on hbw hw_ hbw.size
    clear hw_
    refine EX.seq ?_
    refine EC.no rfl ?_
    refine EC.skip ?_
    refine EX.blk ?_
    refine EX.seq ?_
    refine EC.region ?_
    refine EL.val (x_move rfl) rfl ?_
    refine EL.val (x_add rfl rfl (by first | assumption | exact IntWalk.i64_in _ ⟨by omega, by omega⟩)) rfl ?_
    refine EL.val (x_assign rfl) rfl ?_
    refine EL.nil ?_
    refine EX.roundD (k + 1) ⟨rfl, trivial⟩ (by repeat first | with_reducible exact Sub.refl _ | refine sub_past rfl ?_ | exact Sub.refl _ | refine sub_del rfl ?_ | refine sub_insL_nil ?_) ⟨hlt, hbw⟩ (by omega)
  ·
    obtain rfl : k = l.length := by omega
    refine EC.seq ?_
    refine EC.seq ?_
    refine EC.region ?_
    refine EL.val (x_move rfl) rfl ?_
    refine EL.val (x_move rfl) rfl ?_
    refine EL.val (ln_26 rfl) rfl ?_
    refine EL.val (x_lss rfl rfl (by first | assumption | exact decide_eq_false (by omega))) rfl ?_
    refine EL.nil ?_
    refine EX.seq ?_
    refine EC.no rfl ?_
    refine EC.exit ?_
    refine EX.seq_exit ?_
    refine EX.seq_exit ?_
    refine EX.blk_here ?_
    refine EX.seq ?_
    refine EC.seq ?_
    refine EC.region ?_
    refine EL.val (x_assign rfl) rfl ?_
    refine EL.nil ?_
    refine EX.seq ?_
    refine EC.ret ?_
    exact EX.done (res1 rfl rfl) ⟨rfl, hbw⟩
/-- what is known of a case that is not large -/
structure Small (c : Case) : Prop where
  clues : c.clues.length ≤ 25
  clocks : c.clocks.length ≤ 12
  opts : ∀ j, j < c.clues.length → (c.clues.getD j []).length ≤ 5
theorem large_any (c : Case) (vc vl : Value) (vs : List Value) (w : World) (B : Nat) (hr : RdCase w B vc vl c vs) (hB : B ≤ w.heap.size) (hn1 : c.clocks.length ≤ 9223372036854775807) (hn2 : c.clues.length ≤ 9223372036854775807) :
    Calls Try.prog 11 #[.agg #[.int .i64 c.events, vc, vl]] w fun e w' => (∃ b, e = .returned (.bool b) ∧ (b = false → Small c)) ∧ Below w.heap.size w w' := by
  obtain ⟨Ac, cc_, rfl, _⟩ := hr.clocks.shape
  obtain ⟨Al, cl_, rfl, _⟩ := hr.clues.rd.shape
  have hbw := Below.refl w.heap.size w
  refine EC.enter 29 Try.func11 rfl rfl rfl ?_
  refine EC.seq ?_
  refine EC.region ?_
  refine EL.newP (bx_25 rfl) rfl ?_
  intro g1 w1 q1 hb1 hg1 hl1
  have bhbw_1 := Nat.le_trans hbw.size hg1
  replace hbw := Below.on hbw hb1 hbw.size
  clear hb1 hg1 hl1
  refine EL.val (x_assign rfl) rfl ?_
  refine EL.nil ?_
  refine EX.seq ?_
  refine EC.seq ?_
  refine EC.seq ?_
  refine EC.region ?_
  refine EL.val (x_assign rfl) rfl ?_
  refine EL.nil ?_
  refine EX.seq ?_
  refine EC.block ?_
  refine EC.loopD [2, 3, 4, 5, 6, 7, 8, 9, 10, 11, 12, 13, 14, 15, 16, 17, 18] (fun x : Nat => [(3, .int .i64 (x : Nat))]) (fun x W => x ≤ c.clues.length ∧ (∀ j, j < x → (c.clues.getD j []).length ≤ 5) ∧ Blk W g1 25 #[.int .i64 c.events, .slice Ac c.clocks.length cc_, .slice Al c.clues.length cl_] ∧ Below w.heap.size w W) (fun x => c.clues.length - x) 0 ⟨Nat.zero_le _, fun j hj => absurd hj (by omega), q1, hbw⟩ ⟨rfl, trivial⟩ ?_
  clear q1 hbw
  rintro k wk ⟨hk, hall, q1, hbw⟩
  by_cases hlt : k < c.clues.length
  ·
    obtain ⟨bl, ol, e_, _, hcell⟩ := rdll_cell hr.clues k hlt
    subst e_
    obtain ⟨Ao, co, eo, _⟩ := (hr.clues.row k hlt).shape
    rw [eo] at hcell
    refine EC.seq ?_
    refine EC.seq ?_
    refine EC.region ?_
    refine EL.val (x_move rfl) rfl ?_
    refine EL.val (fa_25_2 rfl) rfl ?_
    refine EL.val (ld_23 rfl (q1.at (j := 2) rfl)) rfl ?_
    refine EL.val (ln_23 rfl) rfl ?_
    refine EL.val (x_lss rfl rfl (by first | assumption | exact decide_eq_true (by omega))) rfl ?_
    refine EL.nil ?_
    refine EX.seq ?_
    refine EC.yes rfl ?_
    refine EC.skip ?_
    refine EX.seq ?_
    refine EC.seq ?_
    refine EC.block ?_
    refine EC.seq ?_
    refine EC.region ?_
    refine EL.val (fa_25_2 rfl) rfl ?_
    refine EL.val (ld_23 rfl (q1.at (j := 2) rfl)) rfl ?_
    refine EL.val (x_move rfl) rfl ?_
    refine EL.val (ix_23 rfl rfl hlt) rfl ?_
    refine EL.val (fa_74_0 rfl) rfl ?_
    refine EL.val (ld_72 rfl (below_load hbw hcell)) rfl ?_
    refine EL.val (ln_72 rfl) rfl ?_
    by_cases h5 : 5 < (c.clues.getD k []).length
    ·
      refine EL.val (x_gtr rfl rfl (by first | assumption | exact decide_eq_true (by omega))) rfl ?_
      refine EL.nil ?_
      refine EX.seq ?_
      refine EC.yes rfl ?_
      refine EC.seq ?_
      refine EC.region ?_
      refine EL.val (x_assign rfl) rfl ?_
      refine EL.nil ?_
      refine EX.seq ?_
      refine EC.ret ?_
      refine EX.blk_ret ?_
      refine EX.seq_ret ?_
      refine EX.seq_ret ?_
      refine EX.blk_ret ?_
      refine EX.seq_ret ?_
      exact EX.done (res1 rfl rfl) ⟨⟨_, rfl, fun h => by cases h⟩, hbw⟩
    ·
      refine EL.val (x_gtr rfl rfl (by first | assumption | exact decide_eq_false (by omega))) rfl ?_
      refine EL.nil ?_
      refine EX.seq ?_
      refine EC.no rfl ?_
      refine EC.skip ?_
      refine EX.blk ?_
      refine EX.seq ?_
      refine EC.region ?_
      refine EL.val (x_move rfl) rfl ?_
      refine EL.val (x_add rfl rfl (by first | assumption | exact IntWalk.i64_in _ ⟨by omega, by omega⟩)) rfl ?_
      refine EL.val (x_assign rfl) rfl ?_
      refine EL.nil ?_
      refine EX.roundD (k + 1) ⟨rfl, trivial⟩ (by repeat first | with_reducible exact Sub.refl _ | refine sub_past rfl ?_ | exact Sub.refl _ | refine sub_del rfl ?_ | refine sub_insL_nil ?_) ⟨hlt, fun j hj => by by_cases e : j < k; (exact hall j e); (rw [show j = k by omega]; omega), q1, hbw⟩ (by omega)
  ·
    obtain rfl : k = c.clues.length := by omega
    refine EC.seq ?_
    refine EC.seq ?_
    refine EC.region ?_
    refine EL.val (x_move rfl) rfl ?_
    refine EL.val (fa_25_2 rfl) rfl ?_
    refine EL.val (ld_23 rfl (q1.at (j := 2) rfl)) rfl ?_
    refine EL.val (ln_23 rfl) rfl ?_
    refine EL.val (x_lss rfl rfl (by first | assumption | exact decide_eq_false (by omega))) rfl ?_
    refine EL.nil ?_
    refine EX.seq ?_
    refine EC.no rfl ?_
    refine EC.exit ?_
    refine EX.seq_exit ?_
    refine EX.seq_exit ?_
    refine EX.blk_here ?_
    refine EX.seq ?_
    refine EC.seq ?_
    refine EC.region ?_
    refine EL.val (fa_25_2 rfl) rfl ?_
    refine EL.val (ld_23 rfl (q1.at (j := 2) rfl)) rfl ?_
    refine EL.val (ln_23 rfl) rfl ?_
    by_cases h1 : 25 < c.clues.length
    ·
      refine EL.val (x_gtr rfl rfl (by first | assumption | exact decide_eq_true (by omega))) rfl ?_
      refine EL.val (x_move rfl) rfl ?_
      refine EL.skip rfl rfl rfl rfl ?_
      refine EL.skip rfl rfl rfl rfl ?_
      refine EL.skip rfl rfl rfl rfl ?_
      refine EL.skip rfl rfl rfl rfl ?_
      refine EL.val (x_pick_t rfl rfl) rfl ?_
      refine EL.val (x_assign rfl) rfl ?_
      refine EL.nil ?_
      refine EX.seq ?_
      refine EC.ret ?_
      exact EX.done (res1 rfl rfl) ⟨⟨_, rfl, fun h => by first | (cases h; done) | exact ⟨by omega, by omega, hall⟩⟩, hbw⟩
    ·
      refine EL.val (x_gtr rfl rfl (by first | assumption | exact decide_eq_false (by omega))) rfl ?_
      refine EL.val (x_move rfl) rfl ?_
      refine EL.valg rfl rfl (fa_25_1 rfl) rfl ?_
      refine EL.valg rfl rfl (ld_22 rfl (q1.at (j := 1) rfl)) rfl ?_
      refine EL.valg rfl rfl (ln_22 rfl) rfl ?_
      by_cases h2 : 12 < c.clocks.length
      ·
        refine EL.valg rfl rfl (x_gtr rfl rfl (by first | assumption | exact decide_eq_true (by omega))) rfl ?_
        refine EL.val (x_pick_f rfl rfl) rfl ?_
        refine EL.val (x_assign rfl) rfl ?_
        refine EL.nil ?_
        refine EX.seq ?_
        refine EC.ret ?_
        exact EX.done (res1 rfl rfl) ⟨⟨_, rfl, fun h => by first | (cases h; done) | exact ⟨by omega, by omega, hall⟩⟩, hbw⟩
      ·
        refine EL.valg rfl rfl (x_gtr rfl rfl (by first | assumption | exact decide_eq_false (by omega))) rfl ?_
        refine EL.val (x_pick_f rfl rfl) rfl ?_
        refine EL.val (x_assign rfl) rfl ?_
        refine EL.nil ?_
        refine EX.seq ?_
        refine EC.ret ?_
        exact EX.done (res1 rfl rfl) ⟨⟨_, rfl, fun h => by first | (cases h; done) | exact ⟨by omega, by omega, hall⟩⟩, hbw⟩
end Go.Proofs.Ytmaiiigijjfjfaa
set_option linter.unusedVariables false
set_option linter.unusedSimpArgs false
namespace Go.Proofs.Ytmaiiigijjfjfaa
open Go Go.RowKit
section
variable {n : Nat} {σ : Sg} {w : World} {dst : Option Tmp} {ty : TypeId} {pos : String} {af : Array Edge} {g : Option (Nat × Bool)} {x y z : Operand} {at' : Array TypeId}
theorem neq_54 {a0 a1 b0 b1 : Int} {r : Bool} (hx : evS σ x = some (.agg #[.int .i64 a0, .int .i64 a1])) (hy : evS σ y = some (.agg #[.int .i64 b0, .int .i64 b1])) (hc : decide (¬ (a0 = b0 ∧ a1 = b1)) = r) : Gives Try.prog n σ w ⟨dst, .binOp .neq 54 x y 54, ty, pos, af, g⟩ (.bool r) := fun a ha => by
  subst hc
  simp only [execOp, ha.eval hx, ha.eval hy]
  go_simp
  repeat' split
  all_goals simp_all
theorem neq_71 {a0 a1 a2 a3 a4 a5 b0 b1 b2 b3 b4 b5 : Int} {r : Bool} (hx : evS σ x = some (.agg #[.int .i64 a0, .int .i64 a1, .int .i64 a2, .int .i64 a3, .int .i64 a4, .int .i64 a5])) (hy : evS σ y = some (.agg #[.int .i64 b0, .int .i64 b1, .int .i64 b2, .int .i64 b3, .int .i64 b4, .int .i64 b5])) (hc : decide (¬ (a0 = b0 ∧ a1 = b1 ∧ a2 = b2 ∧ a3 = b3 ∧ a4 = b4 ∧ a5 = b5)) = r) : Gives Try.prog n σ w ⟨dst, .binOp .neq 71 x y 71, ty, pos, af, g⟩ (.bool r) := fun a ha => by
  subst hc
  simp only [execOp, ha.eval hx, ha.eval hy]
  go_simp
  repeat' split
  all_goals simp_all
end
end Go.Proofs.Ytmaiiigijjfjfaa
set_option linter.unusedVariables false
set_option linter.unusedSimpArgs false
namespace Go.Proofs.Ytmaiiigijjfjfaa
open Go Go.RowKit
set_option maxHeartbeats 2000000 in
set_option maxRecDepth 100000 in
theorem unchanged_same (c : Case) (hsm : Small c) (va vb vc vd : Value) (vs ws : List Value) (w : World) (B : Nat) (hr : RdCase w B va vb c vs) (hr2 : RdCase w B vc vd c ws) :
    Calls Try.prog 22 #[.agg #[.int .i64 c.events, va, vb], .agg #[.int .i64 c.events, vc, vd]] w fun e w' => e = .returned (.bool true) ∧ Below w.heap.size w w' := by
  obtain ⟨Ac, cc_, rfl, _⟩ := hr.clocks.shape
  obtain ⟨Al, cl_, rfl, _⟩ := hr.clues.rd.shape
  obtain ⟨Ad, cd_, rfl, _⟩ := hr2.clocks.shape
  obtain ⟨Am, cm_, rfl, _⟩ := hr2.clues.rd.shape
  have hs1 := hsm.clues
  have hs2 := hsm.clocks
  have hbw := Below.refl w.heap.size w
  refine EC.enter 101 Try.func22 rfl rfl rfl ?_
  refine EC.seq ?_
  refine EC.region ?_
  refine EL.newP (bx_25 rfl) rfl ?_
  intro g1 w1 q1 hb1 hg1 hl1
  have bhbw_1 := Nat.le_trans hbw.size hg1
  replace hbw := Below.on hbw hb1 hbw.size
  clear hb1 hg1 hl1
  refine EL.newP (bx_25 rfl) rfl ?_
  intro g2 w2 q2 hb2 hg2 hl2
  have n1_2 : g1 ≠ g2 := Nat.ne_of_lt (Nat.lt_of_lt_of_le q1.lt hg2)
  have bhbw_2 := Nat.le_trans hbw.size hg2
  replace q1 := q1.below hb2 q1.lt
  replace hbw := Below.on hbw hb2 hbw.size
  clear hb2 hg2 hl2
  refine EL.val (x_assign rfl) rfl ?_
  refine EL.nil ?_
  refine EX.seq ?_
  refine EC.seq ?_
  refine EC.seq ?_
  refine EC.region ?_
  refine EL.val (fa_25_0 rfl) rfl ?_
  refine EL.val (ld_3 rfl (q1.at (j := 0) rfl)) rfl ?_
  refine EL.val (fa_25_0 rfl) rfl ?_
  refine EL.val (ld_3 rfl (q2.at (j := 0) rfl)) rfl ?_
  refine EL.val (x_neq rfl rfl (by first | assumption | exact decide_eq_false (by omega))) rfl ?_
  refine EL.val (x_move rfl) rfl ?_
  refine EL.valg rfl rfl (fa_25_1 rfl) rfl ?_
  refine EL.valg rfl rfl (ld_22 rfl (q1.at (j := 1) rfl)) rfl ?_
  refine EL.valg rfl rfl (ln_22 rfl) rfl ?_
  refine EL.valg rfl rfl (fa_25_1 rfl) rfl ?_
  refine EL.valg rfl rfl (ld_22 rfl (q2.at (j := 1) rfl)) rfl ?_
  refine EL.valg rfl rfl (ln_22 rfl) rfl ?_
  refine EL.valg rfl rfl (x_neq rfl rfl (by first | assumption | exact decide_eq_false (by omega))) rfl ?_
  refine EL.val (x_pick_f rfl rfl) rfl ?_
  refine EL.val (x_move rfl) rfl ?_
  refine EL.valg rfl rfl (fa_25_2 rfl) rfl ?_
  refine EL.valg rfl rfl (ld_23 rfl (q1.at (j := 2) rfl)) rfl ?_
  refine EL.valg rfl rfl (ln_23 rfl) rfl ?_
  refine EL.valg rfl rfl (fa_25_2 rfl) rfl ?_
  refine EL.valg rfl rfl (ld_23 rfl (q2.at (j := 2) rfl)) rfl ?_
  refine EL.valg rfl rfl (ln_23 rfl) rfl ?_
  refine EL.valg rfl rfl (x_neq rfl rfl (by first | assumption | exact decide_eq_false (by omega))) rfl ?_
  refine EL.val (x_pick_f rfl rfl) rfl ?_
  refine EL.nil ?_
  refine EX.seq ?_
  refine EC.no rfl ?_
  refine EC.skip ?_
  refine EX.seq ?_
  refine EC.seq ?_
  refine EC.seq ?_
  refine EC.region ?_
  refine EL.val (x_assign rfl) rfl ?_
  refine EL.nil ?_
  refine EX.seq ?_
  refine EC.block ?_
  refine EC.loopD [4, 5, 31, 32, 33, 34, 35, 36, 37, 38, 39, 40, 41, 42, 43, 44, 45, 46, 47, 48] (fun x : Nat => [(5, .int .i64 (x : Nat))]) (fun x W => x ≤ c.clocks.length ∧ Blk W g1 25 #[.int .i64 c.events, .slice Ac c.clocks.length cc_, .slice Al c.clues.length cl_] ∧ Blk W g2 25 #[.int .i64 c.events, .slice Ad c.clocks.length cd_, .slice Am c.clues.length cm_] ∧ Below w.heap.size w W) (fun x => c.clocks.length - x) 0 ⟨Nat.zero_le _, q1, q2, hbw⟩ ⟨rfl, trivial⟩ ?_
  clear q1 q2 hbw
  rintro k wk ⟨hk, q1, q2, hbw⟩
  by_cases hlt : k < c.clocks.length
  ·
    obtain ⟨b1, o1, e1_, _, x0, x1⟩ := bds_cells c.clocks k hlt w _ _ _ _ hr.clocks
    obtain ⟨b2, o2, e2_, _, y0, y1⟩ := bds_cells c.clocks k hlt w _ _ _ _ hr2.clocks
    subst e1_
    subst e2_
    refine EC.seq ?_
    refine EC.seq ?_
    refine EC.region ?_
    refine EL.val (x_move rfl) rfl ?_
    refine EL.val (fa_25_1 rfl) rfl ?_
    refine EL.val (ld_22 rfl (q1.at (j := 1) rfl)) rfl ?_
    refine EL.val (ln_22 rfl) rfl ?_
    refine EL.val (x_lss rfl rfl (by first | assumption | exact decide_eq_true (by omega))) rfl ?_
    refine EL.nil ?_
    refine EX.seq ?_
    refine EC.yes rfl ?_
    refine EC.skip ?_
    refine EX.seq ?_
    refine EC.seq ?_
    refine EC.block ?_
    refine EC.seq ?_
    refine EC.regionQ (by kernel_rfl) (by kernel_rfl) ?_
    refine EQ.val (fun _ hw => (fa_25_1 rfl)) rfl ?_
    refine EQ.val (fun _ hw => (ld_22 rfl (below_load hw (q1.at (j := 1) rfl)))) rfl ?_
    refine EQ.val (fun _ hw => (x_move rfl)) rfl ?_
    refine EQ.val (fun _ hw => (ix_22 rfl rfl hlt)) rfl ?_
    refine EQ.val (fun _ hw => (ld_54 rfl (below_load hw (below_load hbw x0)) (below_load hw (below_load hbw x1)))) rfl ?_
    refine EQ.val (fun _ hw => (fa_25_1 rfl)) rfl ?_
    refine EQ.val (fun _ hw => (ld_22 rfl (below_load hw (q2.at (j := 1) rfl)))) rfl ?_
    refine EQ.val (fun _ hw => (x_move rfl)) rfl ?_
    refine EQ.val (fun _ hw => (ix_22 rfl rfl hlt)) rfl ?_
    refine EQ.val (fun _ hw => (ld_54 rfl (below_load hw (below_load hbw y0)) (below_load hw (below_load hbw y1)))) rfl ?_
    refine EQ.val (fun _ hw => (neq_54 (r := false) rfl rfl (by simp))) rfl ?_
    refine EQ.fin (fun w3 hw_ => ?_)
    replace q1 := q1.below hw_ q1.lt
    replace q2 := q2.below hw_ q2.lt
    replace hbw := Below.on hbw hw_ hbw.size
    clear hw_
    refine EX.seq ?_
    refine EC.no rfl ?_
    refine EC.skip ?_
    refine EX.blk ?_
    refine EX.seq ?_
    refine EC.region ?_
    refine EL.val (x_move rfl) rfl ?_
    refine EL.val (x_add rfl rfl (by first | assumption | exact IntWalk.i64_in _ ⟨by omega, by omega⟩)) rfl ?_
    refine EL.val (x_assign rfl) rfl ?_
    refine EL.nil ?_
    refine EX.roundD (k + 1) ⟨rfl, trivial⟩ (by repeat first | with_reducible exact Sub.refl _ | refine sub_past rfl ?_ | exact Sub.refl _ | refine sub_del rfl ?_ | refine sub_insL_nil ?_) ⟨hlt, q1, q2, hbw⟩ (by omega)
  ·
    skip
    refine EC.seq ?_
    refine EC.seq ?_
    refine EC.region ?_
    refine EL.val (x_move rfl) rfl ?_
    refine EL.val (fa_25_1 rfl) rfl ?_
    refine EL.val (ld_22 rfl (q1.at (j := 1) rfl)) rfl ?_
    refine EL.val (ln_22 rfl) rfl ?_
    refine EL.val (x_lss rfl rfl (by first | assumption | exact decide_eq_false (by omega))) rfl ?_
    refine EL.nil ?_
    refine EX.seq ?_
    refine EC.no rfl ?_
    refine EC.exit ?_
    refine EX.seq_exit ?_
    refine EX.seq_exit ?_
    refine EX.blk_here ?_
    refine EX.seq ?_
    refine EC.seq ?_
    refine EC.seq ?_
    refine EC.region ?_
    refine EL.val (x_assign rfl) rfl ?_
    refine EL.nil ?_
    refine EX.seq ?_
    refine EC.block ?_
    refine EC.loopD [4, 6, 7, 49, 50, 51, 52, 53, 54, 55, 56, 57, 58, 59, 60, 61, 62, 63, 64, 65, 66, 67, 68, 69, 70, 71, 72, 73, 74, 75, 76, 77, 78, 79, 80, 81, 82, 83, 84, 85, 86, 87, 88, 89, 90, 91, 92, 93, 94, 95, 96, 97, 98, 99, 100] (fun x : Nat => [(6, .int .i64 (x : Nat))]) (fun x W => x ≤ c.clues.length ∧ Blk W g1 25 #[.int .i64 c.events, .slice Ac c.clocks.length cc_, .slice Al c.clues.length cl_] ∧ Blk W g2 25 #[.int .i64 c.events, .slice Ad c.clocks.length cd_, .slice Am c.clues.length cm_] ∧ Below w.heap.size w W) (fun x => c.clues.length - x) 0 ⟨Nat.zero_le _, q1, q2, hbw⟩ ⟨rfl, trivial⟩ ?_
    clear q1 q2 hbw
    rintro i wi ⟨hi, q1, q2, hbw⟩
    by_cases hli : i < c.clues.length
    ·
      obtain ⟨b1, o1, e1_, _, p1⟩ := rdll_cell hr.clues i hli
      obtain ⟨b2, o2, e2_, _, p2⟩ := rdll_cell hr2.clues i hli
      subst e1_
      subst e2_
      have r1 := hr.clues.row i hli
      have r2 := hr2.clues.row i hli
      obtain ⟨A1, c1, f1, _⟩ := r1.shape
      obtain ⟨A2, c2, f2, _⟩ := r2.shape
      rw [f1] at p1 r1
      rw [f2] at p2 r2
      have hlo5 := hsm.opts i hli
      obtain ⟨x, ex⟩ : ∃ z, z = c.clues.getD i [] := ⟨_, rfl⟩
      rw [← ex] at r1 r2 p1 p2 hlo5
      refine EC.seq ?_
      refine EC.seq ?_
      refine EC.region ?_
      refine EL.val (x_move rfl) rfl ?_
      refine EL.val (fa_25_2 rfl) rfl ?_
      refine EL.val (ld_23 rfl (q1.at (j := 2) rfl)) rfl ?_
      refine EL.val (ln_23 rfl) rfl ?_
      refine EL.val (x_lss rfl rfl (by first | assumption | exact decide_eq_true (by omega))) rfl ?_
      refine EL.nil ?_
      refine EX.seq ?_
      refine EC.yes rfl ?_
      refine EC.skip ?_
      refine EX.seq ?_
      refine EC.seq ?_
      refine EC.block ?_
      refine EC.seq ?_
      refine EC.seq ?_
      refine EC.regionQ (by kernel_rfl) (by kernel_rfl) ?_
      refine EQ.val (fun _ hw => (fa_25_2 rfl)) rfl ?_
      refine EQ.val (fun _ hw => (ld_23 rfl (below_load hw (q1.at (j := 2) rfl)))) rfl ?_
      refine EQ.val (fun _ hw => (x_move rfl)) rfl ?_
      refine EQ.val (fun _ hw => (ix_23 rfl rfl hli)) rfl ?_
      refine EQ.val (fun _ hw => (fa_74_0 rfl)) rfl ?_
      refine EQ.val (fun _ hw => (ld_72 rfl (below_load hw (below_load hbw p1)))) rfl ?_
      refine EQ.val (fun _ hw => (ln_72 rfl)) rfl ?_
      refine EQ.val (fun _ hw => (fa_25_2 rfl)) rfl ?_
      refine EQ.val (fun _ hw => (ld_23 rfl (below_load hw (q2.at (j := 2) rfl)))) rfl ?_
      refine EQ.val (fun _ hw => (x_move rfl)) rfl ?_
      refine EQ.val (fun _ hw => (ix_23 rfl rfl hli)) rfl ?_
      refine EQ.val (fun _ hw => (fa_74_0 rfl)) rfl ?_
      refine EQ.val (fun _ hw => (ld_72 rfl (below_load hw (below_load hbw p2)))) rfl ?_
      refine EQ.val (fun _ hw => (ln_72 rfl)) rfl ?_
      refine EQ.val (fun _ hw => (x_neq rfl rfl (by first | assumption | exact decide_eq_false (by omega)))) rfl ?_
      refine EQ.fin (fun w4 hw_ => ?_)
      replace q1 := q1.below hw_ q1.lt
      replace q2 := q2.below hw_ q2.lt
      replace hbw := Below.on hbw hw_ hbw.size
      clear hw_
      refine EX.seq ?_
      refine EC.no rfl ?_
      refine EC.skip ?_
      refine EX.seq ?_
      refine EC.seq ?_
      refine EC.region ?_
      refine EL.val (x_assign rfl) rfl ?_
      refine EL.nil ?_
      refine EX.seq ?_
      refine EC.block ?_
      refine EC.loopD [4, 7, 71, 72, 73, 74, 75, 76, 77, 78, 79, 80, 81, 82, 83, 84, 85, 86, 87, 88, 89, 90, 91, 92, 93, 94, 95, 96, 97, 98, 99, 100] (fun x : Nat => [(7, .int .i64 (x : Nat))]) (fun y W => y ≤ x.length ∧ Blk W g1 25 #[.int .i64 c.events, .slice Ac c.clocks.length cc_, .slice (some ⟨b1, o1, none⟩) c.clues.length cl_] ∧ Blk W g2 25 #[.int .i64 c.events, .slice Ad c.clocks.length cd_, .slice (some ⟨b2, o2, none⟩) c.clues.length cm_] ∧ Below w.heap.size w W) (fun y => x.length - y) 0 ⟨Nat.zero_le _, q1, q2, hbw⟩ ⟨rfl, trivial⟩ ?_
      clear q1 q2 hbw
      rintro j wj ⟨hj, q1, q2, hbw⟩
      by_cases hlo : j < x.length
      ·
        obtain ⟨g1, h1, k1_, _, oc⟩ := opts_cells x j hlo w _ _ _ _ r1
        obtain ⟨g2, h2, k2_, _, od⟩ := opts_cells x j hlo w _ _ _ _ r2
        subst k1_
        subst k2_
        refine EC.seq ?_
        refine EC.seq ?_
        refine EC.region ?_
        refine EL.val (x_move rfl) rfl ?_
        refine EL.val (fa_25_2 rfl) rfl ?_
        refine EL.val (ld_23 rfl (q1.at (j := 2) rfl)) rfl ?_
        refine EL.val (x_move rfl) rfl ?_
        refine EL.val (ix_23 rfl rfl hli) rfl ?_
        refine EL.val (fa_74_0 rfl) rfl ?_
        refine EL.val (ld_72 rfl (below_load hbw p1)) rfl ?_
        refine EL.val (ln_72 rfl) rfl ?_
        refine EL.val (x_lss rfl rfl (by first | assumption | exact decide_eq_true (by omega))) rfl ?_
        refine EL.nil ?_
        refine EX.seq ?_
        refine EC.yes rfl ?_
        refine EC.skip ?_
        refine EX.seq ?_
        refine EC.seq ?_
        refine EC.block ?_
        refine EC.seq ?_
        refine EC.regionQ (by kernel_rfl) (by kernel_rfl) ?_
        refine EQ.val (fun _ hw => (fa_25_2 rfl)) rfl ?_
        refine EQ.val (fun _ hw => (ld_23 rfl (below_load hw (q1.at (j := 2) rfl)))) rfl ?_
        refine EQ.val (fun _ hw => (x_move rfl)) rfl ?_
        refine EQ.val (fun _ hw => (ix_23 rfl rfl hli)) rfl ?_
        refine EQ.val (fun _ hw => (fa_74_0 rfl)) rfl ?_
        refine EQ.val (fun _ hw => (ld_72 rfl (below_load hw (below_load hbw p1)))) rfl ?_
        refine EQ.val (fun _ hw => (x_move rfl)) rfl ?_
        refine EQ.val (fun _ hw => (ix_72 rfl rfl hlo)) rfl ?_
        refine EQ.val (fun _ hw => (ld_71 rfl (below_load hw (below_load hbw oc.c0)) (below_load hw (below_load hbw oc.c1)) (below_load hw (below_load hbw oc.c2)) (below_load hw (below_load hbw oc.c3)) (below_load hw (below_load hbw oc.c4)) (below_load hw (below_load hbw oc.c5)))) rfl ?_
        refine EQ.val (fun _ hw => (fa_25_2 rfl)) rfl ?_
        refine EQ.val (fun _ hw => (ld_23 rfl (below_load hw (q2.at (j := 2) rfl)))) rfl ?_
        refine EQ.val (fun _ hw => (x_move rfl)) rfl ?_
        refine EQ.val (fun _ hw => (ix_23 rfl rfl hli)) rfl ?_
        refine EQ.val (fun _ hw => (fa_74_0 rfl)) rfl ?_
        refine EQ.val (fun _ hw => (ld_72 rfl (below_load hw (below_load hbw p2)))) rfl ?_
        refine EQ.val (fun _ hw => (x_move rfl)) rfl ?_
        refine EQ.val (fun _ hw => (ix_72 rfl rfl hlo)) rfl ?_
        refine EQ.val (fun _ hw => (ld_71 rfl (below_load hw (below_load hbw od.c0)) (below_load hw (below_load hbw od.c1)) (below_load hw (below_load hbw od.c2)) (below_load hw (below_load hbw od.c3)) (below_load hw (below_load hbw od.c4)) (below_load hw (below_load hbw od.c5)))) rfl ?_
        refine EQ.val (fun _ hw => (neq_71 (r := false) rfl rfl (by simp))) rfl ?_
        refine EQ.fin (fun w5 hw_ => ?_)
        replace q1 := q1.below hw_ q1.lt
        replace q2 := q2.below hw_ q2.lt
        replace hbw := Below.on hbw hw_ hbw.size
        clear hw_
        refine EX.seq ?_
        refine EC.no rfl ?_
        refine EC.skip ?_
        refine EX.blk ?_
        refine EX.seq ?_
        refine EC.region ?_
        refine EL.val (x_move rfl) rfl ?_
        refine EL.val (x_add rfl rfl (by first | assumption | exact IntWalk.i64_in _ ⟨by omega, by omega⟩)) rfl ?_
        refine EL.val (x_assign rfl) rfl ?_
        refine EL.nil ?_
        refine EX.roundD (j + 1) ⟨rfl, trivial⟩ (by repeat first | with_reducible exact Sub.refl _ | refine sub_past rfl ?_ | exact Sub.refl _ | refine sub_del rfl ?_ | refine sub_insL_nil ?_) ⟨hlo, q1, q2, hbw⟩ (by omega)
      ·
        refine EC.seq ?_
        refine EC.seq ?_
        refine EC.region ?_
        refine EL.val (x_move rfl) rfl ?_
        refine EL.val (fa_25_2 rfl) rfl ?_
        refine EL.val (ld_23 rfl (q1.at (j := 2) rfl)) rfl ?_
        refine EL.val (x_move rfl) rfl ?_
        refine EL.val (ix_23 rfl rfl hli) rfl ?_
        refine EL.val (fa_74_0 rfl) rfl ?_
        refine EL.val (ld_72 rfl (below_load hbw p1)) rfl ?_
        refine EL.val (ln_72 rfl) rfl ?_
        refine EL.val (x_lss rfl rfl (by first | assumption | exact decide_eq_false (by omega))) rfl ?_
        refine EL.nil ?_
        refine EX.seq ?_
        refine EC.no rfl ?_
        refine EC.exit ?_
        refine EX.seq_exit ?_
        refine EX.seq_exit ?_
        refine EX.blk_here ?_
        refine EX.blk ?_
        refine EX.seq ?_
        refine EC.region ?_
        refine EL.val (x_move rfl) rfl ?_
        refine EL.val (x_add rfl rfl (by first | assumption | exact IntWalk.i64_in _ ⟨by omega, by omega⟩)) rfl ?_
        refine EL.val (x_assign rfl) rfl ?_
        refine EL.nil ?_
        refine EX.roundD (i + 1) ⟨rfl, trivial⟩ (by repeat first | with_reducible exact Sub.refl _ | refine sub_past rfl ?_ | exact Sub.refl _ | refine sub_del rfl ?_ | refine sub_insL_nil ?_) ⟨hli, q1, q2, hbw⟩ (by omega)
    ·
      refine EC.seq ?_
      refine EC.seq ?_
      refine EC.region ?_
      refine EL.val (x_move rfl) rfl ?_
      refine EL.val (fa_25_2 rfl) rfl ?_
      refine EL.val (ld_23 rfl (q1.at (j := 2) rfl)) rfl ?_
      refine EL.val (ln_23 rfl) rfl ?_
      refine EL.val (x_lss rfl rfl (by first | assumption | exact decide_eq_false (by omega))) rfl ?_
      refine EL.nil ?_
      refine EX.seq ?_
      refine EC.no rfl ?_
      refine EC.exit ?_
      refine EX.seq_exit ?_
      refine EX.seq_exit ?_
      refine EX.blk_here ?_
      refine EX.seq ?_
      refine EC.seq ?_
      refine EC.region ?_
      refine EL.val (x_assign rfl) rfl ?_
      refine EL.nil ?_
      refine EX.seq ?_
      refine EC.ret ?_
      exact EX.done (res1 rfl rfl) ⟨rfl, hbw⟩
end Go.Proofs.Ytmaiiigijjfjfaa
set_option linter.unusedVariables false
namespace Go.Proofs.Ytmaiiigijjfjfaa
open Go Go.RowKit
theorem own_empty {w : World} {g T base : Nat} (size : Nat) (h : Blk w g T #[]) (hb : base ≤ g) : w.ownsRow base T size (.slice (some ⟨g, 0, none⟩) 0 0) 0 [] :=
  ⟨by simp, .inr ⟨g, 0, #[], rfl, hb, h, Nat.le_refl _, Nat.zero_le _, by simp, by simp⟩⟩
section
variable {P : Program} {w : World}
theorem run_copy {t e : TypeId} {size bytes base B m ty g : Nat} (E : Elem P t e size bytes) {src : Value} {news : List Value} (hq : Blk w g e #[]) (hg : base ≤ g) (hr : Rd w B size src m news) (h1 : ∀ u ∈ news, u.oneCell' = true) (hm : m ≤ 1048576) (hby : bytes ≤ 1048576) (hbase : base ≤ w.heap.size) :
    ∃ v' w', (Builtin.append_ #[t, t] ty #[.slice (some ⟨g, 0, none⟩) 0 0, src]).run P w = .ok v' w' ∧ w'.ownsRow base e size v' m news ∧ Below w.heap.size w w' := by
  have hown := own_empty (base := base) size hq hg
  obtain ⟨v', w', h2, h3, h4, h5, _⟩ := run_push (ty := ty) E hown hr h1 (by omega) hby hbase
  rw [Nat.zero_add, List.nil_append] at h3
  refine ⟨v', w', h2, h3, ?_⟩
  have key : w'.heap[g]? = w.heap[g]? := by
    obtain ⟨i, z, hi, hz, hsize, hb, hzs⟩ := E.hi
    obtain ⟨hl, A, c, rfl, hnc, hr⟩ := hr
    rcases Nat.eq_zero_or_pos m with hm0 | hm0
    · subst hm0
      have hn : news = [] := List.eq_nil_of_length_eq_zero (by simpa using hl)
      subst hn
      rcases A with _ | ad
      · have h6 := run_append_of_nil (P := P) w base t ty e i size E.ht hi _ 0 [] hown c
        rw [h2] at h6
        injection h6 with _ h6
        rw [h6]
      · have h6 := run_append_room (P := P) w t ty e i E.ht hi g 0 0 #[] hq ad 0 c [] (by simp) (by simp) (by simp) (by simp) (by simp)
        rw [h2] at h6
        injection h6 with _ h6
        have h7 := setRow_blk (ds := (List.take (0 * i.size) (#[] : Array Value).toList ++ [] ++ List.drop (0 * i.size + ([] : List Value).length) (#[] : Array Value).toList).toArray) hq
        rw [← h6] at h7
        unfold Blk at h7 hq
        rw [h7, hq]
        simp
    · obtain ⟨b, off, rfl, _, hc⟩ := hr hm0
      have hmul : m * i.bytes ≤ 1048576 * i.bytes := Nat.mul_le_mul_right _ hm
      have h6 := run_append_grow (P := P) w t ty e i z E.ht hi hz ⟨g, 0, none⟩ 0 0 [] (by simp) (by simp) ⟨b, off, none⟩ m c news (by rw [hsize]; exact hl) (fun j u hu => by rw [Addr.add_lit]; exact hc j u hu) (by omega) (by omega) (by rw [Nat.zero_add, nextslicecap_zero hm0]; omega)
      rw [h2] at h6
      injection h6 with _ h6
      rw [h6]
      have hlt := hq.lt
      simp only [World.alloc, World.drew]
      rw [Array.getElem?_push_lt hlt, Array.getElem?_eq_getElem hlt]
  exact ⟨h4.os, h4.tape, h4.output, h4.size, fun k hk => by
    by_cases e : k = g
    · subst e; exact key
    · exact h4.block k hk (fun h => e (by simpa [Value.ownBlock] using h))⟩
end
section
variable {P : Program} {n : Nat} {σ : Sg} {L : List Oper} {cls : List (List Nat)} {alc : List Nat} {val : Nat → Value} {a : Act} {w1 : World} {i : Nat} {Q : Exit → Act → World → Prop}
theorem hs_copy {Φ : Nat → (Nat → Value) → World → Prop} {d ty t e size bytes base B mm g : Nat} {s x : Operand} {pos : String} {af : Array Edge} (E : Elem P t e size bytes) {src : Value} {news : List Value} (ha : Env n σ a) (ho : nthO L i = some ⟨some d, .call { callee := .builtin .append, args := #[s, x], argTypes := #[t, t] }, ty, pos, af, none⟩) (hs : evS σ s = some (.slice (some ⟨g, 0, none⟩) 0 0)) (hx : evS σ x = some src)
    (hq : Blk w1 g e #[]) (hg : base ≤ g) (hr : Rd w1 B size src mm news) (h1 : ∀ u ∈ news, u.oneCell' = true) (hm : mm ≤ 1048576) (hby : Nat.ble bytes 1048576 = true) (hbase : base ≤ w1.heap.size) (halc : memB alc i = false)
    (hΦ : ∀ v' w', w'.ownsRow base e size v' mm news → Φ i (res (upd val i v') i (clsAt cls i)) w') : wpOp P L.toArray Q i (HK L cls alc Φ i val a w1) a w1 := by
  obtain ⟨v', w', h2, h3, h4⟩ := run_copy (P := P) (ty := ty) E hq hg hr h1 hm (by simpa [Nat.ble_eq] using hby) hbase
  exact hs_run ho rfl (run_append_call rfl (ha.eval hs) (ha.eval hx) h2) h4 (hΦ v' w' h3) fun h => by rw [memB_mem.2 h] at halc; cases halc
theorem ss_copy {fl : Nat → Bool} {Φ : Nat → (Nat → Bool) → (Nat → Value) → World → Prop} {d ty t e size bytes base B mm g : Nat} {s x : Operand} {pos : String} {af : Array Edge} (E : Elem P t e size bytes) {src : Value} {news : List Value} (ha : Env n σ a) (ho : nthO L i = some ⟨some d, .call { callee := .builtin .append, args := #[s, x], argTypes := #[t, t] }, ty, pos, af, none⟩) (hs : evS σ s = some (.slice (some ⟨g, 0, none⟩) 0 0)) (hx : evS σ x = some src)
    (hq : Blk w1 g e #[]) (hg : base ≤ g) (hr : Rd w1 B size src mm news) (h1 : ∀ u ∈ news, u.oneCell' = true) (hm : mm ≤ 1048576) (hby : Nat.ble bytes 1048576 = true) (hbase : base ≤ w1.heap.size) (halc : memB alc i = false)
    (hΦ : ∀ v' w', w'.ownsRow base e size v' mm news → Φ i fl (res (upd val i v') i (clsAt cls i)) w') : wpOp P L.toArray Q i (SK fl L cls alc Φ i val a w1) a w1 := by
  obtain ⟨v', w', h2, h3, h4⟩ := run_copy (P := P) (ty := ty) E hq hg hr h1 hm (by simpa [Nat.ble_eq] using hby) hbase
  exact ss_run ho rfl (run_append_call rfl (ha.eval hs) (ha.eval hx) h2) h4 (hΦ v' w' h3) fun h => by rw [memB_mem.2 h] at halc; cases halc
end
/-- a world of which some blocks are turned -/
structure Touch (w w1 : World) (gs : List Nat) : Prop where
  os : w1.os = w.os
  tape : w1.tape = w.tape
  output : w1.output = w.output
  size : w.heap.size ≤ w1.heap.size
  block : ∀ k, k < w.heap.size → k ∉ gs → w1.heap[k]? = w.heap[k]?
section
variable {w w1 w2 : World} {gs : List Nat} {g T : Nat} {cs : Array Value}
theorem Touch.start (w : World) (gs : List Nat) : Touch w { w with drawn := w.drawn + 1 } gs := ⟨rfl, rfl, rfl, Nat.le_refl _, fun _ _ _ => rfl⟩
theorem Touch.below (h : Touch w w1 gs) (hb : Below w1.heap.size w1 w2) : Touch w w2 gs :=
  ⟨hb.os.trans h.os, hb.tape.trans h.tape, hb.output.trans h.output, Nat.le_trans h.size hb.size, fun k hk hn => (hb.block k (Nat.lt_of_lt_of_le hk h.size)).trans (h.block k hk hn)⟩
theorem Touch.grown (h : Touch w w1 gs) (hg : w1.grownBy w2 (some g)) (hm : g ∈ gs) : Touch w w2 gs :=
  ⟨hg.os.trans h.os, hg.tape.trans h.tape, hg.output.trans h.output, Nat.le_trans h.size hg.size, fun k hk hn => (hg.block k (Nat.lt_of_lt_of_le hk h.size) (fun e => hn (by injection e with e; rw [e]; exact hm))).trans (h.block k hk hn)⟩
end
theorem mono_row {k base e size n : Nat} {xs : List Value} : Mono fun r w => ∃ v, r k = v ∧ w.ownsRow base e size v n xs := fun _ _ _ hb ⟨v, h1, h2⟩ => ⟨v, h1, own_below h2 hb (Nat.le_refl _)⟩
end Go.Proofs.Ytmaiiigijjfjfaa
set_option linter.unusedVariables false
namespace Go.Proofs.Ytmaiiigijjfjfaa
open Go Go.RowKit
section
variable {P : Program} {w : World}
theorem run_full {t e : TypeId} {size bytes base B m k ty : Nat} {A : Option Addr} (E : Elem P t e size bytes) {src : Value} {xs news : List Value} (hown : w.ownsRow base e size (.slice A k k) k xs) (hr : Rd w B size src m news) (h1 : ∀ u ∈ news, u.oneCell' = true) (hm : k + m ≤ 1048576) (hby : bytes ≤ 1048576) (hbase : base ≤ w.heap.size) :
    ∃ v' w', (Builtin.append_ #[t, t] ty #[.slice A k k, src]).run P w = .ok v' w' ∧ w'.ownsRow base e size v' (k + m) (xs ++ news) ∧ Below w.heap.size w w' ∧ (m = 0 ∨ v'.ownBlock = some w.heap.size) := by
  obtain ⟨v', w', h2, h3, h4, h5, h6⟩ := run_push (ty := ty) E hown hr h1 hm hby hbase
  obtain ⟨i, z, hi, hz, hsize, hb, hzs⟩ := E.hi
  have hrow := hown.2
  obtain ⟨hl, X, c, rfl, hnc, hr⟩ := hr
  rcases Nat.eq_zero_or_pos m with hm0 | hm0
  · subst hm0
    refine ⟨v', w', h2, h3, ?_, .inl rfl⟩
    have hn : news = [] := List.eq_nil_of_length_eq_zero (by simpa using hl)
    subst hn
    rcases X with _ | ad
    · have h7 := run_append_of_nil (P := P) w base t ty e i size E.ht hi _ k xs hown c
      rw [h2] at h7
      injection h7 with _ h7
      rw [h7]
      exact Below.refl _ _
    · rcases hrow with ⟨h8, _⟩ | ⟨g, cap, cur, h8, _, hq, hc1, hc2, hc3, hc4⟩
      · injection h8 with h8 _ _
        subst h8
        refine ⟨h4.os, h4.tape, h4.output, h4.size, fun j hj => h4.block j hj (by simp [Value.ownBlock])⟩
      · injection h8 with h8 _ h9
        subst h8
        subst h9
        have h7 := run_append_room (P := P) w t ty e i E.ht hi g k k cur hq ad 0 c [] (by simp) (by simp) (by simp) (by omega) (by rw [hsize]; simp [hc3])
        rw [h2] at h7
        injection h7 with _ h7
        have key : w'.heap[g]? = w.heap[g]? := by
          have h10 := setRow_blk (ds := (List.take (k * i.size) cur.toList ++ [] ++ List.drop (k * i.size + ([] : List Value).length) cur.toList).toArray) hq
          rw [← h7] at h10
          unfold Blk at h10
          rw [h10, hq]
          simp
        exact ⟨h4.os, h4.tape, h4.output, h4.size, fun j hj => by
          by_cases ej : j = g
          · subst ej; exact key
          · exact h4.block j hj (fun h => ej (by simpa [Value.ownBlock] using h))⟩
  · obtain ⟨b, off, rfl, _, hc⟩ := hr hm0
    have hmul : m * i.bytes ≤ 1048576 * i.bytes := Nat.mul_le_mul_right _ (by omega)
    have hkm : (k + m) * i.bytes ≤ 1048576 * i.bytes := Nat.mul_le_mul_right _ (by omega)
    have hal : ∀ o, Below w.heap.size w (w.drew.alloc o) := fun o => ⟨rfl, rfl, rfl, by simp, fun j hj => by
      simp only [World.alloc, World.drew]
      rw [Array.getElem?_push_lt hj, Array.getElem?_eq_getElem hj]⟩
    rcases hrow with ⟨h8, _⟩ | ⟨g, cap, cur, h8, _, hq, hc1, hc2, hc3, hc4⟩
    · injection h8 with h8 h9 _
      subst h8
      subst h9
      have h7 := run_append_nil (P := P) w t ty e i z E.ht hi hz ⟨b, off, none⟩ m c news (by rw [hsize]; exact hl) (fun j u hu => by rw [Addr.add_lit]; exact hc j u hu) hm0 (by omega) (by omega)
      rw [h2] at h7
      injection h7 with h8 h7
      refine ⟨v', w', h2, h3, by rw [h7]; exact hal _, .inr (by rw [h8]; rfl)⟩
    · injection h8 with h8 _ h9
      subst h8
      subst h9
      have hfit := growslice_fits (need := k + m) (old := k) (bytes := i.bytes) (by omega) (by omega)
      have h7 := run_append_grow (P := P) w t ty e i z E.ht hi hz ⟨g, 0, none⟩ k k xs (by rw [hsize]; exact hown.1) (fun j u hu => by
        rw [Addr.add_lit]
        have hq' : Blk w g e cur := hq
        rw [hq'.cell, Nat.zero_add]
        rw [← hc4] at hu
        rw [List.getElem?_take] at hu
        split at hu
        · simpa using hu
        · cases hu) ⟨b, off, none⟩ m c news (by rw [hsize]; exact hl) (fun j u hu => by rw [Addr.add_lit]; exact hc j u hu) (by omega) (by omega) hfit
      rw [h2] at h7
      injection h7 with h8 h7
      refine ⟨v', w', h2, h3, by rw [h7]; exact hal _, .inr (by rw [h8]; rfl)⟩
end
/-- a built slice is a row of one's own without room -/
theorem own_built {w : World} {g T base k size : Nat} {l : List Value} (h : Blk w g T l.toArray) (hl : lenV l = k * size) (hk : k ≤ 1048576) (hb : base ≤ g) : w.ownsRow base T size (.slice (some ⟨g, 0, none⟩) k k) k l := by
  have hl' : l.length = k * size := by rw [← lenV_eq]; exact hl
  exact ⟨hl', .inr ⟨g, k, l.toArray, rfl, hb, h, Nat.le_refl _, by simp only [maxLen]; omega, by simpa using hl', by rw [← hl']; simp⟩⟩
section
variable {P : Program} {n : Nat} {σ : Sg} {L : List Oper} {cls : List (List Nat)} {alc : List Nat} {val : Nat → Value} {a : Act} {w1 : World} {i : Nat} {Q : Exit → Act → World → Prop}
theorem hs_full {Φ : Nat → (Nat → Value) → World → Prop} {d ty t e size bytes base B mm k : Nat} {s x : Operand} {pos : String} {af : Array Edge} {A : Option Addr} (E : Elem P t e size bytes) {src : Value} {xs news : List Value} (ha : Env n σ a) (ho : nthO L i = some ⟨some d, .call { callee := .builtin .append, args := #[s, x], argTypes := #[t, t] }, ty, pos, af, none⟩) (hs : evS σ s = some (.slice A k k)) (hx : evS σ x = some src)
    (hown : w1.ownsRow base e size (.slice A k k) k xs) (hr : Rd w1 B size src mm news) (h1 : ∀ u ∈ news, u.oneCell' = true) (hm : k + mm ≤ 1048576) (hby : Nat.ble bytes 1048576 = true) (hbase : base ≤ w1.heap.size) (halc : memB alc i = false)
    (hΦ : ∀ v' w', w'.ownsRow base e size v' (k + mm) (xs ++ news) → Φ i (res (upd val i v') i (clsAt cls i)) w') : wpOp P L.toArray Q i (HK L cls alc Φ i val a w1) a w1 := by
  obtain ⟨v', w', h2, h3, h4, _⟩ := run_full (P := P) (ty := ty) E hown hr h1 hm (by simpa [Nat.ble_eq] using hby) hbase
  exact hs_run ho rfl (run_append_call rfl (ha.eval hs) (ha.eval hx) h2) h4 (hΦ v' w' h3) fun h => by rw [memB_mem.2 h] at halc; cases halc
end
end Go.Proofs.Ytmaiiigijjfjfaa
set_option linter.unusedVariables false
set_option linter.unusedSimpArgs false
namespace Go.Proofs.Ytmaiiigijjfjfaa
open Go
def lk (ls : List Lnk) (s : St) (v : Nat) : Lnk := ls.getD (s.via.getD v 0).toNat lnk0
def back (ls : List Lnk) (s : St) (v : Nat) : Nat → Nat
  | 0 => v
  | k + 1 => (lk ls s (back ls s v k)).fr
/-- the links of so many steps back, the last step first -/
def rgL (ls : List Lnk) (s : St) (v : Nat) : Nat → List Lnk
  | 0 => []
  | k + 1 => lk ls s (back ls s v k) :: rgL ls s v k
/-- T: when each variable was last set; K: when the round began; j: how many links it has looked at -/
structure Gh (ls : List Lnk) (n K j : Nat) (s : St) (T : Nat → Nat) : Prop where
  most : s.most.length = n
  via : s.via.length = n
  low : ∀ v, v < n → s.most.getD v 0 ≤ 0
  time : ∀ v, v < n → T v ≤ K + j
  hK : K = 0 ∨ ls.length ≤ K
  at_ : ∀ v, v < n → 0 < T v → ∃ i, i < ls.length ∧ s.via.getD v 0 = (i : Nat) ∧ (ls.getD i lnk0).to = v ∧ s.most.getD (ls.getD i lnk0).fr 0 + (ls.getD i lnk0).most ≤ s.most.getD v 0 ∧ (T v ≤ T (ls.getD i lnk0).fr → s.most.getD (ls.getD i lnk0).fr 0 + (ls.getD i lnk0).most < s.most.getD v 0) ∧ T v ≤ T (ls.getD i lnk0).fr + ls.length
  done : ∀ i, i < j → T (ls.getD i lnk0).fr ≤ K + i + 1 → s.most.getD (ls.getD i lnk0).to 0 ≤ s.most.getD (ls.getD i lnk0).fr 0 + (ls.getD i lnk0).most
  old : ∀ i, j ≤ i → i < ls.length → ls.length ≤ K → T (ls.getD i lnk0).fr + ls.length ≤ K + i + 1 → s.most.getD (ls.getD i lnk0).to 0 ≤ s.most.getD (ls.getD i lnk0).fr 0 + (ls.getD i lnk0).most
  ring : 0 ≤ s.ring → ∃ v, v < n ∧ s.ring = (v : Nat) ∧ K < T v
section
variable {ls : List Lnk} {n K j : Nat} {s : St} {T : Nat → Nat}
theorem gh_step (hok : LnksOk n ls) (hne : ∀ k, k < ls.length → (ls.getD k lnk0).fr ≠ (ls.getD k lnk0).to) (hj : j < ls.length) (h : Gh ls n K j s T) : ∃ T', Gh ls n K (j + 1) (rlx s j (ls.getD j lnk0)) T' := by
  obtain ⟨hf, ht, _, _⟩ := hok j hj
  have hnj := hne j hj
  obtain ⟨x, ex⟩ : ∃ x, x = ls.getD j lnk0 := ⟨_, rfl⟩
  have hlf := h.low x.fr (by rw [ex]; exact hf)
  have hlen := h.most
  have hlen2 := h.via
  by_cases hc : s.most.getD x.fr 0 < farI ∧ s.most.getD x.fr 0 + x.most < s.most.getD x.to 0
  · rw [← ex] at hf ht hnj ⊢
    rw [rlx, if_pos hc]
    have hlt := h.low x.to ht
    have hm : ∀ v, (s.most.set x.to (s.most.getD x.fr 0 + x.most)).getD v 0 = if x.to = v then s.most.getD x.fr 0 + x.most else s.most.getD v 0 := fun v => getD_setR (by omega)
    have hv : ∀ v, (s.via.set x.to (j : Nat)).getD v 0 = if x.to = v then ((j : Nat) : Int) else s.via.getD v 0 := fun v => getD_setR (by omega)
    have hdn : ∀ v, (s.most.set x.to (s.most.getD x.fr 0 + x.most)).getD v 0 ≤ s.most.getD v 0 := fun v => by
      rw [hm]
      split
      · rename_i e; rw [← e]; omega
      · exact Int.le_refl _
    refine ⟨fun v => if x.to = v then K + j + 1 else T v, by simp [hlen], by simp [hlen2], fun v hv' => Int.le_trans (hdn v) (h.low v hv'), fun v hv' => ?_, h.hK, fun v hv' hT => ?_, fun i hi hT => ?_, fun i hi1 hi2 hK hT => ?_, fun _ => ⟨x.to, ht, rfl, by simp only [if_pos]; omega⟩⟩
    · try simp only
      have := h.time v hv'
      split <;> omega
    · try simp only
      by_cases e : x.to = v
      · subst e
        refine ⟨j, hj, by rw [hv, if_pos rfl], by rw [← ex], ?_⟩
        rw [← ex]
        have e1 : ¬(x.to = x.fr) := fun e => hnj e.symm
        rw [if_pos rfl, if_neg e1, hm, hm, if_pos rfl, if_neg e1]
        have h3 := h.time x.fr hf
        refine ⟨Int.le_refl _, fun h1 => absurd h1 (by omega), ?_⟩
        rcases h.hK with h0 | h0
        · omega
        · by_cases h4 : T x.fr + ls.length ≤ K + j + 1
          · have := h.old j (Nat.le_refl _) hj h0 (by rw [← ex]; exact h4)
            rw [← ex] at this
            omega
          · omega
      · rw [if_neg e] at hT ⊢
        obtain ⟨i, hi, h1, h2, h3, h4, h5⟩ := h.at_ v hv' hT
        refine ⟨i, hi, by rw [hv, if_neg e]; exact h1, h2, ?_⟩
        rw [hm, hm, if_neg e]
        by_cases e2 : x.to = (ls.getD i lnk0).fr
        · rw [if_pos e2, if_pos e2]
          rw [← e2] at h3 h4 h5
          have h6 := h.time x.to ht
          exact ⟨by omega, fun _ => by omega, by omega⟩
        · rw [if_neg e2, if_neg e2]
          exact ⟨h3, h4, h5⟩
    · try simp only at hT ⊢
      rw [hm (ls.getD i lnk0).fr]
      by_cases e : i = j
      · subst e
        rw [← ex] at hT ⊢
        rw [hm, if_pos rfl, if_neg (fun e => hnj e.symm)]
        exact Int.le_refl _
      · by_cases e2 : x.to = (ls.getD i lnk0).fr
        · rw [if_pos e2] at hT; omega
        · rw [if_neg e2] at hT ⊢
          exact Int.le_trans (hdn _) (h.done i (by omega) hT)
    · try simp only at hT ⊢
      rw [hm (ls.getD i lnk0).fr]
      by_cases e2 : x.to = (ls.getD i lnk0).fr
      · rw [if_pos e2] at hT; omega
      · rw [if_neg e2] at hT ⊢
        exact Int.le_trans (hdn _) (h.old i (by omega) hi2 hK hT)
  · rw [rlx, if_neg (by rw [← ex]; exact hc)]
    refine ⟨T, hlen, hlen2, h.low, fun v hv => Nat.le_succ_of_le (h.time v hv), h.hK, h.at_, fun i hi hT => ?_, fun i hi1 hi2 hK hT => h.old i (by omega) hi2 hK hT, h.ring⟩
    by_cases e : i = j
    · subst e
      rw [← ex]
      have : ¬(s.most.getD x.fr 0 + x.most < s.most.getD x.to 0) := fun h2 => hc ⟨by unfold farI; omega, h2⟩
      omega
    · exact h.done i (by omega) hT
theorem gh_relax (hok : LnksOk n ls) (hne : ∀ k, k < ls.length → (ls.getD k lnk0).fr ≠ (ls.getD k lnk0).to) (h : Gh ls n K 0 s T) : ∀ j, j ≤ ls.length → ∃ T', Gh ls n K j (relaxN ls s j) T'
  | 0, _ => ⟨T, h⟩
  | j + 1, hj => by
    obtain ⟨T1, h1⟩ := gh_relax hok hne h j (by omega)
    exact gh_step hok hne (by omega) h1
theorem gh_next (h : Gh ls n K ls.length s T) : Gh ls n (K + ls.length) 0 ⟨s.most, s.via, -1⟩ T :=
  ⟨h.most, h.via, h.low, fun v hv => h.time v hv, .inr (by omega), h.at_, fun i hi => absurd hi (by omega), fun i _ hi _ hT => h.done i hi (by omega), fun h0 => absurd h0 (by simp)⟩
theorem gh_init (n : Nat) : Gh ls n 0 0 ⟨initM n (-1), initB n, -1⟩ fun _ => 0 :=
  ⟨initM_len _ _, initB_len _, fun v hv => by rw [show (initM n (-1)).getD v 0 = initI (-1) v by simp [initM, hv], initI, if_pos (.inr (by omega))]; exact Int.le_refl _, fun _ _ => Nat.le_refl _, .inl rfl, fun _ _ h => absurd h (by omega), fun i hi => absurd hi (by omega), fun i _ hi hK => absurd hi (by omega), fun h0 => absurd h0 (by simp)⟩
/-- where the last round has found a ring, no round before was the last one -/
theorem ring_all {s : St} {m : Nat} (h : 0 ≤ (rounds ls s m).ring) : ∀ k, 0 < k → k ≤ m → 0 ≤ (rounds ls s k).ring := fun k hk hm => by
  by_cases e : (rounds ls s k).ring < 0
  · have := rounds_stop hk e (m - k)
    rw [show k + (m - k) = m by omega] at this
    rw [this] at h
    exact h
  · omega
theorem gh_rounds (hok : LnksOk n ls) (hne : ∀ k, k < ls.length → (ls.getD k lnk0).fr ≠ (ls.getD k lnk0).to) {m : Nat} (h : 0 ≤ (rounds ls ⟨initM n (-1), initB n, 0⟩ (m + 1)).ring) : ∀ k, k ≤ m → ∃ T, Gh ls n (k * ls.length) ls.length (rounds ls ⟨initM n (-1), initB n, 0⟩ (k + 1)) T
  | 0, _ => by
    rw [rounds, if_neg (by omega), Nat.zero_mul]
    exact gh_relax hok hne (gh_init n) _ (Nat.le_refl _)
  | k + 1, hk => by
    obtain ⟨T, h1⟩ := gh_rounds hok hne h k (by omega)
    have hr := ring_all h (k + 1) (by omega) (by omega)
    rw [rounds, if_neg (by omega), Nat.succ_mul]
    exact gh_relax hok hne (gh_next h1) _ (Nat.le_refl _)
theorem gh_lk (h : Gh ls n K j s T) {v : Nat} (hv : v < n) (hT : 0 < T v) : 0 ≤ s.via.getD v 0 ∧ (s.via.getD v 0).toNat < ls.length ∧ (lk ls s v).to = v ∧ s.most.getD (lk ls s v).fr 0 + (lk ls s v).most ≤ s.most.getD v 0 ∧ (T v ≤ T (lk ls s v).fr → s.most.getD (lk ls s v).fr 0 + (lk ls s v).most < s.most.getD v 0) ∧ T v ≤ T (lk ls s v).fr + ls.length := by
  obtain ⟨i, hi, h1, h2⟩ := h.at_ v hv hT
  have e : lk ls s v = ls.getD i lnk0 := by unfold lk; rw [h1]; simp
  rw [e, h1]
  exact ⟨by omega, by simpa using hi, h2⟩
theorem lk_mem {v : Nat} (h : (s.via.getD v 0).toNat < ls.length) : lk ls s v ∈ ls := by
  unfold lk
  obtain ⟨k, ek⟩ : ∃ k, k = (s.via.getD v 0).toNat := ⟨_, rfl⟩
  rw [← ek] at h ⊢
  rw [show ls.getD k lnk0 = ls[k] by simp [h]]
  exact List.getElem_mem h
theorem back_add (v : Nat) (i : Nat) : ∀ k, back ls s v (i + k) = back ls s (back ls s v i) k
  | 0 => rfl
  | k + 1 => by rw [← Nat.add_assoc, back, back_add v i k, back]
end
/-- more things than places -/
theorem pigeon : ∀ (n : Nat) (f : Nat → Nat), (∀ i, i ≤ n → f i < n) → ∃ a b, a < b ∧ b ≤ n ∧ f a = f b
  | 0, f, h => absurd (h 0 (Nat.le_refl _)) (by omega)
  | n + 1, f, h => by
    by_cases hx : ∃ i, i ≤ n ∧ f i = f (n + 1)
    · obtain ⟨i, hi, e⟩ := hx
      exact ⟨i, n + 1, by omega, Nat.le_refl _, e⟩
    · have hx' : ∀ i, i ≤ n → f i ≠ f (n + 1) := fun i hi e => hx ⟨i, hi, e⟩
      obtain ⟨a, b, h1, h2, h3⟩ := pigeon n (fun i => if f i < f (n + 1) then f i else f i - 1) fun i hi => by
        have a := h i (by omega)
        have b := h (n + 1) (Nat.le_refl _)
        have c := hx' i hi
        try simp only
        split <;> omega
      refine ⟨a, b, h1, by omega, ?_⟩
      have a1 := hx' a (by omega)
      have b1 := hx' b (by omega)
      try simp only at h3
      split at h3 <;> split at h3 <;> omega
theorem least_of {p : Nat → Prop} : ∀ (k : Nat), 0 < k → p k → ∃ K, 0 < K ∧ K ≤ k ∧ p K ∧ ∀ j, 0 < j → j < K → ¬p j := by
  intro k
  induction k using Nat.strongRecOn with
  | _ k ih =>
    intro hk hp
    by_cases h : ∃ j, 0 < j ∧ j < k ∧ p j
    · obtain ⟨j, h1, h2, h3⟩ := h
      obtain ⟨K, k1, k2, k3⟩ := ih j h2 h1 h3
      exact ⟨K, k1, by omega, k3⟩
    · exact ⟨k, hk, Nat.le_refl _, hp, fun j h1 h2 h3 => h ⟨j, h1, h2, h3⟩⟩
/-- the ring that reach has found: v its variable, z n steps before, K its length -/
structure Rg (ls : List Lnk) (n : Nat) (s : St) (v z K : Nat) : Prop where
  vn : v < n
  ring : s.ring = (v : Nat)
  ez : z = back ls s v n
  pos : 0 < K
  le : K ≤ n
  lt : ∀ i, back ls s v i < n
  ok : ∀ i, 0 ≤ s.via.getD (back ls s v i) 0 ∧ (s.via.getD (back ls s v i) 0).toNat < ls.length ∧ (lk ls s (back ls s v i)).to = back ls s v i
  hK : back ls s z K = z
  least : ∀ j, 0 < j → j < K → back ls s z j ≠ z
  neg : ((rgL ls s z K).map (·.most)).sum < 0
theorem rg_of {ls : List Lnk} {n : Nat} (hn : 0 < n) (hok : LnksOk n ls) (hne : ∀ k, k < ls.length → (ls.getD k lnk0).fr ≠ (ls.getD k lnk0).to) {s : St} (es : s = reachS ls n (-1)) (h : 0 ≤ s.ring) : ∃ v z K, Rg ls n s v z K := by
  obtain ⟨m, rfl⟩ : ∃ m, n = m + 1 := ⟨n - 1, by omega⟩
  rw [es, reachS] at h
  obtain ⟨T, hG⟩ := gh_rounds hok hne h m (Nat.le_refl _)
  rw [reachS] at es
  rw [← es] at hG h
  obtain ⟨v, hv, hr, hT⟩ := hG.ring h
  have hlt1 : ∀ u, u < m + 1 → 0 < T u → (lk ls s u).fr < m + 1 := fun u hu hT => (hok _ (gh_lk hG hu hT).2.1).1
  have first : ∀ i, i ≤ m → back ls s v i < m + 1 ∧ (m - i) * ls.length < T (back ls s v i) := by
    intro i
    induction i with
    | zero => intro _; exact ⟨hv, hT⟩
    | succ i ih =>
      intro hi
      obtain ⟨h1, h2⟩ := ih (by omega)
      have h3 := gh_lk hG h1 (by omega)
      refine ⟨hlt1 _ h1 (by omega), ?_⟩
      have h4 := h3.2.2.2.2.2
      rw [show m - i = m - (i + 1) + 1 by omega, Nat.succ_mul] at h2
      show _ < T (lk ls s (back ls s v i)).fr
      omega
  have fst : ∀ i, i ≤ m + 1 → back ls s v i < m + 1 := fun i hi => by
    by_cases e : i ≤ m
    · exact (first i e).1
    · rw [show i = m + 1 by omega]
      obtain ⟨h1, h2⟩ := first m (Nat.le_refl _)
      exact hlt1 _ h1 (by omega)
  obtain ⟨a, b, hab, hb, e⟩ := pigeon (m + 1) (back ls s v) fst
  have per : ∀ i, a ≤ i → back ls s v (i + (b - a)) = back ls s v i := fun i hi => by
    have h1 := back_add (ls := ls) (s := s) v a (i - a)
    have h2 := back_add (ls := ls) (s := s) v b (i - a)
    rw [← e, ← h1] at h2
    rw [show a + (i - a) = i by omega] at h2
    rw [← h2]
    congr 1
    omega
  have all : ∀ i, back ls s v i < m + 1 ∧ 0 < T (back ls s v i) := by
    intro i
    induction i using Nat.strongRecOn with
    | _ i ih =>
      by_cases hi : i ≤ m
      · have := first i hi
        exact ⟨this.1, by omega⟩
      · have := per (i - (b - a)) (by omega)
        rw [show i - (b - a) + (b - a) = i by omega] at this
        rw [this]
        exact ih _ (by omega)
  obtain ⟨z, ez⟩ : ∃ z, z = back ls s v (m + 1) := ⟨_, rfl⟩
  have hzb : ∀ i, back ls s z i = back ls s v (m + 1 + i) := fun i => by rw [ez, ← back_add]
  obtain ⟨K, k1, k2, k3, k4⟩ := least_of (p := fun K => back ls s z K = z) (b - a) (by omega) (by rw [hzb, ez]; exact per _ (by omega))
  refine ⟨v, z, K, hv, hr, ez, k1, by omega, fun i => (all i).1, fun i => ?_, k3, k4, ?_⟩
  · have := gh_lk hG (all i).1 (all i).2
    exact ⟨this.1, this.2.1, this.2.2.1⟩
  · have key : ∀ i, ((rgL ls s z i).map (·.most)).sum ≤ s.most.getD z 0 - s.most.getD (back ls s z i) 0 ∧ (((rgL ls s z i).map (·.most)).sum < s.most.getD z 0 - s.most.getD (back ls s z i) 0 ∨ i = 0 ∨ T (back ls s z i) < T z) := by
      intro i
      induction i with
      | zero => exact ⟨by simp [rgL, back], .inr (.inl rfl)⟩
      | succ i ih =>
        have hi := all (m + 1 + i)
        rw [← hzb] at hi
        obtain ⟨_, _, _, g1, g2, _⟩ := gh_lk hG hi.1 hi.2
        have e1 : ((rgL ls s z (i + 1)).map (·.most)).sum = (lk ls s (back ls s z i)).most + ((rgL ls s z i).map (·.most)).sum := by simp [rgL]
        have e2 : back ls s z (i + 1) = (lk ls s (back ls s z i)).fr := rfl
        rw [e1, e2]
        obtain ⟨h1, h2⟩ := ih
        refine ⟨by omega, ?_⟩
        rcases h2 with h2 | h2 | h2
        · exact .inl (by omega)
        · subst h2
          by_cases h5 : T (back ls s z 0) ≤ T (lk ls s (back ls s z 0)).fr
          · have := g2 h5; exact .inl (by omega)
          · exact .inr (.inr (by simp only [back] at h5 ⊢; omega))
        · by_cases h5 : T (back ls s z i) ≤ T (lk ls s (back ls s z i)).fr
          · have := g2 h5; exact .inl (by omega)
          · exact .inr (.inr (by omega))
    obtain ⟨h1, h2⟩ := key K
    rw [k3] at h1 h2
    omega
/-- what a ring is -/
structure RingOk (ls : List Lnk) (n : Nat) (r : List Lnk) : Prop where
  two : 2 ≤ r.length
  le : r.length ≤ n
  mem : ∀ i, i < r.length → r.getD i lnk0 ∈ ls
  next : ∀ i, i < r.length → (r.getD i lnk0).to = (r.getD ((i + 1) % r.length) lnk0).fr
  once : ∀ i k, k < i → i < r.length → (r.getD k lnk0).fr ≠ (r.getD i lnk0).fr
  neg : (r.map (·.most)).sum < 0
theorem rgL_len (ls : List Lnk) (s : St) (v : Nat) : ∀ k, (rgL ls s v k).length = k
  | 0 => rfl
  | k + 1 => by simp [rgL, rgL_len ls s v k]
theorem rgL_get (ls : List Lnk) (s : St) (v : Nat) : ∀ {k i : Nat}, i < k → (rgL ls s v k).getD i lnk0 = lk ls s (back ls s v (k - 1 - i))
  | 0, i, h => absurd h (by omega)
  | k + 1, 0, _ => rfl
  | k + 1, i + 1, h => by
    show (rgL ls s v k).getD i lnk0 = _
    rw [rgL_get ls s v (by omega), show k + 1 - 1 - (i + 1) = k - 1 - i by omega]
theorem ring_ok {ls : List Lnk} {n : Nat} (hne : ∀ k, k < ls.length → (ls.getD k lnk0).fr ≠ (ls.getD k lnk0).to) {s : St} {v z K : Nat} (h : Rg ls n s v z K) : RingOk ls n (rgL ls s z K) := by
  have hz : ∀ i, back ls s z i = back ls s v (n + i) := fun i => by rw [h.ez, ← back_add]
  have ok : ∀ i, (s.via.getD (back ls s z i) 0).toNat < ls.length ∧ (lk ls s (back ls s z i)).to = back ls s z i := fun i => by rw [hz]; exact (h.ok _).2
  have inj : ∀ i j, i < j → j < K → back ls s z i ≠ back ls s z j := fun i j h1 h2 e => by
    have a := back_add (ls := ls) (s := s) z i (K - j)
    have b := back_add (ls := ls) (s := s) z j (K - j)
    rw [e, ← b, show j + (K - j) = K by omega, h.hK] at a
    exact h.least (i + (K - j)) (by omega) (by omega) a
  have len := rgL_len ls s z K
  have fr : ∀ i, i < K → ((rgL ls s z K).getD i lnk0).fr = back ls s z (K - i) := fun i hi => by
    rw [rgL_get ls s z hi, show K - i = K - 1 - i + 1 by omega]
    rfl
  have hp := h.pos
  refine ⟨?_, by rw [len]; exact h.le, fun i hi => ?_, fun i hi => ?_, fun i k hk hi => ?_, h.neg⟩
  · rw [len]
    by_cases e : K = 1
    · exfalso
      subst e
      have h1 := h.hK
      have h2 := ok 0
      exact hne _ h2.1 (h1.trans h2.2.symm)
    · omega
  · rw [len] at hi
    rw [rgL_get ls s z hi]
    exact lk_mem (ok _).1
  · rw [len] at hi ⊢
    rw [rgL_get ls s z hi, (ok _).2]
    by_cases e : i + 1 = K
    · rw [e, Nat.mod_self, fr 0 hp, show K - 0 = K by omega, h.hK, show K - 1 - i = 0 by omega]
      rfl
    · rw [Nat.mod_eq_of_lt (by omega), fr (i + 1) (by omega), show K - (i + 1) = K - 1 - i by omega]
  · rw [len] at hi
    rw [fr k (by omega), fr i hi]
    by_cases e : k = 0
    · subst e
      rw [show K - 0 = K by omega, h.hK]
      exact fun e => h.least (K - i) (by omega) (by omega) e.symm
    · exact fun e => inj (K - i) (K - k) (by omega) (by omega) e.symm
end Go.Proofs.Ytmaiiigijjfjfaa
set_option linter.unusedVariables false
set_option linter.unusedSimpArgs false
namespace Go.Proofs.Ytmaiiigijjfjfaa
open Go Go.RowKit
section
variable {n : Nat} {σ : Sg} {w : World} {dst : Option Tmp} {ty : TypeId} {pos : String} {af : Array Edge} {g : Option (Nat × Bool)} {x y z : Operand} {at' : Array TypeId}
theorem bs_29_1 {x0 : Operand} {v0_0 v0_1 v0_2 : Value} (h0 : evS σ x0 = some (.agg #[v0_0, v0_1, v0_2]))  (a : Act) (ha : Env n σ a) : (execOp a.eval ⟨dst, .buildSlice 29 1 #[(0, x0)], ty, pos, af, g⟩).run Try.prog w = .ok (.value (.slice (some ⟨w.heap.size, 0, none⟩) 1 1)) (w.alloc (.cells #[v0_0, v0_1, v0_2] 39)) := by
  simp only [execOp, List.map_toArray, List.map_cons, List.map_nil, ha.eval h0]
  go_simp
theorem cl_40 {x0 : Operand} {v0 : Value} (h0 : evS σ x0 = some v0) (a : Act) (ha : Env n σ a) : (execOp a.eval ⟨dst, .call { callee := .value (.func 40), args := #[x0], argTypes := at' }, ty, pos, af, g⟩).run Try.prog w = .ok (.enter 40 #[v0]) w := by
  simp only [execOp, resolve, List.map_toArray, List.map_cons, List.map_nil, ha.eval h0]
  simp [go_sem, Act.eval]
end
end Go.Proofs.Ytmaiiigijjfjfaa
set_option linter.unusedVariables false
set_option linter.unusedSimpArgs false
namespace Go.Proofs.Ytmaiiigijjfjfaa
open Go Go.RowKit
theorem agree_nat {σ : Sg} {t : Nat} {a b : Nat} (h : a = b) (hs : σ t = some (.int .i64 (a : Nat))) : σ t = some (.int .i64 (b : Nat)) := by rw [hs, h]
theorem own_old {w w' : World} {base e size n g : Nat} {v : Value} {xs : List Value} (h : w.ownsRow base e size v n xs) (hg : w.grownBy w' (some g)) (hne : ∀ k, v.ownBlock = some k → k ≠ g) : w'.ownsRow base e size v n xs :=
  h.kept hg (by
    rcases hv : v.ownBlock with _ | k
    · exact .inl rfl
    · exact .inr fun h' => hne k hv (Option.some.inj h'))
/-- what ring answers -/
def RingAns (c : Case) (l : List Int) (r : List Lnk) : Prop := ((rch c l (-1)).ring < 0 ∧ r = []) ∨ (0 ≤ (rch c l (-1)).ring ∧ ∃ v z K, Rg (linksOf c l) (nOf c) (rch c l (-1)) v z K ∧ r = rgL (linksOf c l) (rch c l (-1)) z K)
set_option maxHeartbeats 2000000 in
set_option maxRecDepth 100000 in
theorem ring_web {g : Nat} {c : Case} {l : List Int} (w : World) (hweb : WebAt w g c l) (hc : caseB c = true) (hcr : inCourse c l) :
    Calls Try.prog 40 #[.pointer (some ⟨g, 0, none⟩)] w fun e w' => (∃ v r, e = .returned v ∧ Rd w' w'.heap.size 3 v r.length (lnksC r) ∧ RingAns c l r) ∧ Below w.heap.size w w' := by
  have hub := hub_of hc hcr.neg
  have hox := rch_ok hc hcr (-1)
  have hnE := n_eq hc
  have hn29 : nOf c ≤ 29 := by have := caseB_ok hc; unfold nOf; omega
  have hn1 : 0 < nOf c := by unfold nOf; omega
  obtain ⟨hev, h8, _⟩ := caseB_ok hc
  obtain ⟨Ac, cc, vl_, AL, cL, hq, hrl⟩ := id hweb
  have hbw := Below.refl w.heap.size w
  refine EC.enter 58 Try.func40 rfl rfl rfl ?_
  refine EC.seq ?_
  refine EC.region ?_
  refine EL.val (x_assign rfl) rfl ?_
  refine EL.nil ?_
  refine EX.seq ?_
  refine EC.seq ?_
  refine EC.region ?_
  refine EL.val (x_move rfl) rfl ?_
  refine EL.call (cl_65 rfl rfl) rfl (reach_web (-1) _ hweb hc hcr) ?_
  rintro e w1_ ⟨⟨vM, vB, rfl, hM, hV⟩, hc1⟩
  refine ⟨_, rfl, ?_⟩
  replace hbw := Below.on hbw hc1 hbw.size
  clear hc1 hM
  obtain ⟨AV, cV, rfl, _⟩ := hV.shape
  have hb1 := Below.refl w1_.heap.size w1_
  refine EL.val (x_move rfl) rfl ?_
  refine EL.val (x_extract rfl rfl) rfl ?_
  refine EL.val (x_extract rfl rfl) rfl ?_
  refine EL.val (x_extract rfl rfl) rfl ?_
  refine EL.val (x_assign rfl) rfl ?_
  refine EL.val (x_assign rfl) rfl ?_
  refine EL.val (x_assign rfl) rfl ?_
  refine EL.nil ?_
  refine EX.seq ?_
  refine EC.seq ?_
  refine EC.seq ?_
  refine EC.region ?_
  refine EL.val (x_move rfl) rfl ?_
  by_cases hneg : (rch c l (-1)).ring < 0
  ·
    refine EL.val (x_lss rfl rfl (decide_eq_true hneg)) rfl ?_
    refine EL.nil ?_
    refine EX.seq ?_
    refine EC.yes rfl ?_
    refine EC.seq ?_
    refine EC.region ?_
    refine EL.val (x_assign rfl) rfl ?_
    refine EL.nil ?_
    refine EX.seq ?_
    refine EC.ret ?_
    refine EX.seq_ret ?_
    exact EX.done (res1 rfl rfl) ⟨⟨_, [], rfl, rd_nil, .inl ⟨hneg, rfl⟩⟩, hbw⟩
  ·
    obtain ⟨sR, esR⟩ : ∃ z, z = rch c l (-1) := ⟨_, rfl⟩
    rw [← esR] at hneg hV ⊢
    obtain ⟨v0, zz, K, hR⟩ := rg_of (by omega) (links_ok hc hcr) hub.ne (esR.trans rfl) (Int.not_lt.1 hneg)
    have hlv := hox.via
    rw [← esR] at hlv
    refine EL.val (x_lss rfl rfl (decide_eq_false hneg)) rfl ?_
    refine EL.nil ?_
    refine EX.seq ?_
    refine EC.no rfl ?_
    refine EC.skip ?_
    refine EX.seq ?_
    refine EC.seq ?_
    refine EC.seq ?_
    refine EC.region ?_
    refine EL.val (x_move rfl) rfl ?_
    refine EL.call (cl_66 rfl) rfl (many_as g _ (hq.below hbw hq.lt) (by omega) (by omega) hnE) ?_
    rintro e w2 ⟨rfl, hc2⟩
    refine ⟨_, rfl, ?_⟩
    replace hbw := Below.on hbw hc2 hbw.size
    replace hb1 := Below.on hb1 hc2 hb1.size
    clear hc2
    refine EL.val (x_move rfl) rfl ?_
    refine EL.nil ?_
    refine EX.seq ?_
    refine EC.block ?_
    refine EC.loopD [5, 18, 19, 20, 21, 22, 23, 24, 25, 26, 27, 28, 29, 30, 31] (fun x : Nat => [(5, .int .i64 ((back (linksOf c l) sR v0 x) : Nat)), (18, .int .i64 (x : Nat))]) (fun x W => x ≤ nOf c ∧ Below w.heap.size w W ∧ Below w1_.heap.size w1_ W) (fun x => nOf c - x) 0 ⟨Nat.zero_le _, hbw, hb1⟩ ⟨agree_of hR.ring rfl, rfl, trivial⟩ ?_
    clear hbw hb1
    rintro x wx ⟨hx, hbw, hb1⟩
    by_cases hxl : x < nOf c
    ·
      obtain ⟨u, eu⟩ : ∃ z, z = back (linksOf c l) sR v0 x := ⟨_, rfl⟩
      have hun : u < nOf c := by rw [eu, show back (linksOf c l) sR v0 x = back (linksOf c l) sR v0 x from rfl]; exact hR.lt _
      obtain ⟨hv0, hvm, hvt⟩ := (show 0 ≤ sR.via.getD u 0 ∧ (sR.via.getD u 0).toNat < (linksOf c l).length ∧ (lk (linksOf c l) sR u).to = u by rw [eu, show back (linksOf c l) sR v0 x = back (linksOf c l) sR v0 x from rfl]; exact hR.ok _)
      obtain ⟨m, em⟩ : ∃ m : Nat, sR.via.getD u 0 = m := ⟨(sR.via.getD u 0).toNat, by omega⟩
      rw [em, Int.toNat_natCast] at hvm
      obtain ⟨bv, ov, e_, _, cv⟩ := ints_cells sR.via u (by omega) _ _ _ _ _ hV
      subst e_
      rw [em] at cv
      obtain ⟨bl, ol, e_, _, l0, l1, l2⟩ := lnks_cells (linksOf c l) m hvm _ _ _ _ _ hrl
      subst e_
      have ey : lk (linksOf c l) sR u = (linksOf c l).getD m lnk0 := by rw [lk, em, Int.toNat_natCast]
      rw [← ey] at l0 l1 l2
      obtain ⟨y, ey2⟩ : ∃ y, y = lk (linksOf c l) sR u := ⟨_, rfl⟩
      rw [← ey2] at l0 l1 l2 hvt
      have hnx : back (linksOf c l) sR v0 (x + 1) = y.fr := by rw [ey2, eu]; rfl
      rw [← eu]
      refine EC.seq ?_
      refine EC.region ?_
      refine EL.val (x_lss rfl rfl (decide_eq_true (show ((x : Nat) : Int) < (nOf c : Nat) by omega))) rfl ?_
      refine EL.nil ?_
      refine EX.seq ?_
      refine EC.seq ?_
      refine EC.yes rfl ?_
      refine EC.skip ?_
      refine EX.seq ?_
      refine EC.seq ?_
      refine EC.block ?_
      refine EC.regionQ (by kernel_rfl) (by kernel_rfl) ?_
      refine EQ.val (fun _ hw => (x_move rfl)) rfl ?_
      refine EQ.val (fun _ hw => (x_nilCheck rfl)) rfl ?_
      refine EQ.val (fun _ hw => (fa_106_1 rfl)) rfl ?_
      refine EQ.val (fun _ hw => (ld_29 rfl (below_load hw (below_load hbw (hq.at (j := 3) rfl))))) rfl ?_
      refine EQ.val (fun _ hw => (x_move rfl)) rfl ?_
      refine EQ.val (fun _ hw => (x_move rfl)) rfl ?_
      refine EQ.val (fun _ hw => (ix_26 rfl rfl hun)) rfl ?_
      refine EQ.val (fun _ hw => (ld_3 rfl (below_load hw (below_load hb1 cv)))) rfl ?_
      refine EQ.val (fun _ hw => (ix_29 rfl rfl hvm)) rfl ?_
      refine EQ.val (fun _ hw => (fa_39_0 rfl)) rfl ?_
      refine EQ.val (fun _ hw => (ld_3 rfl (below_load hw (below_load hbw l0)))) rfl ?_
      refine EQ.val (fun _ hw => (x_assign rfl)) rfl ?_
      refine EQ.fin (fun w3 hw_ => ?_)
      replace hbw := Below.on hbw hw_ hbw.size
      replace hb1 := Below.on hb1 hw_ hb1.size
      clear hw_
      refine EX.blk ?_
      refine EX.seq ?_
      refine EC.region ?_
      refine EL.val (x_add rfl rfl (c := ((x + 1 : Nat) : Int)) ((IntWalk.i64_in _ ⟨by first | omega | (simp only; omega), by first | omega | (simp only; omega)⟩).trans (by first | omega | (simp only; omega)))) rfl ?_
      refine EL.val (x_move rfl) rfl ?_
      refine EL.nil ?_
      refine EX.roundD (x + 1) ⟨agree_nat hnx.symm rfl, rfl, trivial⟩ (by repeat first | with_reducible exact Sub.refl _ | refine sub_past rfl ?_ | exact Sub.refl _ | refine sub_del rfl ?_ | refine sub_insL_nil ?_) ⟨hxl, hbw, hb1⟩ (by omega)
    ·
      obtain rfl : x = nOf c := by omega
      refine EC.seq ?_
      refine EC.region ?_
      refine EL.val (x_lss rfl rfl (decide_eq_false (Int.lt_irrefl _))) rfl ?_
      refine EL.nil ?_
      refine EX.seq ?_
      refine EC.seq ?_
      refine EC.no rfl ?_
      refine EC.exit ?_
      refine EX.seq_exit ?_
      refine EX.seq_exit ?_
      refine EX.blk_here ?_
      refine EX.seq ?_
      refine EC.seq ?_
      refine EC.seq ?_
      refine EC.region ?_
      refine EL.val (x_move rfl) rfl ?_
      refine EL.val (x_assign rfl) rfl ?_
      refine EL.nil ?_
      refine EX.seq ?_
      refine EC.block ?_
      refine EC.loopD [2, 6, 7, 33, 34, 35, 36, 37, 38, 39, 40, 41, 42, 43, 44, 45, 46, 47, 48, 49, 50, 51, 52, 53, 54, 55, 56] (fun x : Nat × Value => [(2, x.2), (6, .int .i64 ((back (linksOf c l) sR zz x.1) : Nat))]) (fun x W => x.1 ≤ K ∧ W.ownsRow w1_.heap.size 39 3 x.2 x.1 (lnksC (rgL (linksOf c l) sR zz x.1)) ∧ Below w.heap.size w W ∧ Below w1_.heap.size w1_ W) (fun x => K - x.1) (0, .slice none 0 0) ⟨Nat.zero_le _, ⟨rfl, .inl ⟨rfl, rfl⟩⟩, hbw, hb1⟩ ⟨rfl, agree_nat hR.ez.symm rfl, trivial⟩ ?_
      clear hbw hb1
      rintro ⟨x, vl⟩ wx ⟨hx, ho, hbw, hb1⟩
      dsimp only at hx ho
      by_cases hxl : x < K
      ·
        have hzx : back (linksOf c l) sR zz x = back (linksOf c l) sR v0 (nOf c + x) := by rw [hR.ez, ← back_add]
        obtain ⟨AX, cX, rfl, _⟩ := (Rd.of_own ho).shape
        have htest : 0 < x → ¬back (linksOf c l) sR zz x = zz := fun h => hR.least x h hxl
        have hKn := hR.le
        obtain ⟨u, eu⟩ : ∃ z, z = back (linksOf c l) sR zz x := ⟨_, rfl⟩
        have hun : u < nOf c := by rw [eu, hzx]; exact hR.lt _
        obtain ⟨hv0, hvm, hvt⟩ := (show 0 ≤ sR.via.getD u 0 ∧ (sR.via.getD u 0).toNat < (linksOf c l).length ∧ (lk (linksOf c l) sR u).to = u by rw [eu, hzx]; exact hR.ok _)
        obtain ⟨m, em⟩ : ∃ m : Nat, sR.via.getD u 0 = m := ⟨(sR.via.getD u 0).toNat, by omega⟩
        rw [em, Int.toNat_natCast] at hvm
        obtain ⟨bv, ov, e_, _, cv⟩ := ints_cells sR.via u (by omega) _ _ _ _ _ hV
        subst e_
        rw [em] at cv
        obtain ⟨bl, ol, e_, _, l0, l1, l2⟩ := lnks_cells (linksOf c l) m hvm _ _ _ _ _ hrl
        subst e_
        have ey : lk (linksOf c l) sR u = (linksOf c l).getD m lnk0 := by rw [lk, em, Int.toNat_natCast]
        rw [← ey] at l0 l1 l2
        obtain ⟨y, ey2⟩ : ∃ y, y = lk (linksOf c l) sR u := ⟨_, rfl⟩
        rw [← ey2] at l0 l1 l2 hvt
        have hnx : back (linksOf c l) sR zz (x + 1) = y.fr := by rw [ey2, eu]; rfl
        have hrg : rgL (linksOf c l) sR zz (x + 1) = y :: rgL (linksOf c l) sR zz x := by rw [rgL, ← eu, ← ey2]
        rw [← eu] at htest ⊢
        refine EC.seq ?_
        refine EC.seq ?_
        refine EC.region ?_
        refine EL.val (x_move rfl) rfl ?_
        refine EL.val (ln_29 rfl) rfl ?_
        by_cases hx0 : x = 0
        ·
          refine EL.val (x_eql rfl rfl (decide_eq_true (show ((x : Nat) : Int) = 0 by omega))) rfl ?_
          refine EL.val (x_move rfl) rfl ?_
          refine EL.skip rfl rfl rfl rfl ?_
          refine EL.skip rfl rfl rfl rfl ?_
          refine EL.skip rfl rfl rfl rfl ?_
          refine EL.val (x_pick_t rfl rfl) rfl ?_
          refine EL.nil ?_
          refine EX.seq ?_
          refine EC.yes rfl ?_
          refine EC.skip ?_
          refine EX.seq ?_
          refine EC.block ?_
          refine EC.seq ?_
          have hol := fun k hk => (ho.lt k hk).2
          refine EC.regionP [[], [0], [0, 1], [0, 1, 2], [], [], [4, 5], [4, 5, 6], [0, 1, 2, 3, 4, 5, 6, 7], [0, 1, 2, 3, 4, 5, 6, 7, 8], [], [0, 1, 2, 3, 4, 5, 6, 7, 8, 9, 10]] 11 [10] (phi (fun i_ r => match i_ with | 0 => r 0 = .pointer (some ⟨g, 0, none⟩) | 1 => r 1 = .pointer (some ⟨g, 0, none⟩) | 2 => r 2 = .pointer (some ⟨g, 3, none⟩) | 3 => r 3 = .slice (some ⟨bl, ol, none⟩) (linksOf c l).length cL | 4 => r 4 = .slice (some ⟨bv, ov, none⟩) (nOf c) cV | 5 => r 5 = .int .i64 (u : Nat) | 6 => r 6 = .pointer (some ⟨bv, ov + u, none⟩) | 7 => r 7 = .int .i64 (m : Nat) | 8 => r 8 = .pointer (some ⟨bl, ol + m * 3, none⟩) | 9 => r 9 = .agg #[.int .i64 (y.fr : Nat), .int .i64 (y.to : Nat), .int .i64 y.most] | _ => True) [(10, fun r w_ => ∃ g_, r 10 = .pointer (some ⟨g_, 0, none⟩) ∧ Blk w_ g_ 39 #[.int .i64 0, .int .i64 0, .int .i64 0])]) (by kernel_rfl) rfl rfl (phi_cons mono_alloc (phi_nil)) (fun i_ hi_ => ?_) ?_
          · match i_, hi_ with
            | 0, _ =>
              intro val w1 a hb ha hd
              have ha := ha.sub (Sub.ins (d := 0) (Sub.nil _) rfl)
              exact hs_val ha rfl rfl (x_move rfl) rfl rfl
            | 1, _ =>
              intro val w1 a hb ha hd
              have e0 : val 0 = .pointer (some ⟨g, 0, none⟩) := hd 0 (memB_mem.1 rfl)
              have ha := ha.sub (Sub.ins (d := 41) (Sub.nil _) (dep_get rfl e0))
              exact hs_val ha rfl rfl (x_nilCheck rfl) rfl rfl
            | 2, _ =>
              intro val w1 a hb ha hd
              have e1 : val 1 = .pointer (some ⟨g, 0, none⟩) := hd 1 (memB_mem.1 rfl)
              have ha := ha.sub (Sub.ins (d := 42) (Sub.nil _) (dep_get rfl e1))
              exact hs_val ha rfl rfl (fa_106_1 rfl) rfl rfl
            | 3, _ =>
              intro val w1 a hb ha hd
              have e2 : val 2 = .pointer (some ⟨g, 3, none⟩) := hd 2 (memB_mem.1 rfl)
              have ha := ha.sub (Sub.ins (d := 43) (Sub.nil _) (dep_get rfl e2))
              exact hs_val ha rfl rfl (ld_29 rfl (below_load (Below.on hbw hb hbw.size) (hq.at (j := 3) rfl))) rfl rfl
            | 4, _ =>
              intro val w1 a hb ha hd
              have ha := ha.sub (Sub.ins (d := 4) (Sub.nil _) rfl)
              exact hs_val ha rfl rfl (x_move rfl) rfl rfl
            | 5, _ =>
              intro val w1 a hb ha hd
              have ha := ha.sub (Sub.ins (d := 6) (Sub.nil _) rfl)
              exact hs_val ha rfl rfl (x_move rfl) rfl rfl
            | 6, _ =>
              intro val w1 a hb ha hd
              have e4 : val 4 = .slice (some ⟨bv, ov, none⟩) (nOf c) cV := hd 4 (memB_mem.1 rfl)
              have e5 : val 5 = .int .i64 (u : Nat) := hd 5 (memB_mem.1 rfl)
              have ha := ha.sub (Sub.ins (d := 46) (Sub.ins (d := 45) (Sub.nil _) (dep_get rfl e4)) (dep_get rfl e5))
              exact hs_val ha rfl rfl (ix_26 rfl rfl hun) rfl rfl
            | 7, _ =>
              intro val w1 a hb ha hd
              have e6 : val 6 = .pointer (some ⟨bv, ov + u, none⟩) := hd 6 (memB_mem.1 rfl)
              have ha := ha.sub (Sub.ins (d := 47) (Sub.nil _) (dep_get rfl e6))
              exact hs_val ha rfl rfl (ld_3 rfl (below_load (Below.on hb1 hb hb1.size) cv)) rfl rfl
            | 8, _ =>
              intro val w1 a hb ha hd
              have e3 : val 3 = .slice (some ⟨bl, ol, none⟩) (linksOf c l).length cL := hd 3 (memB_mem.1 rfl)
              have e7 : val 7 = .int .i64 (m : Nat) := hd 7 (memB_mem.1 rfl)
              have ha := ha.sub (Sub.ins (d := 48) (Sub.ins (d := 44) (Sub.nil _) (dep_get rfl e3)) (dep_get rfl e7))
              exact hs_val ha rfl rfl (ix_29 rfl rfl hvm) rfl rfl
            | 9, _ =>
              intro val w1 a hb ha hd
              have e8 : val 8 = .pointer (some ⟨bl, ol + m * 3, none⟩) := hd 8 (memB_mem.1 rfl)
              have ha := ha.sub (Sub.ins (d := 49) (Sub.nil _) (dep_get rfl e8))
              exact hs_val ha rfl rfl (ld_39 rfl (below_load (Below.on hbw hb hbw.size) l0) (below_load (Below.on hbw hb hbw.size) l1) (below_load (Below.on hbw hb hbw.size) l2)) rfl rfl
            | 10, _ =>
              intro val w1 a hb ha hd
              have ha := ha.sub (Sub.nil _)
              exact hs_newP ha rfl rfl al_39 (fun g w' hq _ _ => ⟨g, rfl, hq⟩)
            | k + 11, h => exact absurd h (by omega)
          · intro val wR10 hb halc hd
            have e0 : val 0 = .pointer (some ⟨g, 0, none⟩) := hd 0 (by omega)
            have e1 : val 1 = .pointer (some ⟨g, 0, none⟩) := hd 1 (by omega)
            have e2 : val 2 = .pointer (some ⟨g, 3, none⟩) := hd 2 (by omega)
            have e3 : val 3 = .slice (some ⟨bl, ol, none⟩) (linksOf c l).length cL := hd 3 (by omega)
            have e4 : val 4 = .slice (some ⟨bv, ov, none⟩) (nOf c) cV := hd 4 (by omega)
            have e5 : val 5 = .int .i64 (u : Nat) := hd 5 (by omega)
            have e6 : val 6 = .pointer (some ⟨bv, ov + u, none⟩) := hd 6 (by omega)
            have e7 : val 7 = .int .i64 (m : Nat) := hd 7 (by omega)
            have e8 : val 8 = .pointer (some ⟨bl, ol + m * 3, none⟩) := hd 8 (by omega)
            have e9 : val 9 = .agg #[.int .i64 (y.fr : Nat), .int .i64 (y.to : Nat), .int .i64 y.most] := hd 9 (by omega)
            obtain ⟨ga10_10, e10, qa10_10⟩ := hd 10 (by omega)
            refine EL.ends (cs := [.pointer (some ⟨g, 0, none⟩), .pointer (some ⟨g, 0, none⟩), .pointer (some ⟨g, 3, none⟩), .slice (some ⟨bl, ol, none⟩) (linksOf c l).length cL, .slice (some ⟨bv, ov, none⟩) (nOf c) cV, .int .i64 (u : Nat), .pointer (some ⟨bv, ov + u, none⟩), .int .i64 (m : Nat), .pointer (some ⟨bl, ol + m * 3, none⟩), .agg #[.int .i64 (y.fr : Nat), .int .i64 (y.to : Nat), .int .i64 y.most], .pointer (some ⟨ga10_10, 0, none⟩)]) ⟨e0, e1, e2, e3, e4, e5, e6, e7, e8, e9, e10, trivial⟩ rfl ?_
            replace ho := own_below ho hb (Nat.le_refl _)
            have bge4 := alc_ge halc (i := 10) rfl rfl e10
            have bhbw_4 := Nat.le_trans hbw.size bge4
            have bhb1_4 := Nat.le_trans hb1.size bge4
            replace hbw := Below.on hbw hb hbw.size
            replace hb1 := Below.on hb1 hb hb1.size
            clear hb
            refine EL.store rfl rfl qa10_10 sz_39 rfl rfl rfl rfl ?_
            intro w5 hq5 hg5
            replace ho := own_old ho hg5 (fun k hk => by have h1 := hol k hk; have h2 := bge4; omega)
            replace hbw := below_store hbw hg5 bhbw_4
            replace hb1 := below_store hb1 hg5 bhb1_4
            replace qa10_10 := hq5
            clear hg5 hq5
            refine EL.nil ?_
            refine EX.seq ?_
            have lt_4 := qa10_10.lt
            refine EC.regionP [[], [0], [], [0, 1, 2], [], [4], [0, 1, 2, 3], [0, 1, 2, 3, 4, 5, 6]] 7 [] (phi (fun i_ r => match i_ with | 0 => r 0 = .agg #[.int .i64 (y.fr : Nat), .int .i64 (y.to : Nat), .int .i64 y.most] | 2 => r 2 = .slice AX x cX | 4 => r 4 = .pointer (some ⟨ga10_10, 0, none⟩) | 5 => r 5 = .int .i64 (y.fr : Nat) | _ => True) [(1, fun r w_ => ∃ g_, r 1 = .slice (some ⟨g_, 0, none⟩) 1 1 ∧ Blk w_ g_ 39 #[.int .i64 (y.fr : Nat), .int .i64 (y.to : Nat), .int .i64 y.most] ∧ w5.heap.size ≤ g_), (3, fun r w_ => ∃ v, r 3 = v ∧ w_.ownsRow w1_.heap.size 39 3 v (x + 1) ([.int .i64 (y.fr : Nat), .int .i64 (y.to : Nat), .int .i64 y.most] ++ lnksC (rgL (linksOf c l) sR zz x))), (6, fun r w_ => ∃ v, r 6 = v ∧ w_.ownsRow w1_.heap.size 39 3 v (x + 1) ([.int .i64 (y.fr : Nat), .int .i64 (y.to : Nat), .int .i64 y.most] ++ lnksC (rgL (linksOf c l) sR zz x)))]) (by kernel_rfl) rfl rfl (phi_cons mono_bs (phi_cons mono_row (phi_cons mono_row (phi_nil)))) (fun i_ hi_ => ?_) ?_
            · match i_, hi_ with
              | 0, _ =>
                intro val w1 a hb ha hd
                have ha := ha.sub (Sub.ins (d := 7) (Sub.nil _) rfl)
                exact hs_val ha rfl rfl (ld_39 rfl ((qa10_10.below hb qa10_10.lt).at (j := 0) rfl) ((qa10_10.below hb qa10_10.lt).at (j := 1) rfl) ((qa10_10.below hb qa10_10.lt).at (j := 2) rfl)) rfl rfl
              | 1, _ =>
                intro val w1 a hb ha hd
                have e0 : val 0 = .agg #[.int .i64 (y.fr : Nat), .int .i64 (y.to : Nat), .int .i64 y.most] := hd 0 (memB_mem.1 rfl)
                have ha := ha.sub (Sub.ins (d := 51) (Sub.nil _) (dep_get rfl e0))
                exact hs_newS ha rfl rfl (bs_29_1 rfl) rfl (fun g w' hq _ hge => ⟨g, rfl, hq, Nat.le_trans hb.size hge⟩)
              | 2, _ =>
                intro val w1 a hb ha hd
                have ha := ha.sub (Sub.ins (d := 2) (Sub.nil _) rfl)
                exact hs_val ha rfl rfl (x_move rfl) rfl rfl
              | 3, _ =>
                intro val w1 a hb ha hd
                obtain ⟨g1_, e1, q1_, h1_⟩ := hd 1 (memB_mem.1 rfl)
                change val 1 = _ at e1
                have e2 : val 2 = .slice AX x cX := hd 2 (memB_mem.1 rfl)
                have ha := ha.sub (Sub.ins (d := 53) (Sub.ins (d := 52) (Sub.nil _) (dep_get rfl e1)) (dep_get rfl e2))
                refine hs_full lnk_elem ha rfl rfl rfl (own_built (base := w1_.heap.size) (k := 1) (size := 3) q1_ rfl (by omega) (Nat.le_trans hb1.size h1_)) (Rd.of_own (own_below ho hb (Nat.le_refl _))) (lnksC_one _) (by have := hn29; omega) rfl (Nat.le_trans hb1.size hb.size) rfl ?_
                intro v' w' ho'
                exact ⟨v', rfl, by rw [Nat.add_comm] at ho'; exact ho'⟩
              | 4, _ =>
                intro val w1 a hb ha hd
                have ha := ha.sub (Sub.ins (d := 7) (Sub.nil _) rfl)
                exact hs_val ha rfl rfl (fa_39_0 rfl) rfl rfl
              | 5, _ =>
                intro val w1 a hb ha hd
                have e4 : val 4 = .pointer (some ⟨ga10_10, 0, none⟩) := hd 4 (memB_mem.1 rfl)
                have ha := ha.sub (Sub.ins (d := 55) (Sub.nil _) (dep_get rfl e4))
                exact hs_val ha rfl rfl (ld_3 rfl ((qa10_10.below hb qa10_10.lt).at (j := 0) rfl)) rfl rfl
              | 6, _ =>
                intro val w1 a hb ha hd
                obtain ⟨v3_, e3, ho3_⟩ := hd 3 (memB_mem.1 rfl)
                have ha := ha.sub (Sub.ins (d := 54) (Sub.nil _) (dep_get rfl e3))
                exact hs_val ha rfl rfl (x_assign rfl) ⟨_, rfl, ho3_⟩ rfl
              | k + 7, h => exact absurd h (by omega)
            · intro val wR11 hb halc hd
              have e0 : val 0 = .agg #[.int .i64 (y.fr : Nat), .int .i64 (y.to : Nat), .int .i64 y.most] := hd 0 (by omega)
              obtain ⟨ga1_11, e1, qa1_11, hga1_11⟩ := hd 1 (by omega)
              change val 1 = _ at e1
              change Blk wR11 ga1_11 39 #[.int .i64 (y.fr : Nat), .int .i64 (y.to : Nat), .int .i64 y.most] at qa1_11
              have e2 : val 2 = .slice AX x cX := hd 2 (by omega)
              obtain ⟨v3_, e3, ho3_⟩ := hd 3 (by omega)
              have e4 : val 4 = .pointer (some ⟨ga10_10, 0, none⟩) := hd 4 (by omega)
              have e5 : val 5 = .int .i64 (y.fr : Nat) := hd 5 (by omega)
              obtain ⟨v6_, e6, ho6_⟩ := hd 6 (by omega)
              refine EL.ends (cs := [.agg #[.int .i64 (y.fr : Nat), .int .i64 (y.to : Nat), .int .i64 y.most], .slice (some ⟨ga1_11, 0, none⟩) 1 1, .slice AX x cX, v3_, .pointer (some ⟨ga10_10, 0, none⟩), .int .i64 (y.fr : Nat), v6_]) ⟨e0, e1, e2, e3, e4, e5, e6, trivial⟩ rfl ?_
              replace qa10_10 := qa10_10.below hb qa10_10.lt
              replace ho := own_below ho hb (Nat.le_refl _)
              have n4_6 : ga10_10 ≠ ga1_11 := Nat.ne_of_lt (Nat.lt_of_lt_of_le lt_4 hga1_11)
              have bhbw_6 := Nat.le_trans hbw.size hga1_11
              have bhb1_6 := Nat.le_trans hb1.size hga1_11
              replace hbw := Below.on hbw hb hbw.size
              replace hb1 := Below.on hb1 hb hb1.size
              clear hb
              refine EL.val (x_assign rfl) rfl ?_
              refine EL.nil ?_
              refine EX.blk ?_
              refine EX.roundD (x + 1, _) ⟨rfl, agree_nat hnx.symm rfl, trivial⟩ (by repeat first | with_reducible exact Sub.refl _ | refine sub_past rfl ?_ | exact Sub.refl _ | refine sub_del rfl ?_ | refine sub_insL_nil ?_) ⟨hxl, by rw [hrg]; exact ho6_, hbw, hb1⟩ (by simp only; omega)
        ·
          refine EL.val (x_eql rfl rfl (decide_eq_false (show ¬((x : Nat) : Int) = 0 by omega))) rfl ?_
          refine EL.val (x_move rfl) rfl ?_
          refine EL.valg rfl rfl (x_move rfl) rfl ?_
          refine EL.valg rfl rfl (x_move rfl) rfl ?_
          refine EL.valg rfl rfl (x_neq rfl rfl (decide_eq_true (by rw [← hR.ez]; exact fun h => htest (by omega) (by omega)))) rfl ?_
          refine EL.val (x_pick_f rfl rfl) rfl ?_
          refine EL.nil ?_
          refine EX.seq ?_
          refine EC.yes rfl ?_
          refine EC.skip ?_
          refine EX.seq ?_
          refine EC.block ?_
          refine EC.seq ?_
          have hol := fun k hk => (ho.lt k hk).2
          refine EC.regionP [[], [0], [0, 1], [0, 1, 2], [], [], [4, 5], [4, 5, 6], [0, 1, 2, 3, 4, 5, 6, 7], [0, 1, 2, 3, 4, 5, 6, 7, 8], [], [0, 1, 2, 3, 4, 5, 6, 7, 8, 9, 10]] 11 [10] (phi (fun i_ r => match i_ with | 0 => r 0 = .pointer (some ⟨g, 0, none⟩) | 1 => r 1 = .pointer (some ⟨g, 0, none⟩) | 2 => r 2 = .pointer (some ⟨g, 3, none⟩) | 3 => r 3 = .slice (some ⟨bl, ol, none⟩) (linksOf c l).length cL | 4 => r 4 = .slice (some ⟨bv, ov, none⟩) (nOf c) cV | 5 => r 5 = .int .i64 (u : Nat) | 6 => r 6 = .pointer (some ⟨bv, ov + u, none⟩) | 7 => r 7 = .int .i64 (m : Nat) | 8 => r 8 = .pointer (some ⟨bl, ol + m * 3, none⟩) | 9 => r 9 = .agg #[.int .i64 (y.fr : Nat), .int .i64 (y.to : Nat), .int .i64 y.most] | _ => True) [(10, fun r w_ => ∃ g_, r 10 = .pointer (some ⟨g_, 0, none⟩) ∧ Blk w_ g_ 39 #[.int .i64 0, .int .i64 0, .int .i64 0])]) (by kernel_rfl) rfl rfl (phi_cons mono_alloc (phi_nil)) (fun i_ hi_ => ?_) ?_
          · match i_, hi_ with
            | 0, _ =>
              intro val w1 a hb ha hd
              have ha := ha.sub (Sub.ins (d := 0) (Sub.nil _) rfl)
              exact hs_val ha rfl rfl (x_move rfl) rfl rfl
            | 1, _ =>
              intro val w1 a hb ha hd
              have e0 : val 0 = .pointer (some ⟨g, 0, none⟩) := hd 0 (memB_mem.1 rfl)
              have ha := ha.sub (Sub.ins (d := 41) (Sub.nil _) (dep_get rfl e0))
              exact hs_val ha rfl rfl (x_nilCheck rfl) rfl rfl
            | 2, _ =>
              intro val w1 a hb ha hd
              have e1 : val 1 = .pointer (some ⟨g, 0, none⟩) := hd 1 (memB_mem.1 rfl)
              have ha := ha.sub (Sub.ins (d := 42) (Sub.nil _) (dep_get rfl e1))
              exact hs_val ha rfl rfl (fa_106_1 rfl) rfl rfl
            | 3, _ =>
              intro val w1 a hb ha hd
              have e2 : val 2 = .pointer (some ⟨g, 3, none⟩) := hd 2 (memB_mem.1 rfl)
              have ha := ha.sub (Sub.ins (d := 43) (Sub.nil _) (dep_get rfl e2))
              exact hs_val ha rfl rfl (ld_29 rfl (below_load (Below.on hbw hb hbw.size) (hq.at (j := 3) rfl))) rfl rfl
            | 4, _ =>
              intro val w1 a hb ha hd
              have ha := ha.sub (Sub.ins (d := 4) (Sub.nil _) rfl)
              exact hs_val ha rfl rfl (x_move rfl) rfl rfl
            | 5, _ =>
              intro val w1 a hb ha hd
              have ha := ha.sub (Sub.ins (d := 6) (Sub.nil _) rfl)
              exact hs_val ha rfl rfl (x_move rfl) rfl rfl
            | 6, _ =>
              intro val w1 a hb ha hd
              have e4 : val 4 = .slice (some ⟨bv, ov, none⟩) (nOf c) cV := hd 4 (memB_mem.1 rfl)
              have e5 : val 5 = .int .i64 (u : Nat) := hd 5 (memB_mem.1 rfl)
              have ha := ha.sub (Sub.ins (d := 46) (Sub.ins (d := 45) (Sub.nil _) (dep_get rfl e4)) (dep_get rfl e5))
              exact hs_val ha rfl rfl (ix_26 rfl rfl hun) rfl rfl
            | 7, _ =>
              intro val w1 a hb ha hd
              have e6 : val 6 = .pointer (some ⟨bv, ov + u, none⟩) := hd 6 (memB_mem.1 rfl)
              have ha := ha.sub (Sub.ins (d := 47) (Sub.nil _) (dep_get rfl e6))
              exact hs_val ha rfl rfl (ld_3 rfl (below_load (Below.on hb1 hb hb1.size) cv)) rfl rfl
            | 8, _ =>
              intro val w1 a hb ha hd
              have e3 : val 3 = .slice (some ⟨bl, ol, none⟩) (linksOf c l).length cL := hd 3 (memB_mem.1 rfl)
              have e7 : val 7 = .int .i64 (m : Nat) := hd 7 (memB_mem.1 rfl)
              have ha := ha.sub (Sub.ins (d := 48) (Sub.ins (d := 44) (Sub.nil _) (dep_get rfl e3)) (dep_get rfl e7))
              exact hs_val ha rfl rfl (ix_29 rfl rfl hvm) rfl rfl
            | 9, _ =>
              intro val w1 a hb ha hd
              have e8 : val 8 = .pointer (some ⟨bl, ol + m * 3, none⟩) := hd 8 (memB_mem.1 rfl)
              have ha := ha.sub (Sub.ins (d := 49) (Sub.nil _) (dep_get rfl e8))
              exact hs_val ha rfl rfl (ld_39 rfl (below_load (Below.on hbw hb hbw.size) l0) (below_load (Below.on hbw hb hbw.size) l1) (below_load (Below.on hbw hb hbw.size) l2)) rfl rfl
            | 10, _ =>
              intro val w1 a hb ha hd
              have ha := ha.sub (Sub.nil _)
              exact hs_newP ha rfl rfl al_39 (fun g w' hq _ _ => ⟨g, rfl, hq⟩)
            | k + 11, h => exact absurd h (by omega)
          · intro val wR10 hb halc hd
            have e0 : val 0 = .pointer (some ⟨g, 0, none⟩) := hd 0 (by omega)
            have e1 : val 1 = .pointer (some ⟨g, 0, none⟩) := hd 1 (by omega)
            have e2 : val 2 = .pointer (some ⟨g, 3, none⟩) := hd 2 (by omega)
            have e3 : val 3 = .slice (some ⟨bl, ol, none⟩) (linksOf c l).length cL := hd 3 (by omega)
            have e4 : val 4 = .slice (some ⟨bv, ov, none⟩) (nOf c) cV := hd 4 (by omega)
            have e5 : val 5 = .int .i64 (u : Nat) := hd 5 (by omega)
            have e6 : val 6 = .pointer (some ⟨bv, ov + u, none⟩) := hd 6 (by omega)
            have e7 : val 7 = .int .i64 (m : Nat) := hd 7 (by omega)
            have e8 : val 8 = .pointer (some ⟨bl, ol + m * 3, none⟩) := hd 8 (by omega)
            have e9 : val 9 = .agg #[.int .i64 (y.fr : Nat), .int .i64 (y.to : Nat), .int .i64 y.most] := hd 9 (by omega)
            obtain ⟨ga10_10, e10, qa10_10⟩ := hd 10 (by omega)
            refine EL.ends (cs := [.pointer (some ⟨g, 0, none⟩), .pointer (some ⟨g, 0, none⟩), .pointer (some ⟨g, 3, none⟩), .slice (some ⟨bl, ol, none⟩) (linksOf c l).length cL, .slice (some ⟨bv, ov, none⟩) (nOf c) cV, .int .i64 (u : Nat), .pointer (some ⟨bv, ov + u, none⟩), .int .i64 (m : Nat), .pointer (some ⟨bl, ol + m * 3, none⟩), .agg #[.int .i64 (y.fr : Nat), .int .i64 (y.to : Nat), .int .i64 y.most], .pointer (some ⟨ga10_10, 0, none⟩)]) ⟨e0, e1, e2, e3, e4, e5, e6, e7, e8, e9, e10, trivial⟩ rfl ?_
            replace ho := own_below ho hb (Nat.le_refl _)
            have bge7 := alc_ge halc (i := 10) rfl rfl e10
            have bhbw_7 := Nat.le_trans hbw.size bge7
            have bhb1_7 := Nat.le_trans hb1.size bge7
            replace hbw := Below.on hbw hb hbw.size
            replace hb1 := Below.on hb1 hb hb1.size
            clear hb
            refine EL.store rfl rfl qa10_10 sz_39 rfl rfl rfl rfl ?_
            intro w8 hq8 hg8
            replace ho := own_old ho hg8 (fun k hk => by have h1 := hol k hk; have h2 := bge7; omega)
            replace hbw := below_store hbw hg8 bhbw_7
            replace hb1 := below_store hb1 hg8 bhb1_7
            replace qa10_10 := hq8
            clear hg8 hq8
            refine EL.nil ?_
            refine EX.seq ?_
            have lt_7 := qa10_10.lt
            refine EC.regionP [[], [0], [], [0, 1, 2], [], [4], [0, 1, 2, 3], [0, 1, 2, 3, 4, 5, 6]] 7 [] (phi (fun i_ r => match i_ with | 0 => r 0 = .agg #[.int .i64 (y.fr : Nat), .int .i64 (y.to : Nat), .int .i64 y.most] | 2 => r 2 = .slice AX x cX | 4 => r 4 = .pointer (some ⟨ga10_10, 0, none⟩) | 5 => r 5 = .int .i64 (y.fr : Nat) | _ => True) [(1, fun r w_ => ∃ g_, r 1 = .slice (some ⟨g_, 0, none⟩) 1 1 ∧ Blk w_ g_ 39 #[.int .i64 (y.fr : Nat), .int .i64 (y.to : Nat), .int .i64 y.most] ∧ w8.heap.size ≤ g_), (3, fun r w_ => ∃ v, r 3 = v ∧ w_.ownsRow w1_.heap.size 39 3 v (x + 1) ([.int .i64 (y.fr : Nat), .int .i64 (y.to : Nat), .int .i64 y.most] ++ lnksC (rgL (linksOf c l) sR zz x))), (6, fun r w_ => ∃ v, r 6 = v ∧ w_.ownsRow w1_.heap.size 39 3 v (x + 1) ([.int .i64 (y.fr : Nat), .int .i64 (y.to : Nat), .int .i64 y.most] ++ lnksC (rgL (linksOf c l) sR zz x)))]) (by kernel_rfl) rfl rfl (phi_cons mono_bs (phi_cons mono_row (phi_cons mono_row (phi_nil)))) (fun i_ hi_ => ?_) ?_
            · match i_, hi_ with
              | 0, _ =>
                intro val w1 a hb ha hd
                have ha := ha.sub (Sub.ins (d := 7) (Sub.nil _) rfl)
                exact hs_val ha rfl rfl (ld_39 rfl ((qa10_10.below hb qa10_10.lt).at (j := 0) rfl) ((qa10_10.below hb qa10_10.lt).at (j := 1) rfl) ((qa10_10.below hb qa10_10.lt).at (j := 2) rfl)) rfl rfl
              | 1, _ =>
                intro val w1 a hb ha hd
                have e0 : val 0 = .agg #[.int .i64 (y.fr : Nat), .int .i64 (y.to : Nat), .int .i64 y.most] := hd 0 (memB_mem.1 rfl)
                have ha := ha.sub (Sub.ins (d := 51) (Sub.nil _) (dep_get rfl e0))
                exact hs_newS ha rfl rfl (bs_29_1 rfl) rfl (fun g w' hq _ hge => ⟨g, rfl, hq, Nat.le_trans hb.size hge⟩)
              | 2, _ =>
                intro val w1 a hb ha hd
                have ha := ha.sub (Sub.ins (d := 2) (Sub.nil _) rfl)
                exact hs_val ha rfl rfl (x_move rfl) rfl rfl
              | 3, _ =>
                intro val w1 a hb ha hd
                obtain ⟨g1_, e1, q1_, h1_⟩ := hd 1 (memB_mem.1 rfl)
                change val 1 = _ at e1
                have e2 : val 2 = .slice AX x cX := hd 2 (memB_mem.1 rfl)
                have ha := ha.sub (Sub.ins (d := 53) (Sub.ins (d := 52) (Sub.nil _) (dep_get rfl e1)) (dep_get rfl e2))
                refine hs_full lnk_elem ha rfl rfl rfl (own_built (base := w1_.heap.size) (k := 1) (size := 3) q1_ rfl (by omega) (Nat.le_trans hb1.size h1_)) (Rd.of_own (own_below ho hb (Nat.le_refl _))) (lnksC_one _) (by have := hn29; omega) rfl (Nat.le_trans hb1.size hb.size) rfl ?_
                intro v' w' ho'
                exact ⟨v', rfl, by rw [Nat.add_comm] at ho'; exact ho'⟩
              | 4, _ =>
                intro val w1 a hb ha hd
                have ha := ha.sub (Sub.ins (d := 7) (Sub.nil _) rfl)
                exact hs_val ha rfl rfl (fa_39_0 rfl) rfl rfl
              | 5, _ =>
                intro val w1 a hb ha hd
                have e4 : val 4 = .pointer (some ⟨ga10_10, 0, none⟩) := hd 4 (memB_mem.1 rfl)
                have ha := ha.sub (Sub.ins (d := 55) (Sub.nil _) (dep_get rfl e4))
                exact hs_val ha rfl rfl (ld_3 rfl ((qa10_10.below hb qa10_10.lt).at (j := 0) rfl)) rfl rfl
              | 6, _ =>
                intro val w1 a hb ha hd
                obtain ⟨v3_, e3, ho3_⟩ := hd 3 (memB_mem.1 rfl)
                have ha := ha.sub (Sub.ins (d := 54) (Sub.nil _) (dep_get rfl e3))
                exact hs_val ha rfl rfl (x_assign rfl) ⟨_, rfl, ho3_⟩ rfl
              | k + 7, h => exact absurd h (by omega)
            · intro val wR11 hb halc hd
              have e0 : val 0 = .agg #[.int .i64 (y.fr : Nat), .int .i64 (y.to : Nat), .int .i64 y.most] := hd 0 (by omega)
              obtain ⟨ga1_11, e1, qa1_11, hga1_11⟩ := hd 1 (by omega)
              change val 1 = _ at e1
              change Blk wR11 ga1_11 39 #[.int .i64 (y.fr : Nat), .int .i64 (y.to : Nat), .int .i64 y.most] at qa1_11
              have e2 : val 2 = .slice AX x cX := hd 2 (by omega)
              obtain ⟨v3_, e3, ho3_⟩ := hd 3 (by omega)
              have e4 : val 4 = .pointer (some ⟨ga10_10, 0, none⟩) := hd 4 (by omega)
              have e5 : val 5 = .int .i64 (y.fr : Nat) := hd 5 (by omega)
              obtain ⟨v6_, e6, ho6_⟩ := hd 6 (by omega)
              refine EL.ends (cs := [.agg #[.int .i64 (y.fr : Nat), .int .i64 (y.to : Nat), .int .i64 y.most], .slice (some ⟨ga1_11, 0, none⟩) 1 1, .slice AX x cX, v3_, .pointer (some ⟨ga10_10, 0, none⟩), .int .i64 (y.fr : Nat), v6_]) ⟨e0, e1, e2, e3, e4, e5, e6, trivial⟩ rfl ?_
              replace qa10_10 := qa10_10.below hb qa10_10.lt
              replace ho := own_below ho hb (Nat.le_refl _)
              have n7_9 : ga10_10 ≠ ga1_11 := Nat.ne_of_lt (Nat.lt_of_lt_of_le lt_7 hga1_11)
              have bhbw_9 := Nat.le_trans hbw.size hga1_11
              have bhb1_9 := Nat.le_trans hb1.size hga1_11
              replace hbw := Below.on hbw hb hbw.size
              replace hb1 := Below.on hb1 hb hb1.size
              clear hb
              refine EL.val (x_assign rfl) rfl ?_
              refine EL.nil ?_
              refine EX.blk ?_
              refine EX.roundD (x + 1, _) ⟨rfl, agree_nat hnx.symm rfl, trivial⟩ (by repeat first | with_reducible exact Sub.refl _ | refine sub_past rfl ?_ | exact Sub.refl _ | refine sub_del rfl ?_ | refine sub_insL_nil ?_) ⟨hxl, by rw [hrg]; exact ho6_, hbw, hb1⟩ (by simp only; omega)
      ·
        obtain rfl : x = K := by omega
        have hp := hR.pos
        obtain ⟨AX, cX, rfl, _⟩ := (Rd.of_own ho).shape
        have hzz := hR.hK
        refine EC.seq ?_
        refine EC.seq ?_
        refine EC.region ?_
        refine EL.val (x_move rfl) rfl ?_
        refine EL.val (ln_29 rfl) rfl ?_
        refine EL.val (x_eql rfl rfl (decide_eq_false (show ¬((x : Nat) : Int) = 0 by omega))) rfl ?_
        refine EL.val (x_move rfl) rfl ?_
        refine EL.valg rfl rfl (x_move rfl) rfl ?_
        refine EL.valg rfl rfl (x_move rfl) rfl ?_
        refine EL.valg rfl rfl (x_neq (r := false) rfl rfl (by rw [hzz, ← hR.ez]; simp)) rfl ?_
        refine EL.val (x_pick_f rfl rfl) rfl ?_
        refine EL.nil ?_
        refine EX.seq ?_
        refine EC.no rfl ?_
        refine EC.exit ?_
        refine EX.seq_exit ?_
        refine EX.seq_exit ?_
        refine EX.blk_here ?_
        refine EX.seq ?_
        refine EC.seq ?_
        refine EC.region ?_
        refine EL.val (x_move rfl) rfl ?_
        refine EL.val (x_assign rfl) rfl ?_
        refine EL.nil ?_
        refine EX.seq ?_
        refine EC.ret ?_
        exact EX.done (res1 rfl rfl) ⟨⟨_, _, rfl, by rw [rgL_len]; exact Rd.of_own ho, .inr ⟨esR ▸ Int.not_lt.1 hneg, v0, zz, x, esR ▸ hR, by rw [esR]⟩⟩, hbw⟩
def proofErr (c : Case) (l : List Int) : Int := if startErr c l ≠ 0 then startErr c l else if (rch c l (-1)).ring < 0 then 9 else 0
theorem proof_start {c : Case} {l : List Int} (h : startErr c l ≠ 0) : proofErr c l = startErr c l := if_pos h
theorem proof_fit {c : Case} {l : List Int} (h : startErr c l = 0) (hn : (rch c l (-1)).ring < 0) : proofErr c l = 9 := by rw [proofErr, if_neg (by omega), if_pos hn]
theorem proof_ok {c : Case} {l : List Int} (h : startErr c l = 0) (hn : ¬(rch c l (-1)).ring < 0) : proofErr c l = 0 := by rw [proofErr, if_neg (by omega), if_neg hn]
theorem RingAns.resolve_right_nil {c : Case} {l : List Int} {r : List Lnk} (h : RingAns c l r) (hn : (rch c l (-1)).ring < 0) : r = [] := by
  rcases h with ⟨_, h⟩ | ⟨h, _⟩
  · exact h
  · omega
theorem RingAns.ok {c : Case} {l : List Int} {r : List Lnk} (h : RingAns c l r) (hne : ∀ k, k < (linksOf c l).length → ((linksOf c l).getD k lnk0).fr ≠ ((linksOf c l).getD k lnk0).to) (hn : ¬(rch c l (-1)).ring < 0) : RingOk (linksOf c l) (nOf c) r := by
  rcases h with ⟨h, _⟩ | ⟨_, v, z, K, h, rfl⟩
  · exact absurd h hn
  · exact ring_ok hne h
theorem RingAns.pos {c : Case} {l : List Int} {r : List Lnk} (h : RingAns c l r) (hne : ∀ k, k < (linksOf c l).length → ((linksOf c l).getD k lnk0).fr ≠ ((linksOf c l).getD k lnk0).to) (hn : ¬(rch c l (-1)).ring < 0) : 0 < r.length := by
  have := (h.ok hne hn).two
  omega
set_option maxHeartbeats 2000000 in
theorem proof_any (c : Case) (vc vl : Value) (vs : List Value) (w : World) (B : Nat) (hr : RdCase w B vc vl c vs) (hB : B ≤ w.heap.size) (hn1 : c.clocks.length ≤ 1073741824) (hn2 : c.clues.length ≤ 1073741824) (l : List Int) (vi : Value) (hrl : Rd w B 1 vi l.length (ints l)) (hnl : l.length ≤ 1073741824) :
    Calls Try.prog 13 #[.agg #[.int .i64 c.events, vc, vl], vi] w fun e w' => (∃ v r, e = .returned (.tuple #[v, .int .i64 (proofErr c l)]) ∧ Rd w' w'.heap.size 3 v r.length (lnksC r) ∧ (proofErr c l ≠ 0 → r = []) ∧ (proofErr c l = 0 → ¬(rch c l (-1)).ring < 0 ∧ RingAns c l r)) ∧ Below w.heap.size w w' := by
  obtain ⟨Ac, cc_, rfl, _⟩ := hr.clocks.shape
  obtain ⟨Al, cl_, rfl, _⟩ := hr.clues.rd.shape
  obtain ⟨Ai, ci_, rfl, _⟩ := hrl.shape
  have hbw := Below.refl w.heap.size w
  refine EC.enter 22 Try.func13 rfl rfl rfl ?_
  refine EC.seq ?_
  refine EC.region ?_
  refine EL.newP (bx_25 rfl) rfl ?_
  intro g1 w1 q1 hb1 hg1 hl1
  have bhbw_1 := Nat.le_trans hbw.size hg1
  replace hbw := Below.on hbw hb1 hbw.size
  clear hb1 hg1 hl1
  refine EL.val (x_assign rfl) rfl ?_
  refine EL.val (x_assign rfl) rfl ?_
  refine EL.nil ?_
  refine EX.seq ?_
  refine EC.seq ?_
  refine EC.seq ?_
  refine EC.region ?_
  refine EL.val (ld_25 rfl (q1.at (j := 0) rfl) (q1.at (j := 1) rfl) (q1.at (j := 2) rfl)) rfl ?_
  refine EL.val (x_move rfl) rfl ?_
  refine EL.call (cl_38 rfl rfl) rfl (checkCourse_any c _ _ vs _ B (hr.below (hbw.mono hB)) (Nat.le_trans hB hbw.size) hn1 hn2 l _ (hrl.below (hbw.mono hB)) hnl) ?_
  rintro e w2 ⟨rfl, hc2⟩
  refine ⟨_, rfl, ?_⟩
  replace q1 := q1.below hc2 q1.lt
  replace hbw := Below.on hbw hc2 hbw.size
  clear hc2
  refine EL.val (x_assign rfl) rfl ?_
  refine EL.nil ?_
  refine EX.seq ?_
  refine EC.seq ?_
  refine EC.region ?_
  refine EL.val (x_move rfl) rfl ?_
  by_cases hst : startErr c l = 0
  ·
    obtain ⟨hc, hlen, _, hcr⟩ := start_ok hst
    refine EL.val (x_neq (r := false) rfl rfl (by simp [hst])) rfl ?_
    refine EL.nil ?_
    refine EX.seq ?_
    refine EC.no rfl ?_
    refine EC.skip ?_
    refine EX.seq ?_
    refine EC.seq ?_
    refine EC.region ?_
    refine EL.val (ld_25 rfl (q1.at (j := 0) rfl) (q1.at (j := 1) rfl) (q1.at (j := 2) rfl)) rfl ?_
    refine EL.val (x_move rfl) rfl ?_
    refine EL.call (cl_39 rfl rfl) rfl (open_web c _ _ vs _ B (hr.below (hbw.mono hB)) (Nat.le_trans hB hbw.size) hn1 hn2 l _ (hrl.below (hbw.mono hB)) hnl hc hcr) ?_
    rintro e w3 ⟨⟨gw, rfl, hweb⟩, hc3⟩
    refine ⟨_, rfl, ?_⟩
    replace q1 := q1.below hc3 q1.lt
    replace hbw := Below.on hbw hc3 hbw.size
    clear hc3
    refine EL.call (cl_40 rfl) rfl (ring_web _ hweb hc hcr) ?_
    rintro e w4 ⟨⟨vR, rr, rfl, hRd, hAns⟩, hc4⟩
    refine ⟨_, rfl, ?_⟩
    replace q1 := q1.below hc4 q1.lt
    replace hbw := Below.on hbw hc4 hbw.size
    clear hc4 hweb
    obtain ⟨AR, cR, rfl, _⟩ := hRd.shape
    refine EL.val (x_assign rfl) rfl ?_
    refine EL.nil ?_
    refine EX.seq ?_
    refine EC.seq ?_
    refine EC.seq ?_
    refine EC.region ?_
    refine EL.val (x_move rfl) rfl ?_
    refine EL.val (ln_29 rfl) rfl ?_
    by_cases hneg : (rch c l (-1)).ring < 0
    ·
      have hrr : rr = [] := hAns.resolve_right_nil hneg
      subst hrr
      refine EL.val (x_eql rfl rfl (decide_eq_true (by rfl))) rfl ?_
      refine EL.nil ?_
      refine EX.seq ?_
      refine EC.yes rfl ?_
      refine EC.seq ?_
      refine EC.region ?_
      refine EL.val (x_assign rfl) rfl ?_
      refine EL.val (x_assign rfl) rfl ?_
      refine EL.nil ?_
      refine EX.seq ?_
      refine EC.ret ?_
      refine EX.seq_ret ?_
      exact EX.done (res2 rfl rfl rfl) ⟨⟨_, [], by rw [proof_fit hst hneg], rd_nil, fun _ => rfl, fun h => absurd (proof_fit hst hneg ▸ h) (by decide)⟩, hbw⟩
    ·
      have hpos := hAns.pos (hub_of hc hcr.neg).ne hneg
      refine EL.val (x_eql rfl rfl (decide_eq_false (show ¬((rr.length : Nat) : Int) = 0 by omega))) rfl ?_
      refine EL.nil ?_
      refine EX.seq ?_
      refine EC.no rfl ?_
      refine EC.skip ?_
      refine EX.seq ?_
      refine EC.seq ?_
      refine EC.region ?_
      refine EL.val (x_move rfl) rfl ?_
      refine EL.val (x_assign rfl) rfl ?_
      refine EL.val (x_assign rfl) rfl ?_
      refine EL.nil ?_
      refine EX.seq ?_
      refine EC.ret ?_
      exact EX.done (res2 rfl rfl rfl) ⟨⟨_, rr, by rw [proof_ok hst hneg], hRd, fun h => absurd (proof_ok hst hneg) h, fun _ => ⟨hneg, hAns⟩⟩, hbw⟩
  ·
    refine EL.val (x_neq (r := true) rfl rfl (decide_eq_true hst)) rfl ?_
    refine EL.nil ?_
    refine EX.seq ?_
    refine EC.yes rfl ?_
    refine EC.seq ?_
    refine EC.region ?_
    refine EL.val (x_move rfl) rfl ?_
    refine EL.val (x_assign rfl) rfl ?_
    refine EL.val (x_assign rfl) rfl ?_
    refine EL.nil ?_
    refine EX.seq ?_
    refine EC.ret ?_
    refine EX.seq_ret ?_
    exact EX.done (res2 rfl rfl rfl) ⟨⟨_, [], by rw [(proof_start hst)], rd_nil, fun _ => rfl, fun h => absurd (proof_start hst ▸ h) hst⟩, hbw⟩
end Go.Proofs.Ytmaiiigijjfjfaa
set_option linter.unusedVariables false
set_option linter.unusedSimpArgs false
namespace Go.Proofs.Ytmaiiigijjfjfaa
open Go Go.RowKit
abbrev FR (ro : Option Nat) : Fence := { Fence.wide with round := ro }
theorem fr_depth (ro : Option Nat) (n : Nat) : (FR ro).depth.isSome = true → 1 ≤ n := fun h => by cases h
theorem callsIn_fr {ro : Option Nat} {n : Nat} {P : Program} {f : FuncId} {args : Array Value} {w : World} {R : Ending → World → Prop} (h : Calls P f args w R) : CallsIn (FR ro) n P f args w R :=
  (callsIn_wide (n := n)).2 h
theorem roundIn_fr {ro : Option Nat} {m n l : Nat} {P : Program} {f : FuncId} {tmps : Array Value} {assign body : Code} {w : World} {R : Ending → World → Prop} (h : RoundIn Fence.wide m P l f tmps assign body w R) : RoundIn (FR ro) n P l f tmps assign body w R :=
  ⟨h.1, fun c cs _ => h.2 c cs (room_wide _)⟩
/-- a frame with deferred calls ds -/
structure EnvG (n : Nat) (ds : List Deferred) (σ : Sg) (a : Act) : Prop where
  env : Env n σ ⟨a.tmps, []⟩
  ds : a.defers = ds
section
variable {n : Nat} {ds : List Deferred} {σ τ : Sg} {a : Act}
theorem Env.g (h : Env n σ a) : EnvG n [] σ a := ⟨⟨h.size, rfl, h.get⟩, h.defers⟩
theorem EnvG.e (h : EnvG n [] σ a) : Env n σ a := ⟨h.env.size, h.ds, h.env.get⟩
theorem eval_tmps (a : Act) : (⟨a.tmps, []⟩ : Act).eval = a.eval := by
  funext x
  cases x <;> rfl
theorem EnvG.eval (h : EnvG n ds σ a) {x : Operand} {v : Value} (hx : evS σ x = some v) : a.eval x = v := by
  rw [← eval_tmps]
  exact h.env.eval hx
theorem EnvG.put (h : EnvG n ds σ a) {d : Nat} (hd : Nat.blt d n = true) (v : Value) : EnvG n ds (ins σ d v) (a.put (some d) v) :=
  ⟨h.env.put hd v, h.ds⟩
theorem EnvG.sub (h : EnvG n ds σ a) (hs : Sub τ σ) : EnvG n ds τ a := ⟨h.env.sub hs, h.ds⟩
end
def ELI (ro : Option Nat) (k : Nat) (P : Program) (n : Nat) (ds : List Deferred) (L : List Oper) (Q : Exit → Act → World → Prop) (rest : List Oper) (σ : Sg) (w : World) : Prop := ∀ a, EnvG n ds σ a → wpListIn (FR ro) k P L.toArray Q rest a w
def ECI (ro : Option Nat) (k : Nat) (P : Program) (n : Nat) (ds : List Deferred) (c : Code) (Q : Exit → Act → World → Prop) (σ : Sg) (w : World) : Prop := ∀ a, EnvG n ds σ a → c.wpIn (FR ro) k P Q a w
def EXI (n : Nat) (ds : List Deferred) (Q : Exit → Act → World → Prop) (e : Exit) (σ : Sg) (w : World) : Prop := ∀ a, EnvG n ds σ a → Q e a w
section
variable {ro : Option Nat} {k : Nat} {P : Program} {n : Nat} {ds : List Deferred} {σ τ : Sg} {w : World} {Q : Exit → Act → World → Prop} {L : List Oper} {rest : List Oper}
theorem semAt_fr {o : Oper} (h : ∀ c, o.op ≠ .defer c) (ρ : Operand → Value) : o.semAt (FR ro).round ρ = execOp ρ o := Oper.semAt_eq _ _ _ h
/-- an operation that yields a value is no defer -/
theorem nodefer {o : Oper} {ρ : Operand → Value} {w' : World} {r : Next} (hr : (execOp ρ o).run P w = .ok r w') (hn : ∀ d, r ≠ .defer d) : ∀ c, o.op ≠ .defer c := fun c h => by
  unfold execOp at hr
  simp only [h, Sem.run_bind] at hr
  cases he : (resolve ρ c o.type).run P w with
  | ok d w2 =>
    rw [he] at hr
    simp only [Result.andThen_ok, Sem.run_pure] at hr
    injection hr with h1 _
    exact hn d h1.symm
  | halt x w2 => rw [he] at hr; cases hr
theorem wpLI_run {o : Oper} {a : Act} (hg : Region.wanted o (yielded L.toArray a.tmps) = true) {v : Value} {w' : World} (hr : (execOp a.eval o).run P w = .ok (.value v) w') (hk : wpListIn (FR ro) k P L.toArray Q rest (a.put o.dst v) w') : wpListIn (FR ro) k P L.toArray Q (o :: rest) a w := by
  unfold wpListIn
  rw [if_pos hg]
  refine ⟨fun _ _ => trivial, ?_⟩
  rw [semAt_fr (nodefer hr (fun d h => by cases h)), hr]
  exact hk
theorem wpLI_skip0 {o : Oper} {a : Act} (hg : Region.wanted o (yielded L.toArray a.tmps) = true) {w' : World} (hr : (execOp a.eval o).run P w = .ok .skip w') (hk : wpListIn (FR ro) k P L.toArray Q rest (a.put o.dst undef) w') : wpListIn (FR ro) k P L.toArray Q (o :: rest) a w := by
  unfold wpListIn
  rw [if_pos hg]
  refine ⟨fun _ _ => trivial, ?_⟩
  rw [semAt_fr (nodefer hr (fun d h => by cases h)), hr]
  exact hk
theorem yield_ofG {a : Act} (ha : EnvG n ds σ a) {j : Nat} {t : Tmp} {v : Value} (hj : dstOf L j = some t) (ht : σ t = some v) : yielded L.toArray a.tmps j = match v with | .bool b => some b | _ => none :=
  yield_of ha.env hj ht
theorem ELI.nil (h : EXI n ds Q .normal σ w) : ELI ro k P n ds L Q [] σ w := fun a ha => wpListIn_nil (h a ha)
theorem ELI.val {d ty : Nat} {op : Op} {pos : String} {af : Array Edge} {v : Value} (h : Gives P n σ w ⟨some d, op, ty, pos, af, none⟩ v) (hd : Nat.blt d n = true) (next : ELI ro k P n ds L Q rest (ins σ d v) w) : ELI ro k P n ds L Q (⟨some d, op, ty, pos, af, none⟩ :: rest) σ w :=
  fun a ha => wpLI_run (wanted_none rfl _) (by rw [← eval_tmps]; exact h _ ha.env) (next _ (ha.put hd v))
theorem ELI.valg {d ty j t : Nat} {b : Bool} {op : Op} {pos : String} {af : Array Edge} {v : Value} (hj : dstOf L j = some t) (ht : σ t = some (.bool b)) (h : Gives P n σ w ⟨some d, op, ty, pos, af, some (j, b)⟩ v) (hd : Nat.blt d n = true) (next : ELI ro k P n ds L Q rest (ins σ d v) w) : ELI ro k P n ds L Q (⟨some d, op, ty, pos, af, some (j, b)⟩ :: rest) σ w :=
  fun a ha => wpLI_run (by simp [Region.wanted, yield_ofG ha hj ht]) (by rw [← eval_tmps]; exact h _ ha.env) (next _ (ha.put hd v))
theorem ELI.turn {d ty : Nat} {op : Op} {pos : String} {af : Array Edge} (v : Value) (w' : World) (h : ∀ a, Env n σ a → (execOp a.eval ⟨some d, op, ty, pos, af, none⟩).run P w = .ok (.value v) w') (hd : Nat.blt d n = true) (next : ELI ro k P n ds L Q rest (ins σ d v) w') : ELI ro k P n ds L Q (⟨some d, op, ty, pos, af, none⟩ :: rest) σ w :=
  fun a ha => wpLI_run (wanted_none rfl _) (by rw [← eval_tmps]; exact h _ ha.env) (next _ (ha.put hd v))
theorem ELI.call {d ty : Nat} {op : Op} {pos : String} {af : Array Edge} {f : FuncId} {args : Array Value} {R : Ending → World → Prop} (hr : ∀ a, Env n σ a → (execOp a.eval ⟨some d, op, ty, pos, af, none⟩).run P w = .ok (.enter f args) w) (hd : Nat.blt d n = true) (hc : Calls P f args w R)
    (next : ∀ e w', R e w' → ∃ v, e = .returned v ∧ ELI ro k P n ds L Q rest (ins σ d v) w') : ELI ro k P n ds L Q (⟨some d, op, ty, pos, af, none⟩ :: rest) σ w := fun a ha => by
  have hr' := hr _ ha.env
  rw [eval_tmps] at hr'
  unfold wpListIn
  rw [if_pos (wanted_none rfl _)]
  refine ⟨fun _ _ => trivial, ?_⟩
  rw [semAt_fr (nodefer hr' (fun d h => by cases h)), hr']
  refine ⟨fr_depth _ _, CallsIn.mono (callsIn_fr hc) fun e w' he => ?_⟩
  obtain ⟨v, rfl, hv⟩ := next e w' he
  exact hv _ (ha.put hd v)
/-- a call of yield: a round -/
theorem ELI.yield {d ty l : Nat} {x y : Operand} {at' : Array TypeId} {pos : String} {af : Array Edge} {v : Value} {R : Ending → World → Prop} {fn : FuncId} {tmps : Array Value} {assign body : Code} (hx : evS σ x = some (.func (.yield l) #[] #[])) (hy : evS σ y = some v) (hd : Nat.blt d n = true) (hi : (Instr.yield l #[v]).run P w = .ok (.round l fn tmps assign body) w) (hR : RoundIn Fence.wide 0 P l fn tmps assign body w R)
    (next : ∀ e w', R e w' → ∃ v, e = .returned v ∧ ELI ro k P n ds L Q rest (ins σ d v) w') : ELI ro k P n ds L Q (⟨some d, .call { callee := .value x, args := #[y], argTypes := at' }, ty, pos, af, none⟩ :: rest) σ w := fun a ha => by
  have hr' : (execOp a.eval ⟨some d, .call { callee := .value x, args := #[y], argTypes := at' }, ty, pos, af, none⟩).run P w = .ok (.round l fn tmps assign body) w := by
    simp only [execOp, resolve, List.map_toArray, List.map_cons, List.map_nil, ha.eval hx, ha.eval hy]
    simp [go_sem, Deferred.ofValue, hi]
  unfold wpListIn
  rw [if_pos (wanted_none rfl _)]
  refine ⟨fun _ _ => trivial, ?_⟩
  rw [semAt_fr (nodefer hr' (fun d h => by cases h)), hr']
  refine ⟨fr_depth _ _, RoundIn.mono (roundIn_fr hR) fun e w' he => ?_⟩
  obtain ⟨v, rfl, hv⟩ := next e w' he
  exact hv _ (ha.put hd v)
theorem ELI.newP {d ty : Nat} {op : Op} {pos : String} {af : Array Edge} {cs : Array Value} {T : TypeId} (h : ∀ a, Env n σ a → (execOp a.eval ⟨some d, op, ty, pos, af, none⟩).run P w = .ok (.value (.pointer (some ⟨w.heap.size, 0, none⟩))) (w.alloc (.cells cs T))) (hd : Nat.blt d n = true)
    (next : ∀ g w', Blk w' g T cs → Below w.heap.size w w' → w.heap.size ≤ g → w.heap.size < w'.heap.size → ELI ro k P n ds L Q rest (ins σ d (.pointer (some ⟨g, 0, none⟩))) w') : ELI ro k P n ds L Q (⟨some d, op, ty, pos, af, none⟩ :: rest) σ w :=
  ELI.turn _ _ h hd (next _ _ (Blk.new w T cs) ((Below.refl _ _).alloc (Nat.le_refl _) _) (Nat.le_refl _) (by simp))
theorem ELI.newS {d ty m c : Nat} {op : Op} {pos : String} {af : Array Edge} {cs : Array Value} {T : TypeId} (h : ∀ a, Env n σ a → (execOp a.eval ⟨some d, op, ty, pos, af, none⟩).run P w = .ok (.value (.slice (some ⟨w.heap.size, 0, none⟩) m c)) (w.alloc (.cells cs T))) (hd : Nat.blt d n = true)
    (next : ∀ g w', Blk w' g T cs → Below w.heap.size w w' → w.heap.size ≤ g → w.heap.size < w'.heap.size → ELI ro k P n ds L Q rest (ins σ d (.slice (some ⟨g, 0, none⟩) m c)) w') : ELI ro k P n ds L Q (⟨some d, op, ty, pos, af, none⟩ :: rest) σ w :=
  ELI.turn _ _ h hd (next _ _ (Blk.new w T cs) ((Below.refl _ _).alloc (Nat.le_refl _) _) (Nat.le_refl _) (by simp))
theorem ELI.store {ty t T g o z : Nat} {x y : Operand} {pos : String} {af : Array Edge} {l l' : List Value} {v : Value} (hx : evS σ x = some (.pointer (some ⟨g, o, none⟩))) (hy : evS σ y = some v) (hb : Blk w g T l.toArray) (hs : (P.info? t).map (·.size) = some z) (hv : v.cells.toList = l') (hk : lenV l' = z) (ho : Nat.ble (o + z) (lenV l) = true) (h1 : allOne l' = true)
    (next : ∀ w', Blk w' g T (spl l o l').toArray → w.grownBy w' (some g) → KeepsOthers w w' → ELI ro k P n ds L Q rest σ w') : ELI ro k P n ds L Q (⟨none, .store t x y, ty, pos, af, none⟩ :: rest) σ w := fun a ha => by
  have hr : (execOp a.eval ⟨none, .store t x y, ty, pos, af, none⟩).run P w = .ok .skip (w.setRow g (spl l o l').toArray) := by
    simp only [execOp, ha.eval hx, ha.eval hy, Sem.run_bind, run_storeAt hs hb hv hk ho h1, Result.andThen_ok]
    rfl
  refine wpLI_skip0 (wanted_none rfl _) hr (next _ (setRow_blk hb) (setRow_grown _ _ _) ⟨(setRow_grown w g _).size, fun j ob hj hc => ?_⟩ a ha)
  by_cases e : j = g
  · subst e
    unfold Blk at hb
    rw [hb] at hj
    injection hj with hj
    subst hj
    cases hc
  · exact ((setRow_grown w g (spl l o l').toArray).block j (Array.getElem?_eq_some_iff.1 hj).1 (fun h => e (Option.some.inj h))).trans hj
theorem keeps_below {A B : World} (h : Below A.heap.size A B) : KeepsOthers A B := ⟨h.size, fun k _ hk _ => (h.block k (Array.getElem?_eq_some_iff.1 hk).1).trans hk⟩
theorem keeps_own {w w' : World} {base e size n : Nat} {v : Value} {xs : List Value} (h : w.ownsRow base e size v n xs) (hg : w.grownBy w' v.ownBlock) : KeepsOthers w w' := ⟨hg.size, fun j o hj hc => by
  refine (hg.block j (Array.getElem?_eq_some_iff.1 hj).1 fun e1 => ?_).trans hj
  obtain ⟨_, ⟨rfl, _⟩ | ⟨g, cap, cur, rfl, _, hk, _⟩⟩ := h
  · cases e1
  · have e2 : j = g := by simpa [Value.ownBlock] using e1
    subst e2
    rw [hk] at hj
    injection hj with hj
    subst hj
    cases hc⟩
theorem ELI.push {d ty t e size bytes base B m c : Nat} {s x : Operand} {pos : String} {af : Array Edge} (E : Elem P t e size bytes) {v src : Value} {xs news : List Value} (hs : evS σ s = some v) (hx : evS σ x = some src) (hown : w.ownsRow base e size v c xs) (hr : Rd w B size src m news) (h1 : ∀ u ∈ news, u.oneCell' = true) (hm : c + m ≤ 1048576) (hby : Nat.ble bytes 1048576 = true) (hbase : base ≤ w.heap.size) (hd : Nat.blt d n = true)
    (next : ∀ v' w', w'.ownsRow base e size v' (c + m) (xs ++ news) → w.grownBy w' v.ownBlock → Below base w w' → KeepsOthers w w' → ELI ro k P n ds L Q rest (ins σ d v') w') : ELI ro k P n ds L Q (⟨some d, .call { callee := .builtin .append, args := #[s, x], argTypes := #[t, t] }, ty, pos, af, none⟩ :: rest) σ w := fun a ha => by
  obtain ⟨v', w', h2, h3, h4, h5, h6⟩ := run_push (P := P) (ty := ty) E hown hr h1 hm (by simpa [Nat.ble_eq] using hby) hbase
  exact wpLI_run (wanted_none rfl _) (run_append_call rfl (ha.eval hs) (ha.eval hx) h2) (next v' w' h3 h4 h5 (keeps_own hown h4) _ (ha.put hd v'))
/-! ### Code -/
theorem ECI.sub {c : Code} (h : ECI ro k P n ds c Q τ w) (hs : Sub τ σ) : ECI ro k P n ds c Q σ w := fun a ha => h a (ha.sub hs)
theorem ECI.seq {x y : Code} (h : ECI ro k P n ds x (Exit.then (y.wpIn (FR ro) k P Q) Q) σ w) : ECI ro k P n ds (.seq x y) Q σ w := fun a ha => wpIn_seq (h a ha)
theorem ECI.region {id : Nat} {l : List Oper} (h : ELI ro k P n ds l Q l σ w) : ECI ro k P n ds (.region id l.toArray false) Q σ w := fun a ha => wpIn_region_lit (h a ha)
theorem ECI.block {id : Nat} {c : Code} (h : ECI ro k P n ds c (Exit.inBlock id Q) σ w) : ECI ro k P n ds (.block id c) Q σ w := fun a ha => wpIn_block (h a ha)
theorem ECI.skip (h : EXI n ds Q .normal σ w) : ECI ro k P n ds .skip Q σ w := fun a ha => wpIn_skip (h a ha)
theorem ECI.exit {id : Nat} (h : EXI n ds Q (.exit id) σ w) : ECI ro k P n ds (.exit id) Q σ w := fun a ha => wpIn_exit (h a ha)
theorem ECI.ret (h : EXI n ds Q .ret σ w) : ECI ro k P n ds .ret Q σ w := fun a ha => wpIn_ret (h a ha)
theorem ECI.yes {c : Operand} {x y : Code} (hc : evS σ c = some (.bool true)) (h : ECI ro k P n ds x Q σ w) : ECI ro k P n ds (.cond c x y) Q σ w := fun a ha => wpIn_cond_true (ha.eval hc) (h a ha)
theorem ECI.no {c : Operand} {x y : Code} (hc : evS σ c = some (.bool false)) (h : ECI ro k P n ds y Q σ w) : ECI ro k P n ds (.cond c x y) Q σ w := fun a ha => wpIn_cond_false (ha.eval hc) (h a ha)
/-- code of a function is code of a round of none -/
theorem EC.inn {c : Code} (h : ECI none k P n [] c Q σ w) : EC P n c Q σ w := fun a ha => wpIn_wide.1 (h a ha.g)
theorem ECI.out {c : Code} (h : EC P n c Q σ w) : ECI none k P n [] c Q σ w := fun a ha => wpIn_wide.2 (h a ha.e)
/-! ### Exits -/
theorem EXI.seq {y : Code} (h : ECI ro k P n ds y Q σ w) : EXI n ds (Exit.then (y.wpIn (FR ro) k P Q) Q) .normal σ w := h
theorem EXI.seq_exit {K : Act → World → Prop} {i : Nat} (h : EXI n ds Q (.exit i) σ w) : EXI n ds (Exit.then K Q) (.exit i) σ w := h
theorem EXI.seq_ret {K : Act → World → Prop} (h : EXI n ds Q .ret σ w) : EXI n ds (Exit.then K Q) .ret σ w := h
theorem EXI.blk {id : Nat} (h : EXI n ds Q .normal σ w) : EXI n ds (Exit.inBlock id Q) .normal σ w := h
theorem EXI.blk_ret {id : Nat} (h : EXI n ds Q .ret σ w) : EXI n ds (Exit.inBlock id Q) .ret σ w := h
theorem EXI.blk_here {id : Nat} (h : EXI n ds Q .normal σ w) : EXI n ds (Exit.inBlock id Q) (.exit id) σ w := fun a ha => by
  simp only [Exit.inBlock, if_true]
  exact h a ha
theorem EXI.blk_other {id i : Nat} (hi : Nat.beq i id = false) (h : EXI n ds Q (.exit i) σ w) : EXI n ds (Exit.inBlock id Q) (.exit i) σ w := fun a ha => by
  simp only [Exit.inBlock, if_neg (Nat.ne_of_beq_eq_false hi)]
  exact h a ha
end
/-! ### What a body leaves as it was -/
structure Kp (n0 : Nat) (S : List Nat) (W W' : World) : Prop where
  os : W'.os = W.os
  tape : W'.tape = W.tape
  output : W'.output = W.output
  size : W.heap.size ≤ W'.heap.size
  low : ∀ k, k < n0 → W'.heap[k]? = W.heap[k]?
  blk : ∀ g T cs, Blk W g T cs → memB S T = false → Blk W' g T cs
section
variable {n0 : Nat} {S : List Nat} {A B C : World}
theorem Kp.refl (n0 : Nat) (S : List Nat) (W : World) : Kp n0 S W W := ⟨rfl, rfl, rfl, Nat.le_refl _, fun _ _ => rfl, fun _ _ _ h _ => h⟩
theorem Kp.trans (h : Kp n0 S A B) (k : Kp n0 S B C) : Kp n0 S A C := ⟨k.os.trans h.os, k.tape.trans h.tape, k.output.trans h.output, Nat.le_trans h.size k.size, fun i hi => (k.low i hi).trans (h.low i hi), fun g T cs hg hT => k.blk g T cs (h.blk g T cs hg hT) hT⟩
theorem Kp.of_below (h : Below A.heap.size A B) (hn : n0 ≤ A.heap.size) : Kp n0 S A B := ⟨h.os, h.tape, h.output, h.size, fun k hk => h.block k (by omega), fun g T cs hg _ => hg.below h hg.lt⟩
theorem Kp.below (h : Kp n0 S A B) : Below n0 A B := ⟨h.os, h.tape, h.output, h.size, h.low⟩
theorem Kp.alloc (W : World) (hn : n0 ≤ W.heap.size) (o : Obj) : Kp n0 S W (W.alloc o) := Kp.of_below ((Below.refl _ _).alloc (Nat.le_refl _) _) hn
theorem Kp.putObj {W : World} {l : Nat} {o : Obj} (o' : Obj) (hl : n0 ≤ l) (ho : W.heap[l]? = some o) (hc : o.isCells = false) : Kp n0 S W (W.putObj l o') :=
  ⟨rfl, rfl, rfl, by simp, fun k hk => World.putObj_heap_other (by omega), fun g T cs hg _ => by
    unfold Blk at hg ⊢
    by_cases e : g = l
    · subst e
      rw [ho] at hg
      injection hg with hg
      subst hg
      cases hc
    · exact (World.putObj_heap_other e).trans hg⟩
/-- a store to a block of one of the kinds -/
theorem Kp.grown {w w' : World} {g T : Nat} {cs : Array Value} (hq : Blk w g T cs) (hT : memB S T = true) (hn : n0 ≤ g) (hg : w.grownBy w' (some g)) : Kp n0 S w w' :=
  ⟨hg.os, hg.tape, hg.output, hg.size, fun k hk => by
    by_cases e : k < w.heap.size
    · exact hg.block k e (fun h => by injection h; omega)
    · have := hq.lt; omega, fun k T' cs' hk hT' => by
    refine (hg.block k hk.lt fun h => ?_).trans hk
    injection h with h
    subst h
    unfold Blk at hk hq
    rw [hq] at hk
    injection hk with hk
    injection hk with _ h2
    subst h2
    rw [hT] at hT'
    cases hT'⟩
theorem Kp.own {w w' : World} {base e size n : Nat} {v : Value} {xs : List Value} (h : w.ownsRow base e size v n xs) (hT : memB S e = true) (hn : n0 ≤ base) (hn2 : n0 ≤ w.heap.size) (hg : w.grownBy w' v.ownBlock) : Kp n0 S w w' := by
  obtain ⟨_, ⟨rfl, _⟩ | ⟨g, cap, cur, rfl, hb, hk, _⟩⟩ := h
  · exact Kp.of_below ⟨hg.os, hg.tape, hg.output, hg.size, fun k hk => hg.block k hk (by simp [Value.ownBlock])⟩ hn2
  · exact Kp.grown (cs := cur) hk hT (by omega) hg
theorem Kp.row {w w' : World} {base e size n : Nat} {v : Value} {xs : List Value} (h : Kp n0 S w w') (ho : w.ownsRow base e size v n xs) (hT : memB S e = false) : w'.ownsRow base e size v n xs := by
  obtain ⟨hl, h0 | ⟨g, cap, cur, hv, hb, hk, h1⟩⟩ := ho
  · exact ⟨hl, .inl h0⟩
  · exact ⟨hl, .inr ⟨g, cap, cur, hv, hb, h.blk g e cur hk hT, h1⟩⟩
end
/-! ### An iterator that hands lists of integers -/
abbrev It := List Int × Value
def YieldW (P : Program) (l : Nat) (args : Array Value) (W : World) (R : Ending → World → Prop) : Prop :=
  ∃ fn tmps assign body, (Instr.yield l args).run P W = .ok (.round l fn tmps assign body) W ∧ RoundIn Fence.wide 0 P l fn tmps assign body W R
def RoundAns (n0 : Nat) (S : List Nat) (J Jx : List It → World → Prop) (pre : List It) (W : World) (e : Ending) (W' : World) : Prop :=
  Kp n0 S W W' ∧ ((e = .returned (.bool true) ∧ J pre W') ∨ (e = .returned (.bool false) ∧ Jx pre W'))
def Stays (J : List It → World → Prop) : Prop := ∀ s A B, J s A → Below A.heap.size A B → J s B
def IterAt (P : Program) (gf : Nat) (caps : Array Value) (ok : It → World → Prop) (n0 : Nat) (S : List Nat) (all : List (List Int)) (w : World) : Prop :=
  ∀ (l : Nat) (J Jx : List It → World → Prop) (W : World), Kp n0 S w W → Stays J → Stays Jx →
    (∀ pre x W1, ok x W1 → J pre W1 → (pre ++ [x]).map (·.1) <+: all → YieldW P l #[x.2] W1 (RoundAns n0 S J Jx (pre ++ [x]) W1)) →
    J [] W → Calls P gf (#[.func (.yield l) #[] #[]] ++ caps) W fun e W' => (∃ v, e = .returned v) ∧ Kp n0 S W W' ∧ ((∃ xs : List It, xs.map (·.1) = all ∧ J xs W') ∨ (∃ pre : List It, pre ≠ [] ∧ pre.map (·.1) <+: all ∧ Jx pre W'))
section
variable {P : Program} {n : Nat} {ds : List Deferred} {σ : Sg} {w : World} {Q : Exit → Act → World → Prop}
theorem env_arg {d : Nat} {a : Act} {v : Value} (h : EnvG n ds σ a) (hd : Nat.blt d n = true) : EnvG n [] (ins σ d v) ⟨(#[d].zip #[v]).foldl (fun t (p, v) => t.setIfInBounds p v) a.tmps, []⟩ := by
  have h1 := (Env.put (a := ⟨a.tmps, []⟩) h.env hd v).g
  simpa [Act.put] using h1
theorem rangeF {k : Nat} {g : Operand} {d : Nat} {assign body : Code} {gf : Nat} {caps : Array Value} (hg : evS σ g = some (.func (.func gf) #[] caps)) (eg : ∀ args w, (callFunc gf args).run P w = .ok (.enter gf args) w) (hd : Nat.blt d n = true)
    {ok : It → World → Prop} {n0 : Nat} {S : List Nat} {all : List (List Int)} (hit : IterAt P gf caps ok n0 S all w) (hn0 : n0 ≤ w.heap.size)
    (I Ix : List It → World → Prop) (hI : OwnFrom w.heap.size I) (hIx : OwnFrom w.heap.size Ix) (h0 : I [] w) (hok : OwnFrom w.heap.size ok) (σ1 : It → Sg)
    (hassign : ∀ l x W K, (∀ a', EnvG n [] (σ1 x) a' → K a' W) → ECI (some l) 0 P n [] assign (Exit.then K (fun _ _ _ => False)) (ins σ d x.2) W)
    (hbody : ∀ l pre x W, (pre ++ [x]).map (·.1) <+: all → ok x W → I pre W → ECI (some l) 0 P n [] body (fun e _ W' => KeepsOthers W W' ∧ Kp n0 S W W' ∧ ((e = .normal ∧ I (pre ++ [x]) W') ∨ (e = .ret ∧ Ix (pre ++ [x]) W'))) (σ1 x) W)
    (hdone : ∀ D xs W, w.heap.size ≤ D → xs.map (·.1) = all → I xs W → Kp n0 S w W → W.heap[D]? = some (.deferred (some [])) → EXI n ({ target := .collected D, args := #[] } :: ds) Q .normal σ W)
    (hstop : ∀ D pre W, w.heap.size ≤ D → pre ≠ [] → pre.map (·.1) <+: all → Ix pre W → Kp n0 S w W → W.heap[D]? = some (.deferred (some [])) → EXI n ({ target := .collected D, args := #[] } :: ds) Q .ret σ W) :
    ECI none k P n ds (.rangeFunc g #[d] assign body) Q σ w := fun a ha => by
  refine wpIn_rangeFunc fun fn hfn => ?_
  obtain ⟨rec, hrec⟩ : ∃ rec : LoopState → Option Code → Loop, rec = fun st pe => { state := st, pending := pe, fn, tmps := a.tmps, params := #[d], assign, body, defers := w.heap.size } := ⟨_, rfl⟩
  obtain ⟨W1, eW1⟩ : ∃ W1, W1 = (w.alloc (.deferred (some []))).alloc (.loop (rec .ready none)) := ⟨_, rfl⟩
  have hL := World.alloc_heap_new (w.alloc (.deferred (some []))) (.loop (rec .ready none))
  rw [World.size_alloc, ← eW1] at hL
  have hD : W1.heap[w.heap.size]? = some (.deferred (some [])) := by rw [eW1]; exact (Below.heap_alloc _ _ _ (by simp)).trans (World.alloc_heap_new w _)
  have hs1 : W1.heap.size = w.heap.size + 2 := by rw [eW1]; simp
  have hI1 : I [] W1 := by rw [eW1]; exact hI.alloc _ (hI.alloc _ h0)
  have hK1 : Kp n0 S w W1 := by rw [eW1]; exact (Kp.alloc w hn0 _).trans (Kp.alloc _ (by simp; omega) _)
  refine ⟨w.heap.size + 1, [{ target := .collected w.heap.size, args := #[] }], W1, { target := .fn (.func gf) caps, args := #[.func (.yield (w.heap.size + 1)) #[] #[]] }, W1, gf, #[.func (.yield (w.heap.size + 1)) #[] #[]] ++ caps, W1, ?_, ?_, ?_, ?_, fr_depth _ _, ?_⟩
  · rw [eW1, hrec]; exact run_enterLoop_outer _ _ _ _ _
  · simp only [resolve, ha.eval hg]
    simp [go_sem]
  · intro f' hf'; trivial
  · simp [invoke, go_sem, eg]
  · refine CallsIn.mono (callsIn_fr (hit (w.heap.size + 1) (fun pre W => I pre W ∧ w.heap.size + 2 ≤ W.heap.size ∧ W.heap[w.heap.size + 1]? = some (.loop (rec .ready none)) ∧ W.heap[w.heap.size]? = some (.deferred (some [])))
      (fun pre W => Ix pre W ∧ w.heap.size + 2 ≤ W.heap.size ∧ W.heap[w.heap.size + 1]? = some (.loop (rec .done (some .ret))) ∧ W.heap[w.heap.size]? = some (.deferred (some [])))
      W1 hK1 ?_ ?_ ?_ ⟨hI1, by omega, hL, hD⟩)) ?_
    · rintro s A B ⟨h1, h2, h3, h4⟩ hb
      exact ⟨hI s A B none h1 ⟨hb.os, hb.tape, hb.output, hb.size, fun i hi _ => hb.block i hi⟩ (fun r h => by cases h), Nat.le_trans h2 hb.size, (hb.block _ (by omega)).trans h3, (hb.block _ (by omega)).trans h4⟩
    · rintro s A B ⟨h1, h2, h3, h4⟩ hb
      exact ⟨hIx s A B none h1 ⟨hb.os, hb.tape, hb.output, hb.size, fun i hi _ => hb.block i hi⟩ (fun r h => by cases h), Nat.le_trans h2 hb.size, (hb.block _ (by omega)).trans h3, (hb.block _ (by omega)).trans h4⟩
    · rintro pre x W hokx ⟨hi, hsz, hl, hk⟩ hpf
      have hlt : w.heap.size + 1 < W.heap.size := by omega
      have hy := run_yield (P := P) (args := #[x.2]) hl (by rw [hrec]; rfl)
      rw [hrec] at hy
      refine ⟨fn, _, assign, body, hy, roundIn_of_wpIn hfn (hassign (w.heap.size + 1) x W _ (fun a' ha' => ?_) _ (env_arg ha hd))⟩
      refine ⟨_, run_beginRound hl (by rw [hrec]), ?_⟩
      obtain ⟨W2, eW2⟩ : ∃ W2, W2 = W.putObj (w.heap.size + 1) (.loop { rec .ready none with state := .busy }) := ⟨_, rfl⟩
      have hl2 : W2.heap[w.heap.size + 1]? = some (.loop { rec .ready none with state := .busy }) := by rw [eW2]; exact World.putObj_heap_same hlt
      have hk2 : W2.heap[w.heap.size]? = some (.deferred (some [])) := by rw [eW2]; exact (World.putObj_heap_other (by omega)).trans hk
      have hw2 : Kp n0 S W W2 := by rw [eW2]; exact Kp.putObj _ (by omega) hl rfl
      have hi2 : I pre W2 := by rw [eW2]; exact hI.putObj _ hi (by omega) hl rfl
      have hok2 : ok x W2 := by rw [eW2]; exact hok.putObj _ hokx (by omega) hl rfl
      have hsz2 : w.heap.size + 2 ≤ W2.heap.size := Nat.le_trans hsz hw2.size
      rw [← eW2]
      refine wpIn_mono (hbody (w.heap.size + 1) pre x W2 hpf hok2 hi2 a' ha') ?_
      rintro e a3 W3 ⟨hk3, hp3, h3⟩
      have hl3 := hk3.same _ _ hl2 rfl
      have hd3 := hk3.same _ _ hk2 rfl
      have fin : ∀ jump : Option Code, ∃ W4, (Instr.endRound (w.heap.size + 1) jump).run P W3 = .ok (.bool jump.isNone) W4 ∧ W4 = W3.putObj (w.heap.size + 1) (.loop (rec (if jump.isNone then .ready else .done) jump)) ∧ Kp n0 S W W4 ∧ w.heap.size + 2 ≤ W4.heap.size ∧ W4.heap[w.heap.size + 1]? = some (.loop (rec (if jump.isNone then .ready else .done) jump)) ∧ W4.heap[w.heap.size]? = some (.deferred (some [])) := fun jump => by
        have hr := run_endRound (P := P) jump hl3
        rw [hrec] at hr ⊢
        have hk4 : Kp n0 S W3 (W3.putObj (w.heap.size + 1) (.loop (rec (if jump.isNone then .ready else .done) jump))) := Kp.putObj _ (by omega) hl3 rfl
        rw [hrec] at hk4
        exact ⟨_, hr, rfl, hw2.trans (hp3.trans hk4), Nat.le_trans hsz2 (Nat.le_trans hp3.size hk4.size), World.putObj_heap_same (Array.getElem?_eq_some_iff.1 hl3).1, (World.putObj_heap_other (by omega)).trans hd3⟩
      rcases h3 with ⟨rfl, hi3⟩ | ⟨rfl, hi3⟩
      · obtain ⟨W4, hr, e4, k4, s4, l4, d4⟩ := fin none
        exact ⟨_, W4, hr, k4, .inl ⟨rfl, by rw [e4]; exact hI.putObj _ hi3 (by omega) hl3 rfl, s4, l4, d4⟩⟩
      · obtain ⟨W4, hr, e4, k4, s4, l4, d4⟩ := fin (some .ret)
        exact ⟨_, W4, hr, k4, .inr ⟨rfl, by rw [e4]; exact hIx.putObj _ hi3 (by omega) hl3 rfl, s4, l4, d4⟩⟩
    · rintro e W2 ⟨⟨v, rfl⟩, hkk, ⟨xs, hS, hi, hsz, hl, hk⟩ | ⟨pre, hne, hS, hi, hsz, hl, hk⟩⟩
      · refine ⟨none, _, by have := run_endLoop (P := P) hl (by rw [hrec]; simp); rw [hrec] at this; exact this, ?_⟩
        exact hdone w.heap.size xs _ (Nat.le_refl _) hS (hI.putObj _ hi (by omega) hl rfl) (hK1.trans (hkk.trans (Kp.putObj _ (by omega) hl rfl))) ((World.putObj_heap_other (by omega)).trans hk) _ ⟨ha.env, by rw [List.singleton_append, ha.ds]⟩
      · refine ⟨some .ret, _, by have := run_endLoop (P := P) hl (by rw [hrec]; simp); rw [hrec] at this; exact this, wpIn_ret ?_⟩
        exact hstop w.heap.size pre _ (Nat.le_refl _) hne hS (hIx.putObj _ hi (by omega) hl rfl) (hK1.trans (hkk.trans (Kp.putObj _ (by omega) hl rfl))) ((World.putObj_heap_other (by omega)).trans hk) _ ⟨ha.env, by rw [List.singleton_append, ha.ds]⟩
/-- the assign code of a loop variable that is no box -/
theorem assign1 {d e l id ty : Nat} {pos : String} {af : Array Edge} {x : It} {W : World} {K : Act → World → Prop} (he : Nat.blt e n = true) (hK : ∀ a', EnvG n [] (ins (ins σ d x.2) e x.2) a' → K a' W) :
    ECI (some l) 0 P n [] (.region id [⟨some e, .assign (.tmp d), ty, pos, af, none⟩].toArray false) (Exit.then K (fun _ _ _ => False)) (ins σ d x.2) W :=
  ECI.region (ELI.val (x_assign (show evS (ins σ d x.2) (.tmp d) = some x.2 by simp [evS, ins])) he (ELI.nil (fun a ha => hK a ha)))
/-! ### Leaving with marks -/
def Marks (n0 : Nat) (ds : List Deferred) (W : World) : Prop := ∀ d ∈ ds, ∃ D, n0 ≤ D ∧ d = { target := .collected D, args := #[] } ∧ W.heap[D]? = some (.deferred (some []))
/-- what taking the marks does -/
structure Took (n0 : Nat) (w w' : World) : Prop where
  below : Below n0 w w'
  size : w'.heap.size = w.heap.size
  blk : ∀ g T cs, Blk w g T cs → Blk w' g T cs
theorem leaves_marks {fn : Func} {tmps : Array Value} {R : Ending → World → Prop} {n0 k : Nat} : ∀ (ds : List Deferred) (w : World), Marks n0 ds w → ds.Nodup → (∀ w', Took n0 w w' → ∃ v, (results fn tmps).run P w' = .ok v w' ∧ R (.returned v) w') → LeavesInM Fence.wide k P fn tmps R ds .returning w
  | [], w, _, _, h => h w ⟨Below.refl _ _, rfl, fun _ _ _ h => h⟩
  | d :: ds, w, hm, hd, h => by
    obtain ⟨D, hD, rfl, hw⟩ := hm d (List.mem_cons_self ..)
    have ho : ∀ j, j ≠ D → (w.putObj D (.deferred none)).heap[j]? = w.heap[j]? := fun j hj => World.putObj_heap_other hj
    refine ⟨by simp, .inl ⟨D, _, rfl, run_takeDeferred hw, leaves_marks (n0 := n0) ds _ (fun d' hd' => ?_) (List.nodup_cons.1 hd).2 fun w' ht => h w' ?_⟩⟩
    · obtain ⟨D', h1, rfl, h3⟩ := hm d' (List.mem_cons_of_mem _ hd')
      refine ⟨D', h1, rfl, (ho D' fun e => ?_).trans h3⟩
      subst e
      exact (List.nodup_cons.1 hd).1 hd'
    · have hk : Kp n0 [] w (w.putObj D (.deferred none)) := Kp.putObj _ hD hw rfl
      exact ⟨hk.below.trans ht.below, ht.size.trans (by simp), fun g T cs hg => ht.blk g T cs (hk.blk g T cs hg rfl)⟩
theorem EC.marks {fn : Func} {f : FuncId} {c : Code} {args : List Value} {R : Ending → World → Prop} (n : Nat) (hf : P.funcs[f]? = some fn) (hb : fn.body = some c) (hn : fn.ntmps = n) (hl : Nat.ble args.length n = true) (h : ECI none 0 P n [] c (bodyPostM Fence.wide 0 P fn R) (argsS args 0) w) : Calls P f args.toArray w R := by
  subst hn
  refine (callsIn_wide (n := 0)).1 (callsIn_of_wp_marks hf hb trivial ?_)
  have := h _ (env_args (l := args) (by simpa [Nat.ble_eq] using hl)).g
  simp only [List.size_toArray] at this ⊢
  exact this
theorem EXI.done {fn : Func} {R : Ending → World → Prop} {n0 : Nat} {v : Value} (hm : Marks n0 ds w) (hd : ds.Nodup) (hr : ∀ w', Took n0 w w' → ∀ a, Env n σ a → (results fn a.tmps).run P w' = .ok v w') (h : ∀ w', Took n0 w w' → R (.returned v) w') : EXI n ds (bodyPostM Fence.wide 0 P fn R) .ret σ w := fun a ha => by
  show LeavesInM Fence.wide 0 P fn a.tmps R a.defers .returning w
  rw [ha.ds]
  exact leaves_marks ds w hm hd fun w' ht => ⟨v, hr w' ht ⟨a.tmps, []⟩ ha.env, h w' ht⟩
end
/-! ### An append to a slice that is full, and only read -/
section
variable {P : Program} {w : World}
theorem run_grow {t e : TypeId} {size bytes base B B' m k ty : Nat} {A : Option Addr} (E : Elem P t e size bytes) {src : Value} {xs news : List Value} (hold : Rd w B' size (.slice A k k) k xs) (hr : Rd w B size src m news) (hm0 : 0 < m) (hm : k + m ≤ 1048576) (hby : bytes ≤ 1048576) (hbase : base ≤ w.heap.size) :
    ∃ v' w', (Builtin.append_ #[t, t] ty #[.slice A k k, src]).run P w = .ok v' w' ∧ w'.ownsRow base e size v' (k + m) (xs ++ news) ∧ Below w.heap.size w w' ∧ v'.ownBlock = some w.heap.size := by
  obtain ⟨i, z, hi, hz, hsize, hb, hzs⟩ := E.hi
  subst hsize
  obtain ⟨hl, X, c, rfl, hnc, hr⟩ := hr
  obtain ⟨b, off, rfl, _, hc⟩ := hr hm0
  obtain ⟨hlo, A', c', h8, _, hrd⟩ := hold
  injection h8 with h8 _ _
  subst h8
  have hkm : (k + m) * i.bytes ≤ 1048576 * i.bytes := Nat.mul_le_mul_right _ (by omega)
  have hmm : m * i.bytes ≤ 1048576 * i.bytes := Nat.mul_le_mul_right _ (by omega)
  have hlen : (xs ++ news).length = (k + m) * i.size := by rw [List.length_append, hlo, hl, Nat.add_mul]
  have hal : ∀ o, Below w.heap.size w (w.drew.alloc o) := fun o => ⟨rfl, rfl, rfl, by simp, fun j hj => by
    simp only [World.alloc, World.drew]
    rw [Array.getElem?_push_lt hj, Array.getElem?_eq_getElem hj]⟩
  have grown : ∀ old : Nat, (w.drew.alloc (.cells (xs.toArray ++ news.toArray ++ Builtin.zeroCells z.cells (grownCap w (k + m) old e - (k + m))) e)).ownsRow base e i.size (.slice (some ⟨w.heap.size, 0, none⟩) (k + m) (grownCap w (k + m) old e)) (k + m) (xs ++ news) := fun old => by
    have hge := grownCap_ge w (k + m) old e
    have hcm : grownCap w (k + m) old e ≤ maxLen := grownCap_le_maxLen w (k + m) old e (by simp only [maxLen]; omega)
    refine ⟨hlen, .inr ⟨w.heap.size, _, _, rfl, hbase, heap_alloc_new w.drew _, hge, hcm, ?_, ?_⟩⟩
    · simp only [Array.size_append, List.size_toArray, size_zeroCells, hzs, hlo, hl, ← Nat.add_mul]
      congr 1
      omega
    · simp only [Array.toList_append, List.append_assoc]
      rw [← List.append_assoc, ← hlen]
      exact List.take_left
  rcases A with _ | ad
  · have hk0 : k = 0 := by
      rcases Nat.eq_zero_or_pos k with h | h
      · exact h
      · obtain ⟨_, _, h9, _⟩ := hrd h; cases h9
    subst hk0
    have hx : xs = [] := List.eq_nil_of_length_eq_zero (by simpa using hlo)
    subst hx
    have h7 := run_append_nil (P := P) w t ty e i z E.ht hi hz ⟨b, off, none⟩ m c news hl (fun j u hu => by rw [Addr.add_lit]; exact hc j u hu) hm0 (by omega) (by omega)
    have hg := grown 0
    simp only [Nat.zero_add, List.nil_append, Array.empty_append] at hg ⊢
    exact ⟨_, _, h7, hg, hal _, rfl⟩
  · have holds : ∀ j u, xs[j]? = some u → w.cell? (ad.add j) = some u := fun j u hu => by
      rcases Nat.eq_zero_or_pos k with h | h
      · subst h
        have hx : xs = [] := List.eq_nil_of_length_eq_zero (by simpa using hlo)
        subst hx
        simp at hu
      · obtain ⟨b', off', h9, _, h10⟩ := hrd h
        injection h9 with h9
        subst h9
        rw [Addr.add_lit]
        exact h10 j u hu
    have h7 := run_append_grow (P := P) w t ty e i z E.ht hi hz ad k k xs hlo holds ⟨b, off, none⟩ m c news hl (fun j u hu => by rw [Addr.add_lit]; exact hc j u hu) (by omega) (by omega) (growslice_fits (by omega) (by omega))
    exact ⟨_, _, h7, grown k, hal _, rfl⟩
end
theorem rd_clip {w : World} {B size n c : Nat} {A : Option Addr} {xs : List Value} (h : Rd w B size (.slice A n c) n xs) : Rd w B size (.slice A n n) n xs := by
  obtain ⟨hl, A', c', h8, _, hrd⟩ := h
  injection h8 with h8 _ _
  subst h8
  exact ⟨hl, A, n, rfl, Nat.le_refl _, hrd⟩
section
variable {P : Program} {n : Nat} {σ : Sg} {L : List Oper} {cls : List (List Nat)} {alc : List Nat} {val : Nat → Value} {a : Act} {w1 : World} {i : Nat} {Q : Exit → Act → World → Prop}
theorem hs_grow {Φ : Nat → (Nat → Value) → World → Prop} {d ty t e size bytes base B B' mm k : Nat} {s x : Operand} {pos : String} {af : Array Edge} {A : Option Addr} (E : Elem P t e size bytes) {src : Value} {xs news : List Value} (ha : Env n σ a) (ho : nthO L i = some ⟨some d, .call { callee := .builtin .append, args := #[s, x], argTypes := #[t, t] }, ty, pos, af, none⟩) (hs : evS σ s = some (.slice A k k)) (hx : evS σ x = some src)
    (hold : Rd w1 B' size (.slice A k k) k xs) (hr : Rd w1 B size src mm news) (hm0 : 0 < mm) (hm : k + mm ≤ 1048576) (hby : Nat.ble bytes 1048576 = true) (hbase : base ≤ w1.heap.size) (halc : memB alc i = false)
    (hΦ : ∀ v' w', w'.ownsRow base e size v' (k + mm) (xs ++ news) → v'.ownBlock = some w1.heap.size → Φ i (res (upd val i v') i (clsAt cls i)) w') : wpOp P L.toArray Q i (HK L cls alc Φ i val a w1) a w1 := by
  obtain ⟨v', w', h2, h3, h4, h5⟩ := run_grow (P := P) (ty := ty) (base := base) E hold hr hm0 hm (by simpa [Nat.ble_eq] using hby) hbase
  exact hs_run ho rfl (run_append_call rfl (ha.eval hs) (ha.eval hx) h2) h4 (hΦ v' w' h3 h5) fun h => by rw [memB_mem.2 h] at halc; cases halc
end
/-- a run that ends as code does -/
theorem EXI.of {n : Nat} {Q : Exit → Act → World → Prop} {e : Exit} {σ : Sg} {w : World} (h : EX n Q e σ w) : EXI n [] Q e σ w := fun a ha => h a ha.e
end Go.Proofs.Ytmaiiigijjfjfaa
set_option linter.unusedVariables false
set_option linter.unusedSimpArgs false
namespace Go.Proofs.Ytmaiiigijjfjfaa
open Go Go.RowKit
def optN (c : Case) (pre : List Int) : Nat := (c.clues.getD pre.length []).length
/-- the possible courses that begin with some numbers; d: how many clues are left -/
def crsP (c : Case) : Nat → List Int → List (List Int)
  | 0, pre => if fitsS c pre = true then [pre] else []
  | d + 1, pre => if fitsS c pre = true then (List.range (optN c pre)).flatMap fun k => crsP c d (pre ++ [((k : Nat) : Int)]) else []
def coursesL (c : Case) : List (List Int) := crsP c c.clues.length []
theorem crsP_bad {c : Case} {d : Nat} {pre : List Int} (h : fitsS c pre = false) : crsP c d pre = [] := by cases d <;> simp [crsP, h]
theorem crsP_last {c : Case} {pre : List Int} (h : fitsS c pre = true) : crsP c 0 pre = [pre] := by simp [crsP, h]
theorem crsP_more {c : Case} {d : Nat} {pre : List Int} (h : fitsS c pre = true) : crsP c (d + 1) pre = (List.range (optN c pre)).flatMap fun k => crsP c d (pre ++ [((k : Nat) : Int)]) := by simp [crsP, h]
/-- a part of what comes is a part of all -/
theorem flat_part {α : Type} {f : Nat → List α} {p : List α} {k n : Nat} (hk : k < n) (hp : p <+: f k) : (List.range k).flatMap f ++ p <+: (List.range n).flatMap f := by
  obtain ⟨m, rfl⟩ : ∃ m, n = k + 1 + m := ⟨n - (k + 1), by omega⟩
  obtain ⟨q, hq⟩ := hp
  have h1 : (List.range (k + 1 + m)).flatMap f = (List.range (k + 1)).flatMap f ++ ((List.range m).map fun j => k + 1 + j).flatMap f := by
    rw [List.range_add, List.flatMap_append]
  rw [h1, range_flat, ← hq]
  exact ⟨q ++ ((List.range m).map fun j => k + 1 + j).flatMap f, by simp [List.append_assoc]⟩
theorem inCourse_more {c : Case} {pre : List Int} (h : inCourse c pre) {k : Nat} (hp : pre.length < c.clues.length) (hk : k < optN c pre) : inCourse c (pre ++ [((k : Nat) : Int)]) := by
  refine ⟨by simp; omega, fun i hi => ?_⟩
  simp only [List.length_append, List.length_cons, List.length_nil] at hi
  by_cases e : i < pre.length
  · rw [show (pre ++ [((k : Nat) : Int)]).getD i 0 = pre.getD i 0 by simp [List.getElem?_append, e]]
    exact h.2 i e
  · obtain rfl : i = pre.length := by omega
    rw [show (pre ++ [((k : Nat) : Int)]).getD pre.length 0 = ((k : Nat) : Int) by simp]
    unfold optN at hk
    omega
theorem inCourse_nil (c : Case) : inCourse c [] := ⟨Nat.zero_le _, fun i hi => absurd hi (by simp)⟩
/-! ### How many -/
def prodTo (c : Case) : Nat → Nat
  | 0 => 1
  | k + 1 => prodTo c k * (c.clues.getD k []).length
def manyC (c : Case) : Nat := prodTo c c.clues.length
theorem prodTo_mono {c : Case} (h : ∀ i, i < c.clues.length → 1 ≤ (c.clues.getD i []).length) {k : Nat} : ∀ {j : Nat}, k + j ≤ c.clues.length → prodTo c k ≤ prodTo c (k + j)
  | 0, _ => Nat.le_refl _
  | j + 1, hj => by
    have ih := prodTo_mono h (k := k) (j := j) (by omega)
    have h1 := h (k + j) (by omega)
    rw [show k + (j + 1) = k + j + 1 by omega, prodTo]
    exact Nat.le_trans ih (Nat.le_mul_of_pos_right _ h1)
theorem many_big {c : Case} (h : ∀ i, i < c.clues.length → 1 ≤ (c.clues.getD i []).length) {k : Nat} (hk : k ≤ c.clues.length) (hb : 512 < prodTo c k) : 512 < manyC c := by
  have := prodTo_mono h (k := k) (j := c.clues.length - k) (by omega)
  rw [show k + (c.clues.length - k) = c.clues.length by omega] at this
  unfold manyC
  omega
def coursesErr (c : Case) : Int := if caseB c = false then 2 else if 512 < manyC c then 5 else 0
/-- a row of integers of one's own, wherever it lies -/
def okRow (x : It) (W : World) : Prop := W.ownsRow 0 3 1 x.2 x.1.length (ints x.1)
/-- what an inner function of courses reads -/
structure AtF (c : Case) (vc vl : Value) (vs : List Value) (n0 B gc gy gf l : Nat) (W : World) : Prop where
  cb : Blk W gc 25 #[.int .i64 c.events, vc, vl]
  rd : RdCase W B vc vl c vs
  y : Blk W gy 111 #[.func (.yield l) #[] #[]]
  f : Blk W gf 111 #[.func (.func 68) #[] #[.pointer (some ⟨gc, 0, none⟩), .pointer (some ⟨gy, 0, none⟩), .pointer (some ⟨gf, 0, none⟩)]]
  n0 : n0 ≤ W.heap.size
theorem AtF.keep {c : Case} {vc vl : Value} {vs : List Value} {n0 B gc gy gf l : Nat} {W W' : World} {S : List Nat} (h : AtF c vc vl vs n0 B gc gy gf l W) (hB : B ≤ n0) (h1 : memB S 25 = false) (h2 : memB S 111 = false) (hk : Kp n0 S W W') : AtF c vc vl vs n0 B gc gy gf l W' :=
  ⟨hk.blk _ _ _ h.cb h1, h.rd.below (hk.below.mono hB), hk.blk _ _ _ h.y h2, hk.blk _ _ _ h.f h2, Nat.le_trans h.n0 hk.size⟩
theorem AtF.below {c : Case} {vc vl : Value} {vs : List Value} {n0 B gc gy gf l : Nat} {W W' : World} (h : AtF c vc vl vs n0 B gc gy gf l W) (hB : B ≤ n0) (hb : Below W.heap.size W W') : AtF c vc vl vs n0 B gc gy gf l W' :=
  h.keep (S := []) hB rfl rfl (Kp.of_below hb h.n0)
theorem own_keep {w w' : World} {base e size n : Nat} {v : Value} {xs : List Value} {row : Option Nat} (h : w.ownsRow base e size v n xs) (hg : w.grownBy w' row) (hr : ∀ r, row = some r → ∃ o : Obj, w.heap[r]? = some o ∧ o.isCells = false) : w'.ownsRow base e size v n xs := by
  refine h.kept hg ?_
  obtain ⟨_, ⟨rfl, _⟩ | ⟨g, cap, cur, rfl, _, hk, _⟩⟩ := h
  · exact .inl rfl
  · refine .inr fun h' => ?_
    obtain ⟨o, h1, h2⟩ := hr g (by simpa [Value.ownBlock] using h'.symm)
    rw [hk] at h1
    injection h1 with h1
    subst h1
    cases h2
theorem blk_keep {w w' : World} {g T : Nat} {cs : Array Value} {row : Option Nat} (h : Blk w g T cs) (hg : w.grownBy w' row) (hr : ∀ r, row = some r → ∃ o : Obj, w.heap[r]? = some o ∧ o.isCells = false) : Blk w' g T cs := h.grown hg fun e => by
  obtain ⟨o, h1, h2⟩ := hr g e.symm
  unfold Blk at h
  rw [h] at h1
  injection h1 with h1
  subst h1
  cases h2
theorem okRow_from (B : Nat) : OwnFrom B okRow := fun x A C row h hg hr => own_keep h hg fun r e => (hr r e).2
theorem EXI.seqw {P : Program} {n : Nat} {ds : List Deferred} {Q : Exit → Act → World → Prop} {σ : Sg} {w : World} {y : Code} (h : ECI none 0 P n ds y Q σ w) : EXI n ds (Exit.then (y.wp P Q) Q) .normal σ w := fun a ha => wpIn_wide.1 (h a ha)
theorem EX.doneM {P : Program} {n : Nat} {σ : Sg} {w : World} {fn : Func} {R : Ending → World → Prop} {v : Value} (hr : ∀ a, Env n σ a → (results fn a.tmps).run P w = .ok v w) (h : R (.returned v) w) : EX n (bodyPostM Fence.wide 0 P fn R) .ret σ w := fun a ha => by
  show LeavesInM Fence.wide 0 P fn a.tmps R a.defers .returning w
  rw [ha.defers]
  exact ⟨v, hr a ha, h⟩
end Go.Proofs.Ytmaiiigijjfjfaa
set_option linter.unusedVariables false
set_option linter.unusedSimpArgs false
namespace Go.Proofs.Ytmaiiigijjfjfaa
open Go Go.RowKit
section
variable {n : Nat} {σ : Sg} {w : World} {dst : Option Tmp} {ty : TypeId} {pos : String} {af : Array Edge} {g : Option (Nat × Bool)} {x y z : Operand} {at' : Array TypeId}
theorem ld_111 {b o : Nat} {v0 : Value} (hx : evS σ x = some (.pointer (some ⟨b, o, none⟩))) (c0 : w.cell? ⟨b, o, none⟩ = some v0) : Gives Try.prog n σ w ⟨dst, .load 111 x, ty, pos, af, g⟩ (v0) := fun a ha => by
  simp only [execOp, ha.eval hx]
  simp [go_sem, c0]
theorem cl_69 {x0 : Operand} {v0 : Value} (h0 : evS σ x0 = some v0) (a : Act) (ha : Env n σ a) : (execOp a.eval ⟨dst, .call { callee := .value (.func 69), args := #[x0], argTypes := at' }, ty, pos, af, g⟩).run Try.prog w = .ok (.enter 69 #[v0]) w := by
  simp only [execOp, resolve, List.map_toArray, List.map_cons, List.map_nil, ha.eval h0]
  simp [go_sem, Act.eval]
theorem clv_68_0_1_3 {xf x0 : Operand} {v0 p0 p1 p2 : Value} (hf : evS σ xf = some (.func (.func 68) #[] #[p0, p1, p2])) (h0 : evS σ x0 = some v0) (a : Act) (ha : Env n σ a) : (execOp a.eval ⟨dst, .call { callee := .value xf, args := #[x0], argTypes := at' }, ty, pos, af, g⟩).run Try.prog w = .ok (.enter 68 #[v0, p0, p1, p2]) w := by
  simp only [execOp, resolve, List.map_toArray, List.map_cons, List.map_nil, ha.eval hf, ha.eval h0]
  simp [go_sem, Deferred.ofValue]
theorem mf_67_0_1 {x0 : Operand} {v0 : Value} (h0 : evS σ x0 = some v0) : Gives Try.prog n σ w ⟨dst, .makeFunc (.func 67) #[] #[x0], ty, pos, af, g⟩ (.func (.func 67) #[] #[v0]) := fun a ha => by
  simp only [execOp, List.map_toArray, List.map_cons, List.map_nil, ha.eval h0]
  simp [go_sem]
end
end Go.Proofs.Ytmaiiigijjfjfaa
