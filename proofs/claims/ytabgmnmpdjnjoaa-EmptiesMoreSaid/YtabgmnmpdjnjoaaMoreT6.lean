/- X27, ExX28, X28, ExX29, X29, X19, X30: what EmptiesMoreProof needs of them (merged by trimpack.py). -/
import Derived.Test.YtabgmnmpdjnjoaaMoreT5
set_option linter.unusedVariables false
set_option linter.unusedSimpArgs false
namespace Go.Proofs.Ytabgmnmpdjnjoaa
open Go Go.RowKit
def grB (nt : Net) (mv : List Int) (i : Nat) : List Es := if 0 < (extL nt mv).getD i 0 then [⟨nt.ports.length, i, 0, -1, false⟩] else []
theorem grL_two (nt : Net) (mv : List Int) (k : Nat) : grL nt mv (k + 1) = grL nt mv k ++ ([⟨k, nt.ports.length, 0, -1, false⟩] ++ grB nt mv k) := grL_succ k
def RgC (S : List Es) (N r : Nat) (l b : List Int) (at_ : Int) : Prop := ∃ τ ρ, RgI S N r 0 l b τ ρ ∧ (∀ v, v < N → ρ v ≤ r) ∧ (0 < r → ∃ a : Nat, at_ = (a : Int) ∧ a < N ∧ ρ a = r)
theorem RgC.first {S : List Es} {N : Nat} : RgC S N 0 (List.replicate N 0) (List.replicate N 0) (-1) := ⟨_, _, RgI.start, fun _ _ => Nat.le_refl _, fun h => absurd h (Nat.lt_irrefl _)⟩
theorem RgC.begin {S : List Es} {N r : Nat} {l b : List Int} {a : Int} (h : RgC S N r l b a) : RgE S N r 0 l b (-1) := by
  obtain ⟨τ, ρ, h1, h2, _⟩ := h
  exact ⟨τ, ρ, h1, .inl ⟨rfl, h2⟩⟩
theorem RgE.nextC {S : List Es} {N r a : Nat} {l b : List Int} (h : RgE S N r S.length l b (a : Int)) : RgC S N (r + 1) l b (a : Int) := by
  obtain ⟨τ, ρ, h1, ⟨h2, _⟩ | ⟨a', h2, h3, h4⟩⟩ := h
  · omega
  · exact ⟨τ, ρ, h1.round, h1.rm, fun _ => ⟨a', h2, h3, h4⟩⟩
theorem ringL_snoc {S : List Es} {cs : List Nat} {a : Nat} : ringL S (cs ++ [((a : Nat) : Int).toNat]) = ringL S cs ++ (if 0 ≤ (esAt S a).way then [esAt S a] else []) := by
  unfold ringL
  rw [Int.toNat_natCast, List.map_append, List.filter_append]
  congr 1
  simp only [List.map_cons, List.map_nil, List.filter_cons, List.filter_nil]
  by_cases h : 0 ≤ (esAt S a).way
  · rw [if_pos h, if_pos (decide_eq_true h)]
  · rw [if_neg h, if_neg (by simpa using h)]
theorem ringL_len {S : List Es} (cs : List Nat) : (ringL S cs).length ≤ cs.length := by
  unfold ringL
  exact Nat.le_trans (List.length_filter_le _ _) (by simp)
theorem ring_len_bd {S : List Es} {N k m first : Nat} {l b : List Int} (hk : k < m) (hb : itP (predE S b) m first = first) (hnr : ∀ k', 0 < k' → k' ≤ k → itP (predE S b) k' first ≠ first) (h : OnRing S N l b first) : k < N := by
  have hnd : ((List.range (k + 1)).map fun x => itP (predE S b) x first).Nodup := by
    refine List.pairwise_iff_getElem.2 fun x y hx hy hxy => ?_
    simp only [List.getElem_map, List.getElem_range]
    simp only [List.length_map, List.length_range] at hx hy
    intro e
    -- the first node comes back after m0 steps; m0 - y + x of them would bring it back earlier
    have hper : ∀ j, itP (predE S b) (j + (y - x)) (itP (predE S b) x first) = itP (predE S b) j (itP (predE S b) x first) := fun j => by
      rw [itP_add, ← itP_add (predE S b) first x (y - x), show y - x + x = y by omega, ← e]
    have hq : ∀ q, itP (predE S b) (m - x + q * (y - x)) (itP (predE S b) x first) = first := fun q => by
      induction q with
      | zero => rw [Nat.zero_mul, Nat.add_zero, ← itP_add, show m - x + x = m by omega]; exact hb
      | succ q ih => rw [Nat.succ_mul, ← Nat.add_assoc, hper]; exact ih
    -- go back by whole rounds
    have hd : ∀ z, itP (predE S b) z (itP (predE S b) x first) = itP (predE S b) (z % (y - x)) (itP (predE S b) x first) := fun z => by
      induction z using Nat.strongRecOn with
      | ind z ih =>
        by_cases hz : z < y - x
        · rw [Nat.mod_eq_of_lt hz]
        · have h1 := ih (z - (y - x)) (by omega)
          rw [← hper (z - (y - x)), show z - (y - x) + (y - x) = z by omega] at h1
          rw [h1, Nat.mod_eq_sub_mod (by omega : z ≥ y - x)]
    have h3 := hq 0
    rw [Nat.zero_mul, Nat.add_zero, hd, ← itP_add] at h3
    have h4 : (m - x) % (y - x) < y - x := Nat.mod_lt _ (by omega)
    by_cases h5 : (m - x) % (y - x) + x = 0
    · have hx0 : x = 0 := by omega
      subst hx0
      exact hnr y (by omega) (by omega) e.symm
    · exact hnr _ (by omega) (by omega) h3
  have := pigeon N _ hnd fun x hx => by
    obtain ⟨j, _, rfl⟩ := List.mem_map.1 hx
    exact (h.node j).1
  simp at this
  omega
theorem all_pos {nt : Net} {mv : List Int} (h : 1 ≤ nt.ports.length) : 0 < (allS nt mv).length := by
  obtain ⟨k, hk⟩ : ∃ k, nt.ports.length = k + 1 := ⟨_, (Nat.sub_add_cancel h).symm⟩
  unfold allS
  rw [hk, grL_two, List.length_append, List.length_append, List.length_append]
  simp only [List.length_cons, List.length_nil]
  omega
theorem own_end_cells {w : World} {base be n c k : Nat} {S : List Es} (h : w.ownsRow base 128 3 (.slice (some ⟨be, 0, none⟩) n c) n (endsC S)) (hk : k < S.length) : w.cell? ⟨be, 0 + k * 3, none⟩ = some (.int .i64 ((esAt S k).fr : Nat)) ∧ w.cell? ⟨be, 0 + k * 3 + 1, none⟩ = some (.int .i64 ((esAt S k).to : Nat)) ∧ w.cell? ⟨be, 0 + k * 3 + 2, none⟩ = some (.int .i64 (esAt S k).cost) := by
  obtain ⟨b, o, e, _, h0, h1, h2⟩ := ends_cells S k hk _ _ _ _ _ (Rd.of_own h)
  injection e with e
  injection e with e1 e2
  subst e1
  subst e2
  exact ⟨h0, h1, h2⟩
theorem own_step_cells {w : World} {base be n c k : Nat} {S : List Es} (h : w.ownsRow base 89 2 (.slice (some ⟨be, 0, none⟩) n c) n (stepsC S)) (hk : k < S.length) : w.cell? ⟨be, 0 + k * 2, none⟩ = some (.int .i64 (esAt S k).way) ∧ w.cell? ⟨be, 0 + k * 2 + 1, none⟩ = some (.bool (esAt S k).back) := by
  obtain ⟨b, o, e, _, h0, h1⟩ := steps_cells S k hk _ _ _ _ _ (Rd.of_own h)
  injection e with e
  injection e with e1 e2
  subst e1
  subst e2
  exact ⟨h0, h1⟩
theorem own_bx {w w' : World} {base e size n g : Nat} {v : Value} {xs : List Value} (h : w.ownsRow base e size v n xs) (hn : ∀ k, v.ownBlock = some k → k ≠ g) (hg : w.grownBy w' (some g)) : w'.ownsRow base e size v n xs :=
  h.kept hg (by
    rcases h1 : v.ownBlock with _ | k
    · exact .inl rfl
    · refine .inr fun h' => ?_
      injection h' with h'
      exact hn k h1 h')
theorem touch_cell {w w1 : World} {gs : List Nat} {g o : Nat} (h : Touch w w1 gs) (hn : g ∉ gs) (hlt : g < w.heap.size) : w1.cell? ⟨g, o, none⟩ = w.cell? ⟨g, o, none⟩ := by
  unfold World.cell?
  rw [h.block g hlt hn]
set_option maxHeartbeats 4000000 in
set_option maxRecDepth 100000 in
theorem rring_any (nt : Net) (mv : List Int) (vp vw vm : Value) (w : World) (B : Nat) (hr : RdNet w B vp vw nt) (hrm : Rd w B 1 vm mv.length (ints mv)) (hB : B ≤ w.heap.size) (hv : netB nt = true) (ha : aftErr nt mv = 0) :
    Calls Try.prog 46 #[.agg #[vp, vw], vm] w fun e w' => (∃ v R, e = .returned v ∧ RingR nt mv R ∧ R.length ≤ 61 ∧ w'.ownsRow w.heap.size 89 2 v R.length (stepsC R)) ∧ Below w.heap.size w w' := by
  obtain ⟨Ap, cp_, rfl, _⟩ := hr.ports.shape
  obtain ⟨Aw, cw_, rfl, _⟩ := hr.ways.shape
  obtain ⟨Am, cm_, rfl, _⟩ := hrm.shape
  obtain ⟨⟨hp1, hp60⟩, hw300, hvp, hvw⟩ := netB_ok hv
  obtain ⟨hml, hok, _⟩ := aft_parts ha
  have hbw := Below.refl w.heap.size w
  refine EC.enter 168 Try.func46 rfl rfl rfl ?_
  refine EC.seq ?_
  refine EC.region ?_
  refine EL.newP (bx_25 rfl) rfl ?_
  intro g1 w1 q1 hb1 hg1 hl1
  have bhbw_1 := Nat.le_trans hbw.size hg1
  replace hbw := Below.on hbw hb1 hbw.size
  clear hb1 hg1 hl1
  refine EL.val (x_assign rfl) rfl ?_
  refine EL.nil ?_
  refine EX.seq ?_
  refine EC.seq ?_
  refine EC.region ?_
  refine EL.val (ld_25 rfl (q1.at (j := 0) rfl) (q1.at (j := 1) rfl)) rfl ?_
  refine EL.val (x_move rfl) rfl ?_
  refine EL.call (cl_70 rfl rfl) rfl (rsteps_any nt mv _ _ _ _ B (hr.below (hbw.mono hB)) (hrm.below (hbw.mono hB)) (Nat.le_trans hB hbw.size) hv hml) ?_
  rintro e w2 ⟨⟨vs_, ve_, rfl, hos, hoe⟩, hc2⟩
  refine ⟨_, rfl, ?_⟩
  replace hos := own_less hos hbw.size
  replace hoe := own_less hoe hbw.size
  obtain ⟨S0, eS0⟩ : ∃ z, z = esL nt mv nt.ways.length := ⟨_, rfl⟩
  rw [← eS0] at hos hoe
  obtain ⟨As0, cs0_, rfl, _⟩ := (Rd.of_own hos).shape
  obtain ⟨Ae0, ce0_, rfl, _⟩ := (Rd.of_own hoe).shape
  replace q1 := q1.below hc2 q1.lt
  replace hbw := Below.on hbw hc2 hbw.size
  clear hc2
  refine EL.val (x_move rfl) rfl ?_
  refine EL.val (x_extract rfl rfl) rfl ?_
  refine EL.val (x_extract rfl rfl) rfl ?_
  refine EL.val (x_assign rfl) rfl ?_
  refine EL.val (x_assign rfl) rfl ?_
  refine EL.nil ?_
  refine EX.seq ?_
  refine EC.seq ?_
  have lt_1 := q1.lt
  refine EC.regionP [[], [0], [0, 1], [], [], [3, 4], [0, 1, 2, 3, 4, 5], [0, 1, 2, 3, 4, 5, 6]] 6 [] (phi (fun i_ r => match i_ with | 0 => r 0 = .pointer (some ⟨g1, 0, none⟩) | 1 => r 1 = .slice Ap nt.ports.length cp_ | 2 => r 2 = .int .i64 (nt.ports.length : Nat) | 3 => r 3 = .agg #[.slice Ap nt.ports.length cp_, .slice Aw nt.ways.length cw_] | 4 => r 4 = .slice Am mv.length cm_ | _ => True) [(5, fun r w_ => ∃ v, r 5 = v ∧ w_.ownsRow w2.heap.size 3 1 v nt.ports.length (ints (extL nt mv)))]) (by kernel_rfl) rfl rfl (phi_cons mono_row (phi_nil)) (fun i_ hi_ => ?_) ?_
  · match i_, hi_ with
    | 0, _ =>
      intro val w1 a hb ha hd
      have ha := ha.sub (Sub.ins (d := 2) (Sub.nil _) rfl)
      exact hs_val ha rfl rfl (fa_25_0 rfl) rfl rfl
    | 1, _ =>
      intro val w1 a hb ha hd
      have e0 : val 0 = .pointer (some ⟨g1, 0, none⟩) := hd 0 (memB_mem.1 rfl)
      have ha := ha.sub (Sub.ins (d := 26) (Sub.nil _) (dep_get rfl e0))
      exact hs_val ha rfl rfl (ld_22 rfl ((q1.below hb q1.lt).at (j := 0) rfl)) rfl rfl
    | 2, _ =>
      intro val w1 a hb ha hd
      have e1 : val 1 = .slice Ap nt.ports.length cp_ := hd 1 (memB_mem.1 rfl)
      have ha := ha.sub (Sub.ins (d := 27) (Sub.nil _) (dep_get rfl e1))
      exact hs_val ha rfl rfl (ln_22 rfl) rfl rfl
    | 3, _ =>
      intro val w1 a hb ha hd
      have ha := ha.sub (Sub.ins (d := 2) (Sub.nil _) rfl)
      exact hs_val ha rfl rfl (ld_25 rfl ((q1.below hb q1.lt).at (j := 0) rfl) ((q1.below hb q1.lt).at (j := 1) rfl)) rfl rfl
    | 4, _ =>
      intro val w1 a hb ha hd
      have ha := ha.sub (Sub.ins (d := 1) (Sub.nil _) rfl)
      exact hs_val ha rfl rfl (x_move rfl) rfl rfl
    | 5, _ =>
      intro val w1 a hb ha hd
      have e3 : val 3 = .agg #[.slice Ap nt.ports.length cp_, .slice Aw nt.ways.length cw_] := hd 3 (memB_mem.1 rfl)
      have e4 : val 4 = .slice Am mv.length cm_ := hd 4 (memB_mem.1 rfl)
      have ha := ha.sub (Sub.ins (d := 30) (Sub.ins (d := 29) (Sub.nil _) (dep_get rfl e3)) (dep_get rfl e4))
      refine hs_call ha rfl rfl (cl_48 rfl rfl) (rextra_any nt mv _ _ _ w1 B (hr.below ((Below.on hbw hb hbw.size).mono hB)) (hrm.below ((Below.on hbw hb hbw.size).mono hB)) (Nat.le_trans hB (Below.on hbw hb hbw.size).size) hv hml hok) rfl ?_
      rintro e w' ⟨⟨vx, rfl, hox⟩, hb'⟩
      exact ⟨_, rfl, hb', ⟨_, rfl, own_less hox hb.size⟩⟩
    | k + 6, h => exact absurd h (by omega)
  · intro val wR2 hb halc hd
    have e0 : val 0 = .pointer (some ⟨g1, 0, none⟩) := hd 0 (by omega)
    have e1 : val 1 = .slice Ap nt.ports.length cp_ := hd 1 (by omega)
    have e2 : val 2 = .int .i64 (nt.ports.length : Nat) := hd 2 (by omega)
    have e3 : val 3 = .agg #[.slice Ap nt.ports.length cp_, .slice Aw nt.ways.length cw_] := hd 3 (by omega)
    have e4 : val 4 = .slice Am mv.length cm_ := hd 4 (by omega)
    obtain ⟨v5_, e5, hox⟩ := hd 5 (by omega)
    refine EL.ends (cs := [.pointer (some ⟨g1, 0, none⟩), .slice Ap nt.ports.length cp_, .int .i64 (nt.ports.length : Nat), .agg #[.slice Ap nt.ports.length cp_, .slice Aw nt.ways.length cw_], .slice Am mv.length cm_, v5_]) ⟨e0, e1, e2, e3, e4, e5, trivial⟩ rfl ?_
    replace q1 := q1.below hb q1.lt
    replace hos := own_below hos hb (Nat.le_refl _)
    replace hoe := own_below hoe hb (Nat.le_refl _)
    replace hbw := Below.on hbw hb hbw.size
    clear hb
    obtain ⟨Ax, cx, rfl, _⟩ := (Rd.of_own hox).shape
    obtain ⟨gx, rfl⟩ := own_slice hox (by omega)
    refine EL.val (x_assign rfl) rfl ?_
    refine EL.val (x_assign rfl) rfl ?_
    refine EL.nil ?_
    refine EX.seq ?_
    refine EC.seq ?_
    refine EC.seq ?_
    refine EC.region ?_
    refine EL.val (x_assign rfl) rfl ?_
    refine EL.nil ?_
    refine EX.seq ?_
    refine EC.block ?_
    replace hox := own_less hox (Nat.zero_le _)
    refine EC.loopD [5, 6, 9, 32, 33, 34, 35, 36, 37, 38, 39, 40, 41, 42, 43, 44, 45, 46, 47, 48, 49, 50, 51, 52, 53, 54, 55, 56, 57, 58, 59, 60, 61] (fun x : Nat × Value × Value => [(5, x.2.1), (6, x.2.2), (9, .int .i64 (x.1 : Nat))]) (fun x W => x.1 ≤ nt.ports.length ∧ W.ownsRow w.heap.size 89 2 x.2.1 (S0 ++ grL nt mv x.1).length (stepsC (S0 ++ grL nt mv x.1)) ∧ W.ownsRow w.heap.size 128 3 x.2.2 (S0 ++ grL nt mv x.1).length (endsC (S0 ++ grL nt mv x.1)) ∧ W.ownsRow 0 3 1 (.slice (some ⟨gx, 0, none⟩) nt.ports.length cx) nt.ports.length (ints (extL nt mv)) ∧ Blk W g1 25 #[.slice Ap nt.ports.length cp_, .slice Aw nt.ways.length cw_] ∧ Below w.heap.size w W) (fun x => nt.ports.length - x.1) (0, .slice As0 S0.length cs0_, .slice Ae0 S0.length ce0_) ⟨Nat.zero_le _, (by show World.ownsRow _ _ _ _ _ (S0 ++ []).length (stepsC (S0 ++ [])); rw [List.append_nil]; exact hos), (by show World.ownsRow _ _ _ _ _ (S0 ++ []).length (endsC (S0 ++ [])); rw [List.append_nil]; exact hoe), hox, q1, hbw⟩ ⟨rfl, rfl, rfl, trivial⟩ ?_
    clear q1 hos hoe hox hbw
    rintro ⟨x, vs_, ve_⟩ wx ⟨hx, hos, hoe, hox, q2x, hbw⟩
    dsimp only at hx hos hoe
    obtain ⟨S1, eS1⟩ : ∃ z, z = S0 ++ grL nt mv x := ⟨_, rfl⟩
    rw [← eS1] at hos hoe
    obtain ⟨As, cs_, rfl, _⟩ := (Rd.of_own hos).shape
    obtain ⟨Ae, ce_, rfl, _⟩ := (Rd.of_own hoe).shape
    by_cases hlt : x < nt.ports.length
    ·
      have hgl := grL_len (nt := nt) (mv := mv) x
      have hsl := esL_len (nt := nt) (mv := mv) nt.ways.length
      rw [← eS0] at hsl
      have hS1 : S1.length ≤ 720 := by rw [eS1, List.length_append]; omega
      have hs2 : S0 ++ grL nt mv (x + 1) = (S1 ++ [⟨x, nt.ports.length, 0, -1, false⟩]) ++ grB nt mv x := by rw [eS1, grL_two]; simp
      have hxl : (extL nt mv).length = nt.ports.length := extTo_len _
      have rc := own_int_cell hox (k := x) (by omega)
      have eB : grB nt mv x = if 0 < (extL nt mv).getD x 0 then [⟨nt.ports.length, x, 0, -1, false⟩] else [] := rfl
      obtain ⟨S3, eS3⟩ : ∃ z, z = grB nt mv x := ⟨_, rfl⟩
      rw [← eS3] at hs2 eB
      refine EC.seq ?_
      refine EC.seq ?_
      refine EC.region ?_
      refine EL.val (x_move rfl) rfl ?_
      refine EL.val (x_move rfl) rfl ?_
      refine EL.val (x_lss rfl rfl (decide_eq_true (show (((x : Nat) : Int) < ((nt.ports.length : Nat) : Int)) by omega))) rfl ?_
      refine EL.nil ?_
      refine EX.seq ?_
      refine EC.yes rfl ?_
      refine EC.skip ?_
      refine EX.seq ?_
      refine EC.seq ?_
      refine EC.block ?_
      refine EC.seq ?_
      refine EC.region ?_
      refine EL.val (x_move rfl) rfl ?_
      refine EL.val (bd_89_0 rfl) rfl ?_
      refine EL.newS (bs_85_1 rfl) rfl ?_
      intro g3 w3 q3 hb3 hg3 hl3
      have n1_3 : g1 ≠ g3 := Nat.ne_of_lt (Nat.lt_of_lt_of_le q2x.lt hg3)
      have bhbw_3 := Nat.le_trans hbw.size hg3
      replace q2x := q2x.below hb3 q2x.lt
      replace hos := own_below hos hb3 (Nat.le_refl _)
      replace hoe := own_below hoe hb3 (Nat.le_refl _)
      replace hox := own_below hox hb3 (Nat.le_refl _)
      replace hbw := Below.on hbw hb3 hbw.size
      clear hb3 hg3 hl3
      refine EL.push step_elem rfl rfl hos (rd_one (l := [.int .i64 (-1), .bool false]) q3 rfl) (by intro u hu; simp only [List.mem_cons, List.not_mem_nil, or_false] at hu; rcases hu with rfl | rfl <;> rfl) (by omega) rfl hbw.size rfl ?_
      intro v4 w4 ho2 hgr hb_ hat
      replace hoe := own_grown hoe hos rfl hgr
      replace hox := own_grown hox hos rfl hgr
      replace q2x := blk_grown q2x hos rfl hgr
      replace hbw := hbw.trans hb_
      clear hos hgr hb_ hat
      have hos := ho2
      clear ho2
      obtain ⟨A4_, c4_, rfl, _⟩ := (Rd.of_own hos).shape
      refine EL.val (x_move rfl) rfl ?_
      refine EL.val (x_move rfl) rfl ?_
      refine EL.val (x_move rfl) rfl ?_
      refine EL.val (bd_128_0_1_2 rfl rfl rfl) rfl ?_
      refine EL.newS (bs_123_1 rfl) rfl ?_
      intro g5 w5 q5 hb5 hg5 hl5
      have n1_5 : g1 ≠ g5 := Nat.ne_of_lt (Nat.lt_of_lt_of_le q2x.lt hg5)
      have bhbw_5 := Nat.le_trans hbw.size hg5
      replace q2x := q2x.below hb5 q2x.lt
      replace hos := own_below hos hb5 (Nat.le_refl _)
      replace hoe := own_below hoe hb5 (Nat.le_refl _)
      replace hox := own_below hox hb5 (Nat.le_refl _)
      replace hbw := Below.on hbw hb5 hbw.size
      clear hb5 hg5 hl5
      refine EL.push end_elem rfl rfl hoe (rd_one (l := [.int .i64 (x : Nat), .int .i64 (nt.ports.length : Nat), .int .i64 0]) q5 rfl) (by intro u hu; simp only [List.mem_cons, List.not_mem_nil, or_false] at hu; rcases hu with rfl | rfl | rfl <;> rfl) (by omega) rfl hbw.size rfl ?_
      intro v6 w6 ho2 hgr hb_ hat
      replace hos := own_grown hos hoe rfl hgr
      replace hox := own_grown hox hoe rfl hgr
      replace q2x := blk_grown q2x hoe rfl hgr
      replace hbw := hbw.trans hb_
      clear hoe hgr hb_ hat
      have hoe := ho2
      clear ho2
      obtain ⟨A6_, c6_, rfl, _⟩ := (Rd.of_own hoe).shape
      refine EL.val (x_assign rfl) rfl ?_
      refine EL.val (x_assign rfl) rfl ?_
      refine EL.nil ?_
      refine EX.seq ?_
      refine EC.seq ?_
      refine EC.region ?_
      replace rc := own_int_cell hox (k := x) (by omega)
      refine EL.val (x_move rfl) rfl ?_
      refine EL.val (x_move rfl) rfl ?_
      refine EL.val (ix_29 rfl rfl hlt) rfl ?_
      refine EL.val (ld_3 rfl rc) rfl ?_
      by_cases hc0 : 0 < (extL nt mv).getD x 0
      ·
        rw [if_pos hc0] at eB
        refine EL.val (x_gtr (r := true) rfl rfl (decide_eq_true (by omega))) rfl ?_
        refine EL.nil ?_
        refine EX.seq ?_
        refine EC.yes rfl ?_
        refine EC.region ?_
        refine EL.val (x_move rfl) rfl ?_
        refine EL.val (bd_89_0 rfl) rfl ?_
        refine EL.newS (bs_85_1 rfl) rfl ?_
        intro g7 w7 q7 hb7 hg7 hl7
        have n1_7 : g1 ≠ g7 := Nat.ne_of_lt (Nat.lt_of_lt_of_le q2x.lt hg7)
        have bhbw_7 := Nat.le_trans hbw.size hg7
        replace q2x := q2x.below hb7 q2x.lt
        replace hos := own_below hos hb7 (Nat.le_refl _)
        replace hoe := own_below hoe hb7 (Nat.le_refl _)
        replace hox := own_below hox hb7 (Nat.le_refl _)
        replace hbw := Below.on hbw hb7 hbw.size
        clear hb7 hg7 hl7
        refine EL.push step_elem rfl rfl hos (rd_one (l := [.int .i64 (-1), .bool false]) q7 rfl) (by intro u hu; simp only [List.mem_cons, List.not_mem_nil, or_false] at hu; rcases hu with rfl | rfl <;> rfl) (by omega) rfl hbw.size rfl ?_
        intro v8 w8 ho2 hgr hb_ hat
        replace hoe := own_grown hoe hos rfl hgr
        replace hox := own_grown hox hos rfl hgr
        replace q2x := blk_grown q2x hos rfl hgr
        replace hbw := hbw.trans hb_
        clear hos hgr hb_ hat
        have hos := ho2
        clear ho2
        obtain ⟨A8_, c8_, rfl, _⟩ := (Rd.of_own hos).shape
        refine EL.val (x_move rfl) rfl ?_
        refine EL.val (x_move rfl) rfl ?_
        refine EL.val (x_move rfl) rfl ?_
        refine EL.val (bd_128_0_1_2 rfl rfl rfl) rfl ?_
        refine EL.newS (bs_123_1 rfl) rfl ?_
        intro g9 w9 q9 hb9 hg9 hl9
        have n1_9 : g1 ≠ g9 := Nat.ne_of_lt (Nat.lt_of_lt_of_le q2x.lt hg9)
        have bhbw_9 := Nat.le_trans hbw.size hg9
        replace q2x := q2x.below hb9 q2x.lt
        replace hos := own_below hos hb9 (Nat.le_refl _)
        replace hoe := own_below hoe hb9 (Nat.le_refl _)
        replace hox := own_below hox hb9 (Nat.le_refl _)
        replace hbw := Below.on hbw hb9 hbw.size
        clear hb9 hg9 hl9
        refine EL.push end_elem rfl rfl hoe (rd_one (l := [.int .i64 (nt.ports.length : Nat), .int .i64 (x : Nat), .int .i64 0]) q9 rfl) (by intro u hu; simp only [List.mem_cons, List.not_mem_nil, or_false] at hu; rcases hu with rfl | rfl | rfl <;> rfl) (by omega) rfl hbw.size rfl ?_
        intro v10 w10 ho2 hgr hb_ hat
        replace hos := own_grown hos hoe rfl hgr
        replace hox := own_grown hox hoe rfl hgr
        replace q2x := blk_grown q2x hoe rfl hgr
        replace hbw := hbw.trans hb_
        clear hoe hgr hb_ hat
        have hoe := ho2
        clear ho2
        obtain ⟨A10_, c10_, rfl, _⟩ := (Rd.of_own hoe).shape
        refine EL.val (x_assign rfl) rfl ?_
        refine EL.val (x_assign rfl) rfl ?_
        refine EL.nil ?_
        refine EX.blk ?_
        refine EX.seq ?_
        refine EC.region ?_
        refine EL.val (x_move rfl) rfl ?_
        refine EL.val (x_add rfl rfl (c := ((x + 1 : Nat) : Int)) ((IntWalk.i64_in _ ⟨by first | omega | (simp only; omega), by first | omega | (simp only; omega)⟩).trans (by first | omega | (simp only; omega)))) rfl ?_
        refine EL.val (x_assign rfl) rfl ?_
        refine EL.nil ?_
        refine EX.roundD (x + 1, _, _) ⟨rfl, rfl, rfl, trivial⟩ (by repeat first | with_reducible exact Sub.refl _ | refine sub_past rfl ?_ | exact Sub.refl _ | refine sub_del rfl ?_ | refine sub_insL_nil ?_) ⟨hlt, (by show World.ownsRow _ _ _ _ _ (S0 ++ grL nt mv (x + 1)).length (stepsC (S0 ++ grL nt mv (x + 1))); rw [hs2, eB, List.length_append, List.length_append, steps_push, steps_push]; exact hos), (by show World.ownsRow _ _ _ _ _ (S0 ++ grL nt mv (x + 1)).length (endsC (S0 ++ grL nt mv (x + 1))); rw [hs2, eB, List.length_append, List.length_append, ends_push, ends_push]; exact hoe), hox, q2x, hbw⟩ (by simp only; omega)
      ·
        rw [if_neg hc0] at eB
        subst eB
        refine EL.val (x_gtr (r := false) rfl rfl (decide_eq_false (by omega))) rfl ?_
        refine EL.nil ?_
        refine EX.seq ?_
        refine EC.no rfl ?_
        refine EC.skip ?_
        refine EX.blk ?_
        refine EX.seq ?_
        refine EC.region ?_
        refine EL.val (x_move rfl) rfl ?_
        refine EL.val (x_add rfl rfl (c := ((x + 1 : Nat) : Int)) ((IntWalk.i64_in _ ⟨by first | omega | (simp only; omega), by first | omega | (simp only; omega)⟩).trans (by first | omega | (simp only; omega)))) rfl ?_
        refine EL.val (x_assign rfl) rfl ?_
        refine EL.nil ?_
        refine EX.roundD (x + 1, _, _) ⟨rfl, rfl, rfl, trivial⟩ (by repeat first | with_reducible exact Sub.refl _ | refine sub_past rfl ?_ | exact Sub.refl _ | refine sub_del rfl ?_ | refine sub_insL_nil ?_) ⟨hlt, (by show World.ownsRow _ _ _ _ _ (S0 ++ grL nt mv (x + 1)).length (stepsC (S0 ++ grL nt mv (x + 1))); rw [hs2, List.append_nil, List.length_append, steps_push]; exact hos), (by show World.ownsRow _ _ _ _ _ (S0 ++ grL nt mv (x + 1)).length (endsC (S0 ++ grL nt mv (x + 1))); rw [hs2, List.append_nil, List.length_append, ends_push]; exact hoe), hox, q2x, hbw⟩ (by simp only; omega)
    ·
      have hxe : x = nt.ports.length := by omega
      subst hxe
      have eS : S1 = allS nt mv := by rw [eS1, eS0]; rfl
      clear eS1 eS0
      have hall := all_len (mv := mv) hv
      have hed := all_edge (mv := mv) hv
      have hpos := all_pos (mv := mv) hp1
      rw [← eS] at hall hed hpos
      obtain ⟨bs, rfl⟩ := own_slice hos hpos
      obtain ⟨be, rfl⟩ := own_slice hoe hpos
      refine EC.seq ?_
      refine EC.seq ?_
      refine EC.region ?_
      refine EL.val (x_move rfl) rfl ?_
      refine EL.val (x_move rfl) rfl ?_
      refine EL.val (x_lss rfl rfl (decide_eq_false (show ¬(((nt.ports.length : Nat) : Int) < ((nt.ports.length : Nat) : Int)) by omega))) rfl ?_
      refine EL.nil ?_
      refine EX.seq ?_
      refine EC.no rfl ?_
      refine EC.exit ?_
      refine EX.seq_exit ?_
      refine EX.seq_exit ?_
      refine EX.blk_here ?_
      refine EX.seq ?_
      refine EC.seq ?_
      have hszL := hbw.size
      clear hox
      have lt_1 := q2x.lt
      refine EC.regionPA [[], [0], [0, 1], [], [3], [3, 4], [0, 1, 2], [0, 1, 2, 3, 4, 5, 6], [0, 1, 2, 3, 4, 5, 6, 7]] 7 [2, 5] (phi (fun i_ r => match i_ with | 0 => r 0 = .int .i64 (nt.ports.length : Nat) | 1 => r 1 = .int .i64 ((nt.ports.length + 1) : Nat) | 3 => r 3 = .int .i64 (nt.ports.length : Nat) | 4 => r 4 = .int .i64 ((nt.ports.length + 1) : Nat) | _ => True) [(2, fun r w_ => ∃ g_, r 2 = .slice (some ⟨g_, 0, none⟩) (nt.ports.length + 1) (nt.ports.length + 1) ∧ w_.ownsRow w.heap.size 3 1 (.slice (some ⟨g_, 0, none⟩) (nt.ports.length + 1) (nt.ports.length + 1)) (nt.ports.length + 1) (List.replicate (nt.ports.length + 1) (.int .i64 0))), (5, fun r w_ => ∃ g_, r 5 = .slice (some ⟨g_, 0, none⟩) (nt.ports.length + 1) (nt.ports.length + 1) ∧ w_.ownsRow w.heap.size 3 1 (.slice (some ⟨g_, 0, none⟩) (nt.ports.length + 1) (nt.ports.length + 1)) (nt.ports.length + 1) (List.replicate (nt.ports.length + 1) (.int .i64 0))), (6, fun r w_ => ∃ g_, r 6 = .slice (some ⟨g_, 0, none⟩) (nt.ports.length + 1) (nt.ports.length + 1) ∧ r 2 = .slice (some ⟨g_, 0, none⟩) (nt.ports.length + 1) (nt.ports.length + 1))]) (by kernel_rfl) rfl rfl (phi_cons mono_mk (phi_cons mono_mk (phi_cons mono_mv (phi_nil)))) (fun i_ hi_ => ?_) ?_
      · match i_, hi_ with
        | 0, _ =>
          intro val w1 a hb ha hd
          refine hka ?_
          have ha := ha.sub (Sub.ins (d := 7) (Sub.nil _) rfl)
          exact hs_val ha rfl rfl (x_move rfl) rfl rfl
        | 1, _ =>
          intro val w1 a hb ha hd
          refine hka ?_
          have e0 : val 0 = .int .i64 (nt.ports.length : Nat) := hd 0 (memB_mem.1 rfl)
          have ha := ha.sub (Sub.ins (d := 62) (Sub.nil _) (dep_get rfl e0))
          exact hs_val ha rfl rfl (x_add rfl rfl (c := ((nt.ports.length + 1 : Nat) : Int)) ((IntWalk.i64_in _ ⟨by omega, by omega⟩).trans (by omega))) rfl rfl
        | 2, _ =>
          intro val w1 a hb ha hd
          have e1 : val 1 = .int .i64 ((nt.ports.length + 1) : Nat) := hd 1 (memB_mem.1 rfl)
          have ha := ha.sub (Sub.ins (d := 63) (Sub.nil _) (dep_get rfl e1))
          exact hsa_make1 (base := w.heap.size) (z := .int .i64 0) Try.underlying29 i64_info rfl ha rfl rfl (by omega) rfl (Nat.le_trans hszL hb.size) (fun g w' ho => ⟨g, rfl, ho⟩)
        | 3, _ =>
          intro val w1 a hb ha hd
          refine hka ?_
          have ha := ha.sub (Sub.ins (d := 7) (Sub.nil _) rfl)
          exact hs_val ha rfl rfl (x_move rfl) rfl rfl
        | 4, _ =>
          intro val w1 a hb ha hd
          refine hka ?_
          have e3 : val 3 = .int .i64 (nt.ports.length : Nat) := hd 3 (memB_mem.1 rfl)
          have ha := ha.sub (Sub.ins (d := 65) (Sub.nil _) (dep_get rfl e3))
          exact hs_val ha rfl rfl (x_add rfl rfl (c := ((nt.ports.length + 1 : Nat) : Int)) ((IntWalk.i64_in _ ⟨by omega, by omega⟩).trans (by omega))) rfl rfl
        | 5, _ =>
          intro val w1 a hb ha hd
          have e4 : val 4 = .int .i64 ((nt.ports.length + 1) : Nat) := hd 4 (memB_mem.1 rfl)
          have ha := ha.sub (Sub.ins (d := 66) (Sub.nil _) (dep_get rfl e4))
          exact hsa_make1 (base := w.heap.size) (z := .int .i64 0) Try.underlying29 i64_info rfl ha rfl rfl (by omega) rfl (Nat.le_trans hszL hb.size) (fun g w' ho => ⟨g, rfl, ho⟩)
        | 6, _ =>
          intro val w1 a hb ha hd
          refine hka ?_
          obtain ⟨ga2_, e2, q2_⟩ := hd 2 (memB_mem.1 rfl)
          have ha := ha.sub (Sub.ins (d := 64) (Sub.nil _) (dep_get rfl e2))
          exact hs_val ha rfl rfl (x_assign rfl) ⟨_, rfl, e2⟩ rfl
        | k + 7, h => exact absurd h (by omega)
      · intro val wR9 hb halc hd
        have e0 : val 0 = .int .i64 (nt.ports.length : Nat) := hd 0 (by omega)
        have e1 : val 1 = .int .i64 ((nt.ports.length + 1) : Nat) := hd 1 (by omega)
        obtain ⟨ga2_, e2, q2_⟩ := hd 2 (by omega)
        have e3 : val 3 = .int .i64 (nt.ports.length : Nat) := hd 3 (by omega)
        have e4 : val 4 = .int .i64 ((nt.ports.length + 1) : Nat) := hd 4 (by omega)
        obtain ⟨ga5_, e5, q5_⟩ := hd 5 (by omega)
        obtain ⟨ga6_, e6, f6_⟩ := hd 6 (by omega)
        refine EL.ends (cs := [.int .i64 (nt.ports.length : Nat), .int .i64 ((nt.ports.length + 1) : Nat), .slice (some ⟨ga2_, 0, none⟩) (nt.ports.length + 1) (nt.ports.length + 1), .int .i64 (nt.ports.length : Nat), .int .i64 ((nt.ports.length + 1) : Nat), .slice (some ⟨ga5_, 0, none⟩) (nt.ports.length + 1) (nt.ports.length + 1), .slice (some ⟨ga6_, 0, none⟩) (nt.ports.length + 1) (nt.ports.length + 1)]) ⟨e0, e1, e2, e3, e4, e5, e6, trivial⟩ rfl ?_
        replace q2x := q2x.below hb q2x.lt
        replace hos := own_below hos hb (Nat.le_refl _)
        replace hoe := own_below hoe hb (Nat.le_refl _)
        replace hbw := Below.on hbw hb hbw.size
        clear hb
        have hlb := alcA_ne halc (i := 2) (j := 5) rfl rfl rfl rfl rfl e2 rfl e5 rfl
        have f8b := e2.symm.trans f6_
        injection f8b with f8b
        injection f8b with f8b
        injection f8b with f8b
        subst f8b
        obtain ⟨gl, egl⟩ : ∃ z, z = ga2_ := ⟨_, rfl⟩
        obtain ⟨gb, egb⟩ : ∃ z, z = ga5_ := ⟨_, rfl⟩
        rw [← egl] at hlb q2_ ⊢
        rw [← egb] at hlb q5_ ⊢
        have hol := q2_
        have hob := q5_
        rw [← ints_rep] at hol hob
        clear q2_ q5_
        refine EL.val (x_assign rfl) rfl ?_
        refine EL.val (x_assign rfl) rfl ?_
        refine EL.nil ?_
        refine EX.seq ?_
        refine EC.seq ?_
        refine EC.seq ?_
        refine EC.region ?_
        refine EL.val (x_assign rfl) rfl ?_
        refine EL.nil ?_
        refine EX.seq ?_
        refine EC.block ?_
        refine EC.loopD [4, 12, 13, 14, 15, 68, 69, 70, 71, 72, 73, 74, 75, 76, 77, 78, 79, 80, 81, 82, 83, 84, 85, 86, 87, 88, 89, 90, 91, 92, 93, 94, 95, 96, 97, 98, 99, 100, 101, 102, 103, 104, 105, 106, 107, 108, 109, 110, 111, 112, 113, 114, 115, 116, 117, 118, 119, 120, 121, 122, 123, 124, 125, 126] (fun x : Nat × Int × List Int × List Int => [(12, .int .i64 x.2.1), (13, .int .i64 (x.1 : Nat))]) (fun x W => x.1 ≤ (nt.ports.length + 1) + 1 ∧ RgC S1 (nt.ports.length + 1) x.1 x.2.2.1 x.2.2.2 x.2.1 ∧ W.ownsRow w.heap.size 89 2 (.slice (some ⟨bs, 0, none⟩) S1.length cs_) S1.length (stepsC S1) ∧ W.ownsRow w.heap.size 128 3 (.slice (some ⟨be, 0, none⟩) S1.length ce_) S1.length (endsC S1) ∧ W.ownsRow w.heap.size 3 1 (.slice (some ⟨gl, 0, none⟩) (nt.ports.length + 1) (nt.ports.length + 1)) (nt.ports.length + 1) (ints x.2.2.1) ∧ W.ownsRow w.heap.size 3 1 (.slice (some ⟨gb, 0, none⟩) (nt.ports.length + 1) (nt.ports.length + 1)) (nt.ports.length + 1) (ints x.2.2.2) ∧ Blk W g1 25 #[.slice Ap nt.ports.length cp_, .slice Aw nt.ways.length cw_] ∧ Below w.heap.size w W) (fun x => (nt.ports.length + 1) + 1 - x.1) (0, -1, List.replicate (nt.ports.length + 1) 0, List.replicate (nt.ports.length + 1) 0) ⟨Nat.zero_le _, RgC.first, hos, hoe, hol, hob, q2x, hbw⟩ ⟨rfl, rfl, trivial⟩ ?_
        clear hos hoe hol hob q2x hbw
        rintro ⟨x, at0, l0, b0⟩ wx ⟨hx, hrg, hos, hoe, hol, hob, q2x, hbw⟩
        dsimp only at hx hrg hol hob
        by_cases hlt : x ≤ (nt.ports.length + 1)
        ·
          refine EC.seq ?_
          refine EC.seq ?_
          refine EC.region ?_
          refine EL.val (x_move rfl) rfl ?_
          refine EL.val (x_move rfl) rfl ?_
          refine EL.val (x_add rfl rfl (c := ((nt.ports.length + 1 : Nat) : Int)) ((IntWalk.i64_in _ ⟨by omega, by omega⟩).trans (by omega))) rfl ?_
          refine EL.val (x_leq rfl rfl (decide_eq_true (show (((x : Nat) : Int) ≤ (((nt.ports.length + 1) : Nat) : Int)) by omega))) rfl ?_
          refine EL.nil ?_
          refine EX.seq ?_
          refine EC.yes rfl ?_
          refine EC.skip ?_
          refine EX.seq ?_
          refine EC.seq ?_
          refine EC.block ?_
          refine EC.seq ?_
          refine EC.region ?_
          refine EL.val (x_assign rfl) rfl ?_
          refine EL.nil ?_
          refine EX.seq ?_
          refine EC.seq ?_
          refine EC.seq ?_
          refine EC.region ?_
          refine EL.val (x_assign rfl) rfl ?_
          refine EL.nil ?_
          refine EX.seq ?_
          refine EC.block ?_
          refine EC.loopD [12, 14, 15, 74, 75, 76, 77, 78, 79, 80, 81, 82, 83, 84, 85, 86, 87, 88, 89, 90, 91, 92, 93, 94, 95, 96, 97, 98, 99, 100, 101, 102, 103, 104, 105, 106, 107, 108, 109, 110, 111, 112, 113, 114, 115, 116, 117, 118, 119, 120, 121, 122, 123, 124] (fun z : Nat × Int × List Int × List Int => [(12, .int .i64 z.2.1), (14, .int .i64 (z.1 : Nat))]) (fun z W => z.1 ≤ S1.length ∧ RgE S1 (nt.ports.length + 1) x z.1 z.2.2.1 z.2.2.2 z.2.1 ∧ W.ownsRow w.heap.size 89 2 (.slice (some ⟨bs, 0, none⟩) S1.length cs_) S1.length (stepsC S1) ∧ W.ownsRow w.heap.size 128 3 (.slice (some ⟨be, 0, none⟩) S1.length ce_) S1.length (endsC S1) ∧ W.ownsRow w.heap.size 3 1 (.slice (some ⟨gl, 0, none⟩) (nt.ports.length + 1) (nt.ports.length + 1)) (nt.ports.length + 1) (ints z.2.2.1) ∧ W.ownsRow w.heap.size 3 1 (.slice (some ⟨gb, 0, none⟩) (nt.ports.length + 1) (nt.ports.length + 1)) (nt.ports.length + 1) (ints z.2.2.2) ∧ Blk W g1 25 #[.slice Ap nt.ports.length cp_, .slice Aw nt.ways.length cw_] ∧ Below w.heap.size w W) (fun z => S1.length - z.1) (0, -1, l0, b0) ⟨Nat.zero_le _, hrg.begin, hos, hoe, hol, hob, q2x, hbw⟩ ⟨rfl, rfl, trivial⟩ ?_
          clear hos hoe hol hob q2x hbw
          rintro ⟨i, at_, l, b⟩ wz ⟨hi, hre, hos, hoe, hol, hob, q2z, hbw⟩
          dsimp only at hi hre hol hob
          obtain ⟨hll, hbl, hbd, hata⟩ := hre.facts
          by_cases hlt : i < S1.length
          ·
            obtain ⟨c0, c1, c2⟩ := own_end_cells hoe hlt
            obtain ⟨hf1, ht1⟩ := hed.n i hlt
            have hcb := hed.cost i hlt
            have hsk := hre.skip
            have hrl := hre.relax hed hlt
            obtain ⟨y, ey⟩ : ∃ z, z = esAt S1 i := ⟨_, rfl⟩
            rw [← ey] at c0 c1 c2 hf1 ht1 hcb hsk hrl
            have hrE : x * S1.length ≤ 61 * 720 := Nat.mul_le_mul (by omega) (by omega)
            have bf := hbd y.fr hf1
            have bt := hbd y.to ht1
            obtain ⟨yf, yt, yc, yw, yb⟩ := y
            dsimp only at c0 c1 c2 hf1 ht1 hcb hsk hrl bf bt
            clear ey
            have rf_ := own_int_cell hol (k := yf) (by omega)
            have rt_ := own_int_cell hol (k := yt) (by omega)
            obtain ⟨lf, elf⟩ : ∃ z, z = l.getD yf 0 := ⟨_, rfl⟩
            obtain ⟨lt_, elt⟩ : ∃ z, z = l.getD yt 0 := ⟨_, rfl⟩
            rw [← elf] at rf_ bf hsk hrl
            rw [← elt] at rt_ bt hsk hrl
            by_cases hcc : lf + yc < lt_
            ·
              have hbz := Below.refl wz.heap.size wz
              refine EC.seq ?_
              refine EC.seq ?_
              refine EC.region ?_
              refine EL.val (x_move rfl) rfl ?_
              refine EL.val (x_move rfl) rfl ?_
              refine EL.val (ln_123 rfl) rfl ?_
              refine EL.val (x_lss rfl rfl (decide_eq_true (show (((i : Nat) : Int) < ((S1.length : Nat) : Int)) by omega))) rfl ?_
              refine EL.nil ?_
              refine EX.seq ?_
              refine EC.yes rfl ?_
              refine EC.skip ?_
              refine EX.seq ?_
              refine EC.seq ?_
              refine EC.block ?_
              refine EC.seq ?_
              refine EC.regionQ (by kernel_rfl) (by kernel_rfl) ?_
              refine EQ.val (fun _ hw => (x_move rfl)) rfl ?_
              refine EQ.val (fun _ hw => (x_move rfl)) rfl ?_
              refine EQ.val (fun _ hw => (x_move rfl)) rfl ?_
              refine EQ.val (fun _ hw => (ix_123 rfl rfl hlt)) rfl ?_
              refine EQ.val (fun _ hw => (ixa_128 (k := 0) rfl rfl (by omega))) rfl ?_
              refine EQ.val (fun _ hw => (ld_3 rfl (below_load hw c0))) rfl ?_
              refine EQ.val (fun _ hw => (ix_29 rfl rfl hf1)) rfl ?_
              refine EQ.val (fun _ hw => (ld_3 rfl (below_load hw rf_))) rfl ?_
              refine EQ.val (fun _ hw => (x_move rfl)) rfl ?_
              refine EQ.val (fun _ hw => (x_move rfl)) rfl ?_
              refine EQ.val (fun _ hw => (ix_123 rfl rfl hlt)) rfl ?_
              refine EQ.val (fun _ hw => (ixa_128 (k := 2) rfl rfl (by omega))) rfl ?_
              refine EQ.val (fun _ hw => (ld_3 rfl (below_load hw c2))) rfl ?_
              refine EQ.val (fun _ hw => (x_add rfl rfl (c := lf + yc) (IntWalk.i64_in _ ⟨by omega, by omega⟩))) rfl ?_
              refine EQ.val (fun _ hw => (x_assign rfl)) rfl ?_
              refine EQ.fin (fun w11 hw_ => ?_)
              replace q2z := q2z.below hw_ q2z.lt
              replace hos := own_below hos hw_ (Nat.le_refl _)
              replace hoe := own_below hoe hw_ (Nat.le_refl _)
              replace hol := own_below hol hw_ (Nat.le_refl _)
              replace hob := own_below hob hw_ (Nat.le_refl _)
              replace hbw := Below.on hbw hw_ hbw.size
              replace hbz := Below.on hbz hw_ hbz.size
              clear hw_
              refine EX.seq ?_
              refine EC.seq ?_
              refine EC.region ?_
              refine EL.val (x_move rfl) rfl ?_
              refine EL.val (x_move rfl) rfl ?_
              refine EL.val (x_move rfl) rfl ?_
              refine EL.val (x_move rfl) rfl ?_
              refine EL.val (ix_123 rfl rfl hlt) rfl ?_
              refine EL.val (ixa_128 (k := 1) rfl rfl (by omega)) rfl ?_
              refine EL.val (ld_3 rfl (below_load hbz c1)) rfl ?_
              refine EL.val (ix_29 rfl rfl ht1) rfl ?_
              refine EL.val (ld_3 rfl (below_load hbz rt_)) rfl ?_
              refine EL.val (x_lss (r := true) rfl rfl (decide_eq_true (by omega))) rfl ?_
              refine EL.nil ?_
              refine EX.seq ?_
              refine EC.yes rfl ?_
              have c1_ := below_load hbz c1
              have lbl : w.heap.size ≤ gl := (hol.lt _ rfl).1
              have lbb : w.heap.size ≤ gb := (hob.lt _ rfl).1
              have hszw := hbw.size
              have hbz2 := Below.refl w11.heap.size w11
              obtain ⟨cse_, hqe⟩ := own_blk hoe
              have nel : be ≠ gl := row_ne2 hol hqe rfl
              have neb : be ≠ gb := row_ne2 hob hqe rfl
              have hqlt := hqe.lt
              obtain ⟨csl_, hql_⟩ := own_blk hol
              obtain ⟨csb_, hqb_⟩ := own_blk hob
              have nr1_l : g1 ≠ gl := row_ne2 hol q2z rfl
              have nr1_b : g1 ≠ gb := row_ne2 hob q2z rfl
              have lb_l : w.heap.size ≤ gl := (hol.lt _ rfl).1
              have lb_b : w.heap.size ≤ gb := (hob.lt _ rfl).1
              refine EC.regionS [[], [], [], [1, 2], [1, 2, 3], [1, 2, 3, 4], [], [], [], [7, 8], [7, 8, 9], [7, 8, 9, 10], [], [], [], [], [14, 15], [14, 15, 16], [14, 15, 16, 17], [0, 1, 2, 3, 4, 5, 7, 8, 9, 10, 11, 12, 14, 15, 16, 17, 18], [0, 1, 2, 3, 4, 5, 7, 8, 9, 10, 11, 12, 14, 15, 16, 17, 18, 19], [0, 1, 2, 3, 4, 5, 6, 7, 8, 9, 10, 11, 12, 13, 14, 15, 16, 17, 18, 19, 20], [0, 1, 2, 3, 4, 5, 6, 7, 8, 9, 10, 11, 12, 13, 14, 15, 16, 17, 18, 19, 20, 21], [0, 1, 2, 3, 4, 5, 6, 7, 8, 9, 10, 11, 12, 13, 14, 15, 16, 17, 18, 19, 20, 21, 22]] 23 [] [20, 22] (fun fl w_ => Touch w11 w_ [gl, gb] ∧ (fl 20 = false → w_.ownsRow w.heap.size 3 1 (.slice (some ⟨gl, 0, none⟩) (nt.ports.length + 1) (nt.ports.length + 1)) (nt.ports.length + 1) (ints l)) ∧ (fl 22 = false → w_.ownsRow w.heap.size 3 1 (.slice (some ⟨gb, 0, none⟩) (nt.ports.length + 1) (nt.ports.length + 1)) (nt.ports.length + 1) (ints b))) (phiS (fun i_ r => match i_ with | 0 => r 0 = .slice (some ⟨gl, 0, none⟩) (nt.ports.length + 1) (nt.ports.length + 1) | 1 => r 1 = .slice (some ⟨be, 0, none⟩) S1.length ce_ | 2 => r 2 = .int .i64 (i : Nat) | 3 => r 3 = .pointer (some ⟨be, 0 + i * 3, none⟩) | 4 => r 4 = .pointer (some ⟨be, 0 + i * 3 + 1, none⟩) | 5 => r 5 = .int .i64 (yt : Nat) | 6 => r 6 = .slice (some ⟨gb, 0, none⟩) (nt.ports.length + 1) (nt.ports.length + 1) | 7 => r 7 = .slice (some ⟨be, 0, none⟩) S1.length ce_ | 8 => r 8 = .int .i64 (i : Nat) | 9 => r 9 = .pointer (some ⟨be, 0 + i * 3, none⟩) | 10 => r 10 = .pointer (some ⟨be, 0 + i * 3 + 1, none⟩) | 11 => r 11 = .int .i64 (yt : Nat) | 12 => r 12 = .int .i64 (lf + yc) | 13 => r 13 = .int .i64 (i : Nat) | 14 => r 14 = .slice (some ⟨be, 0, none⟩) S1.length ce_ | 15 => r 15 = .int .i64 (i : Nat) | 16 => r 16 = .pointer (some ⟨be, 0 + i * 3, none⟩) | 17 => r 17 = .pointer (some ⟨be, 0 + i * 3 + 1, none⟩) | 18 => r 18 = .int .i64 (yt : Nat) | 19 => r 19 = .pointer (some ⟨gl, 0 + yt, none⟩) | 21 => r 21 = .pointer (some ⟨gb, 0 + yt, none⟩) | _ => True) [(20, fun fl _ w_ => fl 20 = true ∧ w_.ownsRow w.heap.size 3 1 (.slice (some ⟨gl, 0, none⟩) (nt.ports.length + 1) (nt.ports.length + 1)) (nt.ports.length + 1) (ints (l.set yt (lf + yc)))), (22, fun fl _ w_ => fl 22 = true ∧ w_.ownsRow w.heap.size 3 1 (.slice (some ⟨gb, 0, none⟩) (nt.ports.length + 1) (nt.ports.length + 1)) (nt.ports.length + 1) (ints (b.set yt ((i : Nat) : Int))))]) (by kernel_rfl) rfl rfl (by intro i hi; simp at hi; rcases hi with rfl | rfl <;> exact ⟨by simp, by omega⟩) ⟨fun _ _ => ⟨Touch.start _ _, fun _ => own_drewN hol 1, fun _ => own_drewN hob 1⟩, fun _ _ _ ⟨hT, hA0_, hA1_⟩ hb => ⟨hT.below hb, fun h => own_below (hA0_ h) hb (Nat.le_refl _), fun h => own_below (hA1_ h) hb (Nat.le_refl _)⟩, fun _ _ h => h.1.size⟩ (phiS_cons (fun _ _ _ _ hb ⟨h1, h2⟩ => ⟨h1, own_below h2 hb (Nat.le_refl _)⟩) (phiS_cons (fun _ _ _ _ hb ⟨h1, h2⟩ => ⟨h1, own_below h2 hb (Nat.le_refl _)⟩) (phiS_nil))) (fun i_ hi_ hs_ => ?_) (fun i_ hi_ => ?_) ?_
              · match i_, hi_ with
                | 0, _ =>
                  intro val fl w1 a hb ha hd hfl
                  obtain ⟨hT, hA0_, hA1_⟩ := hb
                  have ha := ha.sub (Sub.ins (d := 10) (Sub.nil _) rfl)
                  exact ss_val ha rfl rfl (x_move rfl) rfl rfl
                | 1, _ =>
                  intro val fl w1 a hb ha hd hfl
                  obtain ⟨hT, hA0_, hA1_⟩ := hb
                  have ha := ha.sub (Sub.ins (d := 6) (Sub.nil _) rfl)
                  exact ss_val ha rfl rfl (x_move rfl) rfl rfl
                | 2, _ =>
                  intro val fl w1 a hb ha hd hfl
                  obtain ⟨hT, hA0_, hA1_⟩ := hb
                  have ha := ha.sub (Sub.ins (d := 14) (Sub.nil _) rfl)
                  exact ss_val ha rfl rfl (x_move rfl) rfl rfl
                | 3, _ =>
                  intro val fl w1 a hb ha hd hfl
                  obtain ⟨hT, hA0_, hA1_⟩ := hb
                  have e1 : val 1 = .slice (some ⟨be, 0, none⟩) S1.length ce_ := hd 1 (memB_mem.1 rfl)
                  have e2 : val 2 = .int .i64 (i : Nat) := hd 2 (memB_mem.1 rfl)
                  have ha := ha.sub (Sub.ins (d := 106) (Sub.ins (d := 105) (Sub.nil _) (dep_get rfl e1)) (dep_get rfl e2))
                  exact ss_val ha rfl rfl (ix_123 rfl rfl hlt) rfl rfl
                | 4, _ =>
                  intro val fl w1 a hb ha hd hfl
                  obtain ⟨hT, hA0_, hA1_⟩ := hb
                  have e3 : val 3 = .pointer (some ⟨be, 0 + i * 3, none⟩) := hd 3 (memB_mem.1 rfl)
                  have ha := ha.sub (Sub.ins (d := 107) (Sub.nil _) (dep_get rfl e3))
                  exact ss_val ha rfl rfl (ixa_128 (k := 1) rfl rfl (by omega)) rfl rfl
                | 5, _ =>
                  intro val fl w1 a hb ha hd hfl
                  obtain ⟨hT, hA0_, hA1_⟩ := hb
                  have e4 : val 4 = .pointer (some ⟨be, 0 + i * 3 + 1, none⟩) := hd 4 (memB_mem.1 rfl)
                  have ha := ha.sub (Sub.ins (d := 108) (Sub.nil _) (dep_get rfl e4))
                  exact ss_val ha rfl rfl (ld_3 rfl ((touch_cell hT (by simp only [List.mem_cons, List.not_mem_nil, or_false, not_or]; exact ⟨nel, neb⟩) hqlt).trans c1_)) rfl rfl
                | 6, _ =>
                  intro val fl w1 a hb ha hd hfl
                  obtain ⟨hT, hA0_, hA1_⟩ := hb
                  have ha := ha.sub (Sub.ins (d := 11) (Sub.nil _) rfl)
                  exact ss_val ha rfl rfl (x_move rfl) rfl rfl
                | 7, _ =>
                  intro val fl w1 a hb ha hd hfl
                  obtain ⟨hT, hA0_, hA1_⟩ := hb
                  have ha := ha.sub (Sub.ins (d := 6) (Sub.nil _) rfl)
                  exact ss_val ha rfl rfl (x_move rfl) rfl rfl
                | 8, _ =>
                  intro val fl w1 a hb ha hd hfl
                  obtain ⟨hT, hA0_, hA1_⟩ := hb
                  have ha := ha.sub (Sub.ins (d := 14) (Sub.nil _) rfl)
                  exact ss_val ha rfl rfl (x_move rfl) rfl rfl
                | 9, _ =>
                  intro val fl w1 a hb ha hd hfl
                  obtain ⟨hT, hA0_, hA1_⟩ := hb
                  have e7 : val 7 = .slice (some ⟨be, 0, none⟩) S1.length ce_ := hd 7 (memB_mem.1 rfl)
                  have e8 : val 8 = .int .i64 (i : Nat) := hd 8 (memB_mem.1 rfl)
                  have ha := ha.sub (Sub.ins (d := 112) (Sub.ins (d := 111) (Sub.nil _) (dep_get rfl e7)) (dep_get rfl e8))
                  exact ss_val ha rfl rfl (ix_123 rfl rfl hlt) rfl rfl
                | 10, _ =>
                  intro val fl w1 a hb ha hd hfl
                  obtain ⟨hT, hA0_, hA1_⟩ := hb
                  have e9 : val 9 = .pointer (some ⟨be, 0 + i * 3, none⟩) := hd 9 (memB_mem.1 rfl)
                  have ha := ha.sub (Sub.ins (d := 113) (Sub.nil _) (dep_get rfl e9))
                  exact ss_val ha rfl rfl (ixa_128 (k := 1) rfl rfl (by omega)) rfl rfl
                | 11, _ =>
                  intro val fl w1 a hb ha hd hfl
                  obtain ⟨hT, hA0_, hA1_⟩ := hb
                  have e10 : val 10 = .pointer (some ⟨be, 0 + i * 3 + 1, none⟩) := hd 10 (memB_mem.1 rfl)
                  have ha := ha.sub (Sub.ins (d := 114) (Sub.nil _) (dep_get rfl e10))
                  exact ss_val ha rfl rfl (ld_3 rfl ((touch_cell hT (by simp only [List.mem_cons, List.not_mem_nil, or_false, not_or]; exact ⟨nel, neb⟩) hqlt).trans c1_)) rfl rfl
                | 12, _ =>
                  intro val fl w1 a hb ha hd hfl
                  obtain ⟨hT, hA0_, hA1_⟩ := hb
                  have ha := ha.sub (Sub.ins (d := 15) (Sub.nil _) rfl)
                  exact ss_val ha rfl rfl (x_move rfl) rfl rfl
                | 13, _ =>
                  intro val fl w1 a hb ha hd hfl
                  obtain ⟨hT, hA0_, hA1_⟩ := hb
                  have ha := ha.sub (Sub.ins (d := 14) (Sub.nil _) rfl)
                  exact ss_val ha rfl rfl (x_move rfl) rfl rfl
                | 14, _ =>
                  intro val fl w1 a hb ha hd hfl
                  obtain ⟨hT, hA0_, hA1_⟩ := hb
                  have ha := ha.sub (Sub.ins (d := 6) (Sub.nil _) rfl)
                  exact ss_val ha rfl rfl (x_move rfl) rfl rfl
                | 15, _ =>
                  intro val fl w1 a hb ha hd hfl
                  obtain ⟨hT, hA0_, hA1_⟩ := hb
                  have ha := ha.sub (Sub.ins (d := 14) (Sub.nil _) rfl)
                  exact ss_val ha rfl rfl (x_move rfl) rfl rfl
                | 16, _ =>
                  intro val fl w1 a hb ha hd hfl
                  obtain ⟨hT, hA0_, hA1_⟩ := hb
                  have e14 : val 14 = .slice (some ⟨be, 0, none⟩) S1.length ce_ := hd 14 (memB_mem.1 rfl)
                  have e15 : val 15 = .int .i64 (i : Nat) := hd 15 (memB_mem.1 rfl)
                  have ha := ha.sub (Sub.ins (d := 119) (Sub.ins (d := 118) (Sub.nil _) (dep_get rfl e14)) (dep_get rfl e15))
                  exact ss_val ha rfl rfl (ix_123 rfl rfl hlt) rfl rfl
                | 17, _ =>
                  intro val fl w1 a hb ha hd hfl
                  obtain ⟨hT, hA0_, hA1_⟩ := hb
                  have e16 : val 16 = .pointer (some ⟨be, 0 + i * 3, none⟩) := hd 16 (memB_mem.1 rfl)
                  have ha := ha.sub (Sub.ins (d := 120) (Sub.nil _) (dep_get rfl e16))
                  exact ss_val ha rfl rfl (ixa_128 (k := 1) rfl rfl (by omega)) rfl rfl
                | 18, _ =>
                  intro val fl w1 a hb ha hd hfl
                  obtain ⟨hT, hA0_, hA1_⟩ := hb
                  have e17 : val 17 = .pointer (some ⟨be, 0 + i * 3 + 1, none⟩) := hd 17 (memB_mem.1 rfl)
                  have ha := ha.sub (Sub.ins (d := 121) (Sub.nil _) (dep_get rfl e17))
                  exact ss_val ha rfl rfl (ld_3 rfl ((touch_cell hT (by simp only [List.mem_cons, List.not_mem_nil, or_false, not_or]; exact ⟨nel, neb⟩) hqlt).trans c1_)) rfl rfl
                | 19, _ =>
                  intro val fl w1 a hb ha hd hfl
                  obtain ⟨hT, hA0_, hA1_⟩ := hb
                  have e0 : val 0 = .slice (some ⟨gl, 0, none⟩) (nt.ports.length + 1) (nt.ports.length + 1) := hd 0 (memB_mem.1 rfl)
                  have e5 : val 5 = .int .i64 (yt : Nat) := hd 5 (memB_mem.1 rfl)
                  have ha := ha.sub (Sub.ins (d := 109) (Sub.ins (d := 104) (Sub.nil _) (dep_get rfl e0)) (dep_get rfl e5))
                  exact ss_val ha rfl rfl (ix_29 rfl rfl ht1) rfl rfl
                | 20, _ =>
                  exact absurd (by simp) hs_
                | 21, _ =>
                  intro val fl w1 a hb ha hd hfl
                  obtain ⟨hT, hA0_, hA1_⟩ := hb
                  have e6 : val 6 = .slice (some ⟨gb, 0, none⟩) (nt.ports.length + 1) (nt.ports.length + 1) := hd 6 (memB_mem.1 rfl)
                  have e11 : val 11 = .int .i64 (yt : Nat) := hd 11 (memB_mem.1 rfl)
                  have ha := ha.sub (Sub.ins (d := 115) (Sub.ins (d := 110) (Sub.nil _) (dep_get rfl e6)) (dep_get rfl e11))
                  exact ss_val ha rfl rfl (ix_29 rfl rfl ht1) rfl rfl
                | 22, _ =>
                  exact absurd (by simp) hs_
                | k + 23, h => exact absurd h (by omega)
              · simp only [List.mem_cons, List.not_mem_nil, or_false] at hi_
                rcases hi_ with rfl | rfl
                ·
                  intro val fl w1 a hb hfi ha hd hfl
                  obtain ⟨hT, hA0_, hA1_⟩ := hb
                  have e19 : val 19 = .pointer (some ⟨gl, 0 + yt, none⟩) := hd 19 (memB_mem.1 rfl)
                  have e12 : val 12 = .int .i64 (lf + yc) := hd 12 (memB_mem.1 rfl)
                  have ha := ha.sub (Sub.ins (d := 116) (Sub.ins (d := 123) (Sub.nil _) (dep_get rfl e19)) (dep_get rfl e12))
                  refine ts_storeRow (l' := [.int .i64 (lf + yc)]) ha rfl rfl rfl (hA0_ hfi) sz_3 rfl rfl (by rw [ints_len, Nat.zero_add]; omega) rfl ?_
                  intro w' ho2 hgr
                  rw [Nat.zero_add, spl_ints (by omega)] at ho2
                  refine ⟨undef, rfl, hgr.size, ⟨hT.grown hgr (by simp), (fun h => by rw [fset_eq] at h; cases h), (fun h => own_ne (hA1_ (by rwa [fset_ne rfl] at h)) hgr hlb.symm)⟩, ⟨fset_eq, ho2⟩, fun j _ hj hn hA => ?_⟩
                  exact phiS_cons_st (C := fun j => j ≠ 20 ∧ 20 ∉ clsAt [[], [], [], [1, 2], [1, 2, 3], [1, 2, 3, 4], [], [], [], [7, 8], [7, 8, 9], [7, 8, 9, 10], [], [], [], [], [14, 15], [14, 15, 16], [14, 15, 16, 17], [0, 1, 2, 3, 4, 5, 7, 8, 9, 10, 11, 12, 14, 15, 16, 17, 18], [0, 1, 2, 3, 4, 5, 7, 8, 9, 10, 11, 12, 14, 15, 16, 17, 18, 19], [0, 1, 2, 3, 4, 5, 6, 7, 8, 9, 10, 11, 12, 13, 14, 15, 16, 17, 18, 19, 20], [0, 1, 2, 3, 4, 5, 6, 7, 8, 9, 10, 11, 12, 13, 14, 15, 16, 17, 18, 19, 20, 21], [0, 1, 2, 3, 4, 5, 6, 7, 8, 9, 10, 11, 12, 13, 14, 15, 16, 17, 18, 19, 20, 21, 22]] j) (fun hc => absurd rfl hc.1) (phiS_cons_st (C := fun j => j ≠ 20 ∧ 20 ∉ clsAt [[], [], [], [1, 2], [1, 2, 3], [1, 2, 3, 4], [], [], [], [7, 8], [7, 8, 9], [7, 8, 9, 10], [], [], [], [], [14, 15], [14, 15, 16], [14, 15, 16, 17], [0, 1, 2, 3, 4, 5, 7, 8, 9, 10, 11, 12, 14, 15, 16, 17, 18], [0, 1, 2, 3, 4, 5, 7, 8, 9, 10, 11, 12, 14, 15, 16, 17, 18, 19], [0, 1, 2, 3, 4, 5, 6, 7, 8, 9, 10, 11, 12, 13, 14, 15, 16, 17, 18, 19, 20], [0, 1, 2, 3, 4, 5, 6, 7, 8, 9, 10, 11, 12, 13, 14, 15, 16, 17, 18, 19, 20, 21], [0, 1, 2, 3, 4, 5, 6, 7, 8, 9, 10, 11, 12, 13, 14, 15, 16, 17, 18, 19, 20, 21, 22]] j) (fun hc => absurd (memB_mem.1 rfl) hc.2) (fun _ _ h => h)) j ⟨hj, hn⟩
                ·
                  intro val fl w1 a hb hfi ha hd hfl
                  obtain ⟨hT, hA0_, hA1_⟩ := hb
                  have e21 : val 21 = .pointer (some ⟨gb, 0 + yt, none⟩) := hd 21 (memB_mem.1 rfl)
                  have e13 : val 13 = .int .i64 (i : Nat) := hd 13 (memB_mem.1 rfl)
                  have ha := ha.sub (Sub.ins (d := 117) (Sub.ins (d := 124) (Sub.nil _) (dep_get rfl e21)) (dep_get rfl e13))
                  refine ts_storeRow (l' := [.int .i64 (i : Nat)]) ha rfl rfl rfl (hA1_ hfi) sz_3 rfl rfl (by rw [ints_len, Nat.zero_add]; omega) rfl ?_
                  intro w' ho2 hgr
                  rw [Nat.zero_add, spl_ints (by omega)] at ho2
                  refine ⟨undef, rfl, hgr.size, ⟨hT.grown hgr (by simp), (fun h => own_ne (hA0_ (by rwa [fset_ne rfl] at h)) hgr hlb), (fun h => by rw [fset_eq] at h; cases h)⟩, ⟨fset_eq, ho2⟩, fun j _ hj hn hA => ?_⟩
                  exact phiS_cons_st (C := fun j => j ≠ 22 ∧ 22 ∉ clsAt [[], [], [], [1, 2], [1, 2, 3], [1, 2, 3, 4], [], [], [], [7, 8], [7, 8, 9], [7, 8, 9, 10], [], [], [], [], [14, 15], [14, 15, 16], [14, 15, 16, 17], [0, 1, 2, 3, 4, 5, 7, 8, 9, 10, 11, 12, 14, 15, 16, 17, 18], [0, 1, 2, 3, 4, 5, 7, 8, 9, 10, 11, 12, 14, 15, 16, 17, 18, 19], [0, 1, 2, 3, 4, 5, 6, 7, 8, 9, 10, 11, 12, 13, 14, 15, 16, 17, 18, 19, 20], [0, 1, 2, 3, 4, 5, 6, 7, 8, 9, 10, 11, 12, 13, 14, 15, 16, 17, 18, 19, 20, 21], [0, 1, 2, 3, 4, 5, 6, 7, 8, 9, 10, 11, 12, 13, 14, 15, 16, 17, 18, 19, 20, 21, 22]] j) (fun _ ⟨h1, h2⟩ => ⟨by rw [fset_ne rfl]; exact h1, own_ne h2 hgr hlb⟩) (phiS_cons_st (C := fun j => j ≠ 22 ∧ 22 ∉ clsAt [[], [], [], [1, 2], [1, 2, 3], [1, 2, 3, 4], [], [], [], [7, 8], [7, 8, 9], [7, 8, 9, 10], [], [], [], [], [14, 15], [14, 15, 16], [14, 15, 16, 17], [0, 1, 2, 3, 4, 5, 7, 8, 9, 10, 11, 12, 14, 15, 16, 17, 18], [0, 1, 2, 3, 4, 5, 7, 8, 9, 10, 11, 12, 14, 15, 16, 17, 18, 19], [0, 1, 2, 3, 4, 5, 6, 7, 8, 9, 10, 11, 12, 13, 14, 15, 16, 17, 18, 19, 20], [0, 1, 2, 3, 4, 5, 6, 7, 8, 9, 10, 11, 12, 13, 14, 15, 16, 17, 18, 19, 20, 21], [0, 1, 2, 3, 4, 5, 6, 7, 8, 9, 10, 11, 12, 13, 14, 15, 16, 17, 18, 19, 20, 21, 22]] j) (fun hc => absurd rfl hc.1) (fun _ _ h => h)) j ⟨hj, hn⟩
              · intro val fl wR19 hfl hb halc hd
                obtain ⟨hT, _⟩ := hb
                have hz_l := (hd 20 (by omega)).2
                change wR19.ownsRow w.heap.size 3 1 (.slice (some ⟨gl, 0, none⟩) (nt.ports.length + 1) (nt.ports.length + 1)) (nt.ports.length + 1) (ints (l.set yt (lf + yc))) at hz_l
                have hz_b := (hd 22 (by omega)).2
                change wR19.ownsRow w.heap.size 3 1 (.slice (some ⟨gb, 0, none⟩) (nt.ports.length + 1) (nt.ports.length + 1)) (nt.ports.length + 1) (ints (b.set yt ((i : Nat) : Int))) at hz_b
                have e0 : val 0 = .slice (some ⟨gl, 0, none⟩) (nt.ports.length + 1) (nt.ports.length + 1) := hd 0 (by omega)
                have e1 : val 1 = .slice (some ⟨be, 0, none⟩) S1.length ce_ := hd 1 (by omega)
                have e2 : val 2 = .int .i64 (i : Nat) := hd 2 (by omega)
                have e3 : val 3 = .pointer (some ⟨be, 0 + i * 3, none⟩) := hd 3 (by omega)
                have e4 : val 4 = .pointer (some ⟨be, 0 + i * 3 + 1, none⟩) := hd 4 (by omega)
                have e5 : val 5 = .int .i64 (yt : Nat) := hd 5 (by omega)
                have e6 : val 6 = .slice (some ⟨gb, 0, none⟩) (nt.ports.length + 1) (nt.ports.length + 1) := hd 6 (by omega)
                have e7 : val 7 = .slice (some ⟨be, 0, none⟩) S1.length ce_ := hd 7 (by omega)
                have e8 : val 8 = .int .i64 (i : Nat) := hd 8 (by omega)
                have e9 : val 9 = .pointer (some ⟨be, 0 + i * 3, none⟩) := hd 9 (by omega)
                have e10 : val 10 = .pointer (some ⟨be, 0 + i * 3 + 1, none⟩) := hd 10 (by omega)
                have e11 : val 11 = .int .i64 (yt : Nat) := hd 11 (by omega)
                have e12 : val 12 = .int .i64 (lf + yc) := hd 12 (by omega)
                have e13 : val 13 = .int .i64 (i : Nat) := hd 13 (by omega)
                have e14 : val 14 = .slice (some ⟨be, 0, none⟩) S1.length ce_ := hd 14 (by omega)
                have e15 : val 15 = .int .i64 (i : Nat) := hd 15 (by omega)
                have e16 : val 16 = .pointer (some ⟨be, 0 + i * 3, none⟩) := hd 16 (by omega)
                have e17 : val 17 = .pointer (some ⟨be, 0 + i * 3 + 1, none⟩) := hd 17 (by omega)
                have e18 : val 18 = .int .i64 (yt : Nat) := hd 18 (by omega)
                have e19 : val 19 = .pointer (some ⟨gl, 0 + yt, none⟩) := hd 19 (by omega)
                have e21 : val 21 = .pointer (some ⟨gb, 0 + yt, none⟩) := hd 21 (by omega)
                refine EL.ends (cs := [.slice (some ⟨gl, 0, none⟩) (nt.ports.length + 1) (nt.ports.length + 1), .slice (some ⟨be, 0, none⟩) S1.length ce_, .int .i64 (i : Nat), .pointer (some ⟨be, 0 + i * 3, none⟩), .pointer (some ⟨be, 0 + i * 3 + 1, none⟩), .int .i64 (yt : Nat), .slice (some ⟨gb, 0, none⟩) (nt.ports.length + 1) (nt.ports.length + 1), .slice (some ⟨be, 0, none⟩) S1.length ce_, .int .i64 (i : Nat), .pointer (some ⟨be, 0 + i * 3, none⟩), .pointer (some ⟨be, 0 + i * 3 + 1, none⟩), .int .i64 (yt : Nat), .int .i64 (lf + yc), .int .i64 (i : Nat), .slice (some ⟨be, 0, none⟩) S1.length ce_, .int .i64 (i : Nat), .pointer (some ⟨be, 0 + i * 3, none⟩), .pointer (some ⟨be, 0 + i * 3 + 1, none⟩), .int .i64 (yt : Nat), .pointer (some ⟨gl, 0 + yt, none⟩), val 20, .pointer (some ⟨gb, 0 + yt, none⟩), val 22]) ⟨e0, e1, e2, e3, e4, e5, e6, e7, e8, e9, e10, e11, e12, e13, e14, e15, e16, e17, e18, e19, rfl, e21, rfl, trivial⟩ rfl ?_
                replace q2z := q2z.touch hT (by simp only [List.mem_cons, List.not_mem_nil, or_false, not_or]; exact ⟨nr1_l, nr1_b⟩)
                replace hos := own_touch hos hT (by intro g hg; simp only [List.mem_cons, List.not_mem_nil, or_false, not_or]; exact ⟨own_apartB hos hql_ rfl g hg, own_apartB hos hqb_ rfl g hg⟩)
                replace hoe := own_touch hoe hT (by intro g hg; simp only [List.mem_cons, List.not_mem_nil, or_false, not_or]; exact ⟨own_apartB hoe hql_ rfl g hg, own_apartB hoe hqb_ rfl g hg⟩)
                replace hbw := Touch.anchor hT hbw (fun g hg => by simp only [List.mem_cons, List.not_mem_nil, or_false] at hg; rcases hg with rfl | rfl <;> omega)
                clear hT hol hob
                have hol := hz_l
                clear hz_l
                have hob := hz_b
                clear hz_b
                refine EL.val (x_assign rfl) rfl ?_
                refine EL.nil ?_
                refine EX.blk ?_
                refine EX.seq ?_
                refine EC.region ?_
                refine EL.val (x_move rfl) rfl ?_
                refine EL.val (x_add rfl rfl (c := ((i + 1 : Nat) : Int)) ((IntWalk.i64_in _ ⟨by first | omega | (simp only; omega), by first | omega | (simp only; omega)⟩).trans (by first | omega | (simp only; omega)))) rfl ?_
                refine EL.val (x_assign rfl) rfl ?_
                refine EL.nil ?_
                refine EX.roundD (i + 1, ((yt : Nat) : Int), l.set yt (lf + yc), b.set yt ((i : Nat) : Int)) ⟨rfl, rfl, trivial⟩ (by repeat first | with_reducible exact Sub.refl _ | refine sub_past rfl ?_ | exact Sub.refl _ | refine sub_del rfl ?_ | refine sub_insL_nil ?_) ⟨hlt, hrl hcc, hos, hoe, hol, hob, q2z, hbw⟩ (by simp only; omega)
            ·
              have hbz := Below.refl wz.heap.size wz
              refine EC.seq ?_
              refine EC.seq ?_
              refine EC.region ?_
              refine EL.val (x_move rfl) rfl ?_
              refine EL.val (x_move rfl) rfl ?_
              refine EL.val (ln_123 rfl) rfl ?_
              refine EL.val (x_lss rfl rfl (decide_eq_true (show (((i : Nat) : Int) < ((S1.length : Nat) : Int)) by omega))) rfl ?_
              refine EL.nil ?_
              refine EX.seq ?_
              refine EC.yes rfl ?_
              refine EC.skip ?_
              refine EX.seq ?_
              refine EC.seq ?_
              refine EC.block ?_
              refine EC.seq ?_
              refine EC.regionQ (by kernel_rfl) (by kernel_rfl) ?_
              refine EQ.val (fun _ hw => (x_move rfl)) rfl ?_
              refine EQ.val (fun _ hw => (x_move rfl)) rfl ?_
              refine EQ.val (fun _ hw => (x_move rfl)) rfl ?_
              refine EQ.val (fun _ hw => (ix_123 rfl rfl hlt)) rfl ?_
              refine EQ.val (fun _ hw => (ixa_128 (k := 0) rfl rfl (by omega))) rfl ?_
              refine EQ.val (fun _ hw => (ld_3 rfl (below_load hw c0))) rfl ?_
              refine EQ.val (fun _ hw => (ix_29 rfl rfl hf1)) rfl ?_
              refine EQ.val (fun _ hw => (ld_3 rfl (below_load hw rf_))) rfl ?_
              refine EQ.val (fun _ hw => (x_move rfl)) rfl ?_
              refine EQ.val (fun _ hw => (x_move rfl)) rfl ?_
              refine EQ.val (fun _ hw => (ix_123 rfl rfl hlt)) rfl ?_
              refine EQ.val (fun _ hw => (ixa_128 (k := 2) rfl rfl (by omega))) rfl ?_
              refine EQ.val (fun _ hw => (ld_3 rfl (below_load hw c2))) rfl ?_
              refine EQ.val (fun _ hw => (x_add rfl rfl (c := lf + yc) (IntWalk.i64_in _ ⟨by omega, by omega⟩))) rfl ?_
              refine EQ.val (fun _ hw => (x_assign rfl)) rfl ?_
              refine EQ.fin (fun w12 hw_ => ?_)
              replace q2z := q2z.below hw_ q2z.lt
              replace hos := own_below hos hw_ (Nat.le_refl _)
              replace hoe := own_below hoe hw_ (Nat.le_refl _)
              replace hol := own_below hol hw_ (Nat.le_refl _)
              replace hob := own_below hob hw_ (Nat.le_refl _)
              replace hbw := Below.on hbw hw_ hbw.size
              replace hbz := Below.on hbz hw_ hbz.size
              clear hw_
              refine EX.seq ?_
              refine EC.seq ?_
              refine EC.region ?_
              refine EL.val (x_move rfl) rfl ?_
              refine EL.val (x_move rfl) rfl ?_
              refine EL.val (x_move rfl) rfl ?_
              refine EL.val (x_move rfl) rfl ?_
              refine EL.val (ix_123 rfl rfl hlt) rfl ?_
              refine EL.val (ixa_128 (k := 1) rfl rfl (by omega)) rfl ?_
              refine EL.val (ld_3 rfl (below_load hbz c1)) rfl ?_
              refine EL.val (ix_29 rfl rfl ht1) rfl ?_
              refine EL.val (ld_3 rfl (below_load hbz rt_)) rfl ?_
              refine EL.val (x_lss (r := false) rfl rfl (decide_eq_false (by omega))) rfl ?_
              refine EL.nil ?_
              refine EX.seq ?_
              refine EC.no rfl ?_
              refine EC.skip ?_
              refine EX.blk ?_
              refine EX.seq ?_
              refine EC.region ?_
              refine EL.val (x_move rfl) rfl ?_
              refine EL.val (x_add rfl rfl (c := ((i + 1 : Nat) : Int)) ((IntWalk.i64_in _ ⟨by first | omega | (simp only; omega), by first | omega | (simp only; omega)⟩).trans (by first | omega | (simp only; omega)))) rfl ?_
              refine EL.val (x_assign rfl) rfl ?_
              refine EL.nil ?_
              refine EX.roundD (i + 1, at_, l, b) ⟨rfl, rfl, trivial⟩ (by repeat first | with_reducible exact Sub.refl _ | refine sub_past rfl ?_ | exact Sub.refl _ | refine sub_del rfl ?_ | refine sub_insL_nil ?_) ⟨hlt, hsk hcc, hos, hoe, hol, hob, q2z, hbw⟩ (by simp only; omega)
          ·
            have hie : i = S1.length := by omega
            subst hie
            rcases hata with rfl | ⟨a, rfl, ha1⟩
            ·
              refine EC.seq ?_
              refine EC.seq ?_
              refine EC.region ?_
              refine EL.val (x_move rfl) rfl ?_
              refine EL.val (x_move rfl) rfl ?_
              refine EL.val (ln_123 rfl) rfl ?_
              refine EL.val (x_lss rfl rfl (decide_eq_false (show ¬(((S1.length : Nat) : Int) < ((S1.length : Nat) : Int)) by omega))) rfl ?_
              refine EL.nil ?_
              refine EX.seq ?_
              refine EC.no rfl ?_
              refine EC.exit ?_
              refine EX.seq_exit ?_
              refine EX.seq_exit ?_
              refine EX.blk_here ?_
              refine EX.seq ?_
              refine EC.seq ?_
              refine EC.region ?_
              refine EL.val (x_move rfl) rfl ?_
              refine EL.val (x_lss (r := true) rfl rfl (decide_eq_true (by first | omega | (simp only; omega)))) rfl ?_
              refine EL.nil ?_
              refine EX.seq ?_
              refine EC.yes rfl ?_
              refine EC.seq ?_
              refine EC.region ?_
              refine EL.val (x_assign rfl) rfl ?_
              refine EL.nil ?_
              refine EX.seq ?_
              refine EC.ret ?_
              refine EX.blk_ret ?_
              refine EX.seq_ret ?_
              refine EX.seq_ret ?_
              refine EX.blk_ret ?_
              refine EX.seq_ret ?_
              exact EX.done (res1 rfl rfl) ⟨⟨_, [], rfl, .inl ⟨rfl, ring_none hv ha (l := l) (eS ▸ fun j hj => hre.none j hj hed)⟩, Nat.zero_le _, own_none⟩, hbw⟩
            ·
              refine EC.seq ?_
              refine EC.seq ?_
              refine EC.region ?_
              refine EL.val (x_move rfl) rfl ?_
              refine EL.val (x_move rfl) rfl ?_
              refine EL.val (ln_123 rfl) rfl ?_
              refine EL.val (x_lss rfl rfl (decide_eq_false (show ¬(((S1.length : Nat) : Int) < ((S1.length : Nat) : Int)) by omega))) rfl ?_
              refine EL.nil ?_
              refine EX.seq ?_
              refine EC.no rfl ?_
              refine EC.exit ?_
              refine EX.seq_exit ?_
              refine EX.seq_exit ?_
              refine EX.blk_here ?_
              refine EX.seq ?_
              refine EC.seq ?_
              refine EC.region ?_
              refine EL.val (x_move rfl) rfl ?_
              refine EL.val (x_lss (r := false) rfl rfl (decide_eq_false (by first | omega | (simp only; omega)))) rfl ?_
              refine EL.nil ?_
              refine EX.seq ?_
              refine EC.no rfl ?_
              refine EC.skip ?_
              refine EX.blk ?_
              refine EX.seq ?_
              refine EC.region ?_
              refine EL.val (x_move rfl) rfl ?_
              refine EL.val (x_add rfl rfl (c := ((x + 1 : Nat) : Int)) ((IntWalk.i64_in _ ⟨by first | omega | (simp only; omega), by first | omega | (simp only; omega)⟩).trans (by first | omega | (simp only; omega)))) rfl ?_
              refine EL.val (x_assign rfl) rfl ?_
              refine EL.nil ?_
              refine EX.roundD (x + 1, ((a : Nat) : Int), l, b) ⟨rfl, rfl, trivial⟩ (by repeat first | with_reducible exact Sub.refl _ | refine sub_past rfl ?_ | exact Sub.refl _ | refine sub_del rfl ?_ | refine sub_insL_nil ?_) ⟨by simp only; omega, hre.nextC, hos, hoe, hol, hob, q2z, hbw⟩ (by simp only; omega)
        ·
          have hxe : x = (nt.ports.length + 1) + 1 := by omega
          subst hxe
          obtain ⟨τ, ρ, hrI, _, hra⟩ := hrg
          obtain ⟨a, rfl, ha1, ha2⟩ := hra (by omega)
          obtain ⟨hwk, hon⟩ := ring_at hrI hed (Nat.le_refl _) ha1 ha2
          refine EC.seq ?_
          refine EC.seq ?_
          refine EC.region ?_
          refine EL.val (x_move rfl) rfl ?_
          refine EL.val (x_move rfl) rfl ?_
          refine EL.val (x_add rfl rfl (c := ((nt.ports.length + 1 : Nat) : Int)) ((IntWalk.i64_in _ ⟨by omega, by omega⟩).trans (by omega))) rfl ?_
          refine EL.val (x_leq rfl rfl (decide_eq_false (show ¬((((nt.ports.length + 1) + 1 : Nat) : Int) ≤ (((nt.ports.length + 1) : Nat) : Int)) by omega))) rfl ?_
          refine EL.nil ?_
          refine EX.seq ?_
          refine EC.no rfl ?_
          refine EC.exit ?_
          refine EX.seq_exit ?_
          refine EX.seq_exit ?_
          refine EX.blk_here ?_
          refine EX.seq ?_
          refine EC.seq ?_
          refine EC.seq ?_
          refine EC.region ?_
          refine EL.val (x_assign rfl) rfl ?_
          refine EL.nil ?_
          refine EX.seq ?_
          refine EC.block ?_
          refine EC.loopD [12, 16, 127, 128, 129, 130, 131, 132, 133, 134, 135, 136, 137, 138, 139] (fun z : Nat => [(12, .int .i64 ((itP (predE S1 b0) z a) : Nat)), (16, .int .i64 (z : Nat))]) (fun z W => z ≤ (nt.ports.length + 1) ∧ W.ownsRow w.heap.size 89 2 (.slice (some ⟨bs, 0, none⟩) S1.length cs_) S1.length (stepsC S1) ∧ W.ownsRow w.heap.size 128 3 (.slice (some ⟨be, 0, none⟩) S1.length ce_) S1.length (endsC S1) ∧ W.ownsRow w.heap.size 3 1 (.slice (some ⟨gl, 0, none⟩) (nt.ports.length + 1) (nt.ports.length + 1)) (nt.ports.length + 1) (ints l0) ∧ W.ownsRow w.heap.size 3 1 (.slice (some ⟨gb, 0, none⟩) (nt.ports.length + 1) (nt.ports.length + 1)) (nt.ports.length + 1) (ints b0) ∧ Blk W g1 25 #[.slice Ap nt.ports.length cp_, .slice Aw nt.ways.length cw_] ∧ Below w.heap.size w W) (fun z => (nt.ports.length + 1) - z) 0 ⟨Nat.zero_le _, hos, hoe, hol, hob, q2x, hbw⟩ ⟨rfl, rfl, trivial⟩ ?_
          clear hos hoe hol hob q2x hbw
          rintro k wz ⟨hk, hos, hoe, hol, hob, q2z, hbw⟩
          have hbl := hrI.lb
          by_cases hlt : k < (nt.ports.length + 1)
          ·
            obtain ⟨hn1, hn0, hn2⟩ := hwk k hk
            have hnx : itP (predE S1 b0) (k + 1) a = predE S1 b0 (itP (predE S1 b0) k a) := rfl
            obtain ⟨nd, end_⟩ : ∃ z, z = (itP (predE S1 b0) k a) := ⟨_, rfl⟩
            rw [← end_] at hn1 hn0 hn2 hnx ⊢
            obtain ⟨jn, hjn⟩ := Int.eq_ofNat_of_zero_le hn0
            have hjl : jn < S1.length := by omega
            have rbn := own_int_cell hob (k := nd) (by omega)
            rw [hjn] at rbn
            obtain ⟨c0, _, _⟩ := own_end_cells hoe hjl
            have hpe : (esAt S1 jn).fr = predE S1 b0 nd := by unfold predE; rw [hjn]; rfl
            refine EC.seq ?_
            refine EC.seq ?_
            refine EC.region ?_
            refine EL.val (x_move rfl) rfl ?_
            refine EL.val (x_move rfl) rfl ?_
            refine EL.val (x_leq rfl rfl (decide_eq_true (show (((k : Nat) : Int) ≤ ((nt.ports.length : Nat) : Int)) by omega))) rfl ?_
            refine EL.nil ?_
            refine EX.seq ?_
            refine EC.yes rfl ?_
            refine EC.skip ?_
            refine EX.seq ?_
            refine EC.seq ?_
            refine EC.block ?_
            refine EC.region ?_
            refine EL.val (x_move rfl) rfl ?_
            refine EL.val (x_move rfl) rfl ?_
            refine EL.val (x_move rfl) rfl ?_
            refine EL.val (ix_29 rfl rfl hn1) rfl ?_
            refine EL.val (ld_3 rfl rbn) rfl ?_
            refine EL.val (ix_123 rfl rfl hjl) rfl ?_
            refine EL.val (ixa_128 (k := 0) rfl rfl (by omega)) rfl ?_
            refine EL.val (ld_3 rfl c0) rfl ?_
            refine EL.val (x_assign rfl) rfl ?_
            refine EL.nil ?_
            refine EX.blk ?_
            refine EX.seq ?_
            refine EC.region ?_
            refine EL.val (x_move rfl) rfl ?_
            refine EL.val (x_add rfl rfl (c := ((k + 1 : Nat) : Int)) ((IntWalk.i64_in _ ⟨by first | omega | (simp only; omega), by first | omega | (simp only; omega)⟩).trans (by first | omega | (simp only; omega)))) rfl ?_
            refine EL.val (x_assign rfl) rfl ?_
            refine EL.nil ?_
            refine EX.roundD (k + 1) ⟨agree_nat (by rw [hnx]; exact hpe) rfl, rfl, trivial⟩ (by repeat first | with_reducible exact Sub.refl _ | refine sub_past rfl ?_ | exact Sub.refl _ | refine sub_del rfl ?_ | refine sub_insL_nil ?_) ⟨hlt, hos, hoe, hol, hob, q2z, hbw⟩ (by first | omega | (simp only; omega))
          ·
            have hke : k = (nt.ports.length + 1) := by omega
            subst hke
            obtain ⟨first, efi⟩ : ∃ z, z = (itP (predE S1 b0) (nt.ports.length + 1) a) := ⟨_, rfl⟩
            rw [← efi] at hon ⊢
            refine EC.seq ?_
            refine EC.seq ?_
            refine EC.region ?_
            refine EL.val (x_move rfl) rfl ?_
            refine EL.val (x_move rfl) rfl ?_
            refine EL.val (x_leq rfl rfl (decide_eq_false (show ¬((((nt.ports.length + 1) : Nat) : Int) ≤ ((nt.ports.length : Nat) : Int)) by omega))) rfl ?_
            refine EL.nil ?_
            refine EX.seq ?_
            refine EC.no rfl ?_
            refine EC.exit ?_
            refine EX.seq_exit ?_
            refine EX.seq_exit ?_
            refine EX.blk_here ?_
            refine EX.seq ?_
            refine EC.seq ?_
            refine EC.region ?_
            refine EL.newS bs_85_0 rfl ?_
            intro g13 w13 q13 hb13 hg13 hl13
            have n1_13 : g1 ≠ g13 := Nat.ne_of_lt (Nat.lt_of_lt_of_le q2z.lt hg13)
            have bhbw_13 := Nat.le_trans hbw.size hg13
            have hosl := hos.lt
            replace q2z := q2z.below hb13 q2z.lt
            replace hos := own_below hos hb13 (Nat.le_refl _)
            replace hoe := own_below hoe hb13 (Nat.le_refl _)
            replace hol := own_below hol hb13 (Nat.le_refl _)
            replace hob := own_below hob hb13 (Nat.le_refl _)
            replace hbw := Below.on hbw hb13 hbw.size
            clear hb13 hl13
            have hor : World.ownsRow w13 w.heap.size 89 2 (.slice (some ⟨g13, 0, none⟩) 0 0) 0 [] := own_empty 2 q13 (by have := hbw.size; first | exact bhbw_13 | omega)
            have haps : ∀ g, (Value.slice (some ⟨bs, 0, none⟩) S1.length cs_).ownBlock = some g → g ≠ g13 := fun g h => by exact Nat.ne_of_lt (Nat.lt_of_lt_of_le (hosl g h).2 hg13)
            refine EL.val (x_move rfl) rfl ?_
            refine EL.val (x_assign rfl) rfl ?_
            refine EL.val (x_assign rfl) rfl ?_
            refine EL.nil ?_
            refine EX.seq ?_
            refine EC.block ?_
            obtain ⟨m, hm0, hmb⟩ := hon.back
            refine EC.loopD [4, 12, 17, 19, 142, 143, 144, 145, 146, 147, 148, 149, 150, 151, 152, 153, 154, 155, 156, 157, 158, 159, 160, 161, 162, 163, 164, 165, 166, 167] (fun z : Nat × Value => [(12, .int .i64 ((itP (predE S1 b0) z.1 first) : Nat)), (17, z.2)]) (fun z W => z.1 < m ∧ (∀ k, 0 < k → k ≤ z.1 → (itP (predE S1 b0) k first) ≠ first) ∧ W.ownsRow w.heap.size 89 2 z.2 (ringL S1 (ringC S1 b0 first z.1)).length (stepsC (ringL S1 (ringC S1 b0 first z.1))) ∧ (∀ g, (Value.slice (some ⟨bs, 0, none⟩) S1.length cs_).ownBlock = some g → (z.2 : Value).ownBlock ≠ some g) ∧ W.ownsRow w.heap.size 89 2 (.slice (some ⟨bs, 0, none⟩) S1.length cs_) S1.length (stepsC S1) ∧ W.ownsRow w.heap.size 128 3 (.slice (some ⟨be, 0, none⟩) S1.length ce_) S1.length (endsC S1) ∧ W.ownsRow w.heap.size 3 1 (.slice (some ⟨gl, 0, none⟩) (nt.ports.length + 1) (nt.ports.length + 1)) (nt.ports.length + 1) (ints l0) ∧ W.ownsRow w.heap.size 3 1 (.slice (some ⟨gb, 0, none⟩) (nt.ports.length + 1) (nt.ports.length + 1)) (nt.ports.length + 1) (ints b0) ∧ Blk W g1 25 #[.slice Ap nt.ports.length cp_, .slice Aw nt.ways.length cw_] ∧ Below w.heap.size w W) (fun z => m - z.1) (0, .slice (some ⟨g13, 0, none⟩) 0 0) ⟨hm0, fun k h1 h2 => by omega, hor, fun g h h2 => haps g h (by injection h2 with h2; exact h2.symm), hos, hoe, hol, hob, q2z, hbw⟩ ⟨rfl, rfl, trivial⟩ ?_
            clear hos hoe hol hob hor q2z hbw
            rintro ⟨k, vr⟩ wz ⟨hk, hnr, hor, hapr, hos, hoe, hol, hob, q2z, hbw⟩
            dsimp only at hk hnr hor hapr
            have hbl := hrI.lb
            obtain ⟨hn1, hn0, hn2, _⟩ := hon.node k
            have hnx : (itP (predE S1 b0) (k + 1) first) = predE S1 b0 (itP (predE S1 b0) k first) := rfl
            have hrc := ringC_succ (S := S1) (b := b0) first k
            obtain ⟨nd, end_⟩ : ∃ z, z = (itP (predE S1 b0) k first) := ⟨_, rfl⟩
            rw [← end_] at hn1 hn0 hn2 hnx hrc ⊢
            obtain ⟨jn, hjn⟩ := Int.eq_ofNat_of_zero_le hn0
            have hjl : jn < S1.length := by omega
            have rbn := own_int_cell hob (k := nd) (by omega)
            rw [hjn] at rbn
            obtain ⟨c0, _, _⟩ := own_end_cells hoe hjl
            have hpe : (esAt S1 jn).fr = predE S1 b0 nd := by unfold predE; rw [hjn]; rfl
            have hrc2 : ringL S1 (ringC S1 b0 first (k + 1)) = ringL S1 (ringC S1 b0 first k) ++ (if 0 ≤ (esAt S1 jn).way then [esAt S1 jn] else []) := by rw [hrc, hjn]; exact ringL_snoc
            have hrl := ringL_len (S := S1) (ringC S1 b0 first k)
            have hrcl : (ringC S1 b0 first k).length = k := by simp [ringC]
            obtain ⟨R0, eR0⟩ : ∃ z, z = ringL S1 (ringC S1 b0 first k) := ⟨_, rfl⟩
            rw [← eR0] at hor hrc2 hrl
            obtain ⟨Ar, cr, rfl, _⟩ := (Rd.of_own hor).shape
            have hkm := ring_len_bd (S := S1) hk hmb hnr hon
            obtain ⟨sc0, sc1⟩ := own_step_cells hos hjl
            refine EC.block ?_
            refine EC.cutD [17, 19, 142, 143, 144, 145, 146, 147, 148, 149, 150, 151, 152, 153, 154, 155] (fun v : Value => [(17, v)]) (fun v W => W.ownsRow w.heap.size 89 2 v (R0 ++ if 0 ≤ (esAt S1 jn).way then [esAt S1 jn] else []).length (stepsC (R0 ++ if 0 ≤ (esAt S1 jn).way then [esAt S1 jn] else [])) ∧ (∀ g, (Value.slice (some ⟨bs, 0, none⟩) S1.length cs_).ownBlock = some g → (v : Value).ownBlock ≠ some g) ∧ W.ownsRow w.heap.size 89 2 (.slice (some ⟨bs, 0, none⟩) S1.length cs_) S1.length (stepsC S1) ∧ W.ownsRow w.heap.size 128 3 (.slice (some ⟨be, 0, none⟩) S1.length ce_) S1.length (endsC S1) ∧ W.ownsRow w.heap.size 3 1 (.slice (some ⟨gl, 0, none⟩) (nt.ports.length + 1) (nt.ports.length + 1)) (nt.ports.length + 1) (ints l0) ∧ W.ownsRow w.heap.size 3 1 (.slice (some ⟨gb, 0, none⟩) (nt.ports.length + 1) (nt.ports.length + 1)) (nt.ports.length + 1) (ints b0) ∧ Blk W g1 25 #[.slice Ap nt.ports.length cp_, .slice Aw nt.ways.length cw_] ∧ Below w.heap.size w W) ?_ ?_
            ·
              obtain ⟨sw, esw⟩ : ∃ z, z = esAt S1 jn := ⟨_, rfl⟩
              rw [← esw] at sc0 sc1 ⊢
              by_cases hw0 : 0 ≤ sw.way
              ·
                refine EC.seq ?_
                refine EC.region ?_
                refine EL.val (x_move rfl) rfl ?_
                refine EL.val (x_move rfl) rfl ?_
                refine EL.val (x_move rfl) rfl ?_
                refine EL.val (ix_29 rfl rfl hn1) rfl ?_
                refine EL.val (ld_3 rfl rbn) rfl ?_
                refine EL.val (ix_85 rfl rfl hjl) rfl ?_
                refine EL.val (ld_89 rfl sc0 sc1) rfl ?_
                refine EL.newP al_89 rfl ?_
                intro g14 w14 q14 hb14 hg14 hl14
                have n1_14 : g1 ≠ g14 := Nat.ne_of_lt (Nat.lt_of_lt_of_le q2z.lt hg14)
                have bhbw_14 := Nat.le_trans hbw.size hg14
                have nh_hos_14 := fun k hk => Nat.ne_of_lt (Nat.lt_of_lt_of_le (hos.lt k hk).2 hg14)
                have nh_hor_14 := fun k hk => Nat.ne_of_lt (Nat.lt_of_lt_of_le (hor.lt k hk).2 hg14)
                replace q2z := q2z.below hb14 q2z.lt
                replace hos := own_below hos hb14 (Nat.le_refl _)
                replace hoe := own_below hoe hb14 (Nat.le_refl _)
                replace hol := own_below hol hb14 (Nat.le_refl _)
                replace hob := own_below hob hb14 (Nat.le_refl _)
                replace hor := own_below hor hb14 (Nat.le_refl _)
                replace hbw := Below.on hbw hb14 hbw.size
                clear hb14 hg14 hl14
                refine EL.store rfl rfl q14 sz_89 rfl rfl rfl rfl ?_
                intro w15 hq15 hg15
                replace q2z := q2z.grown hg15 (fun h => n1_14 (Option.some.inj h))
                replace hos := own_bx hos nh_hos_14 hg15
                replace hoe := own_type hoe q14 rfl hg15
                replace hol := own_type hol q14 rfl hg15
                replace hob := own_type hob q14 rfl hg15
                replace hor := own_bx hor nh_hor_14 hg15
                replace hbw := below_store hbw hg15 bhbw_14
                replace q14 := hq15
                clear hg15 hq15
                refine EL.nil ?_
                refine EX.seq ?_
                refine EC.seq ?_
                refine EC.region ?_
                refine EL.val (fa_89_0 rfl) rfl ?_
                refine EL.val (ld_3 rfl (q14.at (j := 0) rfl)) rfl ?_
                refine EL.val (x_geq (r := true) rfl rfl (decide_eq_true (by omega))) rfl ?_
                refine EL.nil ?_
                refine EX.seq ?_
                refine EC.yes rfl ?_
                refine EC.region ?_
                refine EL.val (x_move rfl) rfl ?_
                refine EL.val (ld_89 rfl (q14.at (j := 0) rfl) (q14.at (j := 1) rfl)) rfl ?_
                refine EL.newS (bs_85_1 rfl) rfl ?_
                intro g16 w16 q16 hb16 hg16 hl16
                have n1_16 : g1 ≠ g16 := Nat.ne_of_lt (Nat.lt_of_lt_of_le q2z.lt hg16)
                have n14_16 : g14 ≠ g16 := Nat.ne_of_lt (Nat.lt_of_lt_of_le q14.lt hg16)
                have bhbw_16 := Nat.le_trans hbw.size hg16
                have nh_hos_16 := fun k hk => Nat.ne_of_lt (Nat.lt_of_lt_of_le (hos.lt k hk).2 hg16)
                have nh_hor_16 := fun k hk => Nat.ne_of_lt (Nat.lt_of_lt_of_le (hor.lt k hk).2 hg16)
                replace q2z := q2z.below hb16 q2z.lt
                replace q14 := q14.below hb16 q14.lt
                replace hos := own_below hos hb16 (Nat.le_refl _)
                replace hoe := own_below hoe hb16 (Nat.le_refl _)
                replace hol := own_below hol hb16 (Nat.le_refl _)
                replace hob := own_below hob hb16 (Nat.le_refl _)
                replace hor := own_below hor hb16 (Nat.le_refl _)
                replace hbw := Below.on hbw hb16 hbw.size
                clear hb16 hg16 hl16
                have nx_ := q14.lt
                have hszp := (hor.lt)
                refine EL.push step_elem rfl rfl hor (rd_one (l := [.int .i64 sw.way, .bool sw.back]) q16 rfl) (by intro u hu; simp only [List.mem_cons, List.not_mem_nil, or_false] at hu; rcases hu with rfl | rfl <;> rfl) (by omega) rfl hbw.size rfl ?_
                intro v17 w17 hor2 hgr hb_ hat
                have hapr2 : ∀ g, (Value.slice (some ⟨bs, 0, none⟩) S1.length cs_).ownBlock = some g → v17.ownBlock ≠ some g := fun g h h2 => by rcases hat with h3 | h3; exact hapr g h (h3 ▸ h2); rw [h3] at h2; injection h2 with h2; have h4 := (hos.lt g h).2; omega
                replace hos := own_apart hos hgr (fun g h1 h2 => hapr g h2 h1)
                replace hoe := own_grown hoe hor rfl hgr
                replace hol := own_grown hol hor rfl hgr
                replace hob := own_grown hob hor rfl hgr
                replace q2z := blk_grown q2z hor rfl hgr
                replace hbw := hbw.trans hb_
                clear hor hgr hb_ hat
                refine EL.val (x_assign rfl) rfl ?_
                refine EL.nil ?_
                refine EX.cutE _ ⟨rfl, trivial⟩ (by repeat first | with_reducible exact (Sub.refl _).del _ | refine sub_past rfl ?_ | exact (Sub.refl _).del _ | refine sub_del rfl ?_ | refine sub_insL_nil ?_) ⟨(by rw [if_pos hw0, List.length_append, steps_push]; exact hor2), hapr2, hos, hoe, hol, hob, q2z, hbw⟩
              ·
                refine EC.seq ?_
                refine EC.region ?_
                refine EL.val (x_move rfl) rfl ?_
                refine EL.val (x_move rfl) rfl ?_
                refine EL.val (x_move rfl) rfl ?_
                refine EL.val (ix_29 rfl rfl hn1) rfl ?_
                refine EL.val (ld_3 rfl rbn) rfl ?_
                refine EL.val (ix_85 rfl rfl hjl) rfl ?_
                refine EL.val (ld_89 rfl sc0 sc1) rfl ?_
                refine EL.newP al_89 rfl ?_
                intro g18 w18 q18 hb18 hg18 hl18
                have n1_18 : g1 ≠ g18 := Nat.ne_of_lt (Nat.lt_of_lt_of_le q2z.lt hg18)
                have bhbw_18 := Nat.le_trans hbw.size hg18
                have nh_hos_18 := fun k hk => Nat.ne_of_lt (Nat.lt_of_lt_of_le (hos.lt k hk).2 hg18)
                have nh_hor_18 := fun k hk => Nat.ne_of_lt (Nat.lt_of_lt_of_le (hor.lt k hk).2 hg18)
                replace q2z := q2z.below hb18 q2z.lt
                replace hos := own_below hos hb18 (Nat.le_refl _)
                replace hoe := own_below hoe hb18 (Nat.le_refl _)
                replace hol := own_below hol hb18 (Nat.le_refl _)
                replace hob := own_below hob hb18 (Nat.le_refl _)
                replace hor := own_below hor hb18 (Nat.le_refl _)
                replace hbw := Below.on hbw hb18 hbw.size
                clear hb18 hg18 hl18
                refine EL.store rfl rfl q18 sz_89 rfl rfl rfl rfl ?_
                intro w19 hq19 hg19
                replace q2z := q2z.grown hg19 (fun h => n1_18 (Option.some.inj h))
                replace hos := own_bx hos nh_hos_18 hg19
                replace hoe := own_type hoe q18 rfl hg19
                replace hol := own_type hol q18 rfl hg19
                replace hob := own_type hob q18 rfl hg19
                replace hor := own_bx hor nh_hor_18 hg19
                replace hbw := below_store hbw hg19 bhbw_18
                replace q18 := hq19
                clear hg19 hq19
                refine EL.nil ?_
                refine EX.seq ?_
                refine EC.seq ?_
                refine EC.region ?_
                refine EL.val (fa_89_0 rfl) rfl ?_
                refine EL.val (ld_3 rfl (q18.at (j := 0) rfl)) rfl ?_
                refine EL.val (x_geq (r := false) rfl rfl (decide_eq_false (by omega))) rfl ?_
                refine EL.nil ?_
                refine EX.seq ?_
                refine EC.no rfl ?_
                refine EC.skip ?_
                refine EX.cutE _ ⟨rfl, trivial⟩ (by repeat first | with_reducible exact (Sub.refl _).del _ | refine sub_past rfl ?_ | exact (Sub.refl _).del _ | refine sub_del rfl ?_ | refine sub_insL_nil ?_) ⟨(by rw [if_neg hw0, List.append_nil]; exact hor), hapr, hos, hoe, hol, hob, q2z, hbw⟩
            ·
              clear hos hoe hol hob hor hapr q2z hbw
              rintro vr2 wc ⟨hor, hapr, hos, hoe, hol, hob, q2c, hbw⟩
              rw [← hrc2] at hor
              have rbn := own_int_cell hob (k := nd) (by omega)
              rw [hjn] at rbn
              obtain ⟨c0, _, _⟩ := own_end_cells hoe hjl
              refine EC.seq ?_
              refine EC.region ?_
              refine EL.val (x_move rfl) rfl ?_
              refine EL.val (x_move rfl) rfl ?_
              refine EL.val (x_move rfl) rfl ?_
              refine EL.val (ix_29 rfl rfl hn1) rfl ?_
              refine EL.val (ld_3 rfl rbn) rfl ?_
              refine EL.val (ix_123 rfl rfl hjl) rfl ?_
              refine EL.val (ixa_128 (k := 0) rfl rfl (by omega)) rfl ?_
              refine EL.val (ld_3 rfl c0) rfl ?_
              refine EL.val (x_assign rfl) rfl ?_
              refine EL.nil ?_
              refine EX.seq ?_
              refine EC.seq ?_
              refine EC.region ?_
              refine EL.val (x_move rfl) rfl ?_
              refine EL.val (x_move rfl) rfl ?_
              by_cases hfi : (esAt S1 jn).fr = first
              ·
                refine EL.val (x_eql (r := true) rfl rfl (decide_eq_true (congrArg Int.ofNat hfi))) rfl ?_
                refine EL.nil ?_
                refine EX.seq ?_
                refine EC.yes rfl ?_
                refine EC.seq ?_
                refine EC.region ?_
                refine EL.val (x_move rfl) rfl ?_
                refine EL.val (x_assign rfl) rfl ?_
                refine EL.nil ?_
                refine EX.seq ?_
                refine EC.ret ?_
                refine EX.blk_ret ?_
                refine EX.seq_ret ?_
                refine EX.blk_ret ?_
                exact EX.done (res1 rfl rfl) ⟨⟨_, _, rfl, eS ▸ ring_some hv ha (eS ▸ hon) (m := k + 1) (by omega) (eS ▸ (hnx.trans (hpe.symm.trans hfi))) (fun k' h1 h2 => eS ▸ hnr k' h1 (by omega)), (by have h1 := ringL_len (S := S1) (ringC S1 b0 first (k + 1)); have h2 : (ringC S1 b0 first (k + 1)).length = k + 1 := (by simp [ringC]); omega), hor⟩, hbw⟩
              ·
                refine EL.val (x_eql (r := false) rfl rfl (decide_eq_false (fun h => hfi (Int.ofNat.inj h)))) rfl ?_
                refine EL.nil ?_
                refine EX.seq ?_
                refine EC.no rfl ?_
                refine EC.skip ?_
                refine EX.blk ?_
                refine EX.roundD (k + 1, vr2) ⟨agree_nat (by rw [hnx]; exact hpe) rfl, rfl, trivial⟩ (by repeat first | with_reducible exact Sub.refl _ | refine sub_past rfl ?_ | exact Sub.refl _ | refine sub_del rfl ?_ | refine sub_insL_nil ?_) ⟨(by have h_ : k + 1 ≠ m := (fun h => hfi (by rw [hpe, ← hnx, h]; exact hmb)); simp only; omega), (fun k' h1 h2 => by by_cases e : k' = k + 1; (rw [e, hnx, ← hpe]; exact hfi); exact hnr k' h1 (by first | omega | (simp only at h2; omega))), hor, hapr, hos, hoe, hol, hob, q2c, hbw⟩ (by simp only; omega)
end Go.Proofs.Ytabgmnmpdjnjoaa
set_option linter.unusedVariables false
set_option linter.unusedSimpArgs false
namespace Go.Proofs.Ytabgmnmpdjnjoaa
open Go Go.RowKit
section
variable {n : Nat} {σ : Sg} {w : World} {dst : Option Tmp} {ty : TypeId} {pos : String} {af : Array Edge} {g : Option (Nat × Bool)} {x y z : Operand} {at' : Array TypeId}
theorem cl_45 {x0 : Operand} {v0 : Value} (h0 : evS σ x0 = some v0) (a : Act) (ha : Env n σ a) : (execOp a.eval ⟨dst, .call { callee := .value (.func 45), args := #[x0], argTypes := at' }, ty, pos, af, g⟩).run Try.prog w = .ok (.enter 45 #[v0]) w := by
  simp only [execOp, resolve, List.map_toArray, List.map_cons, List.map_nil, ha.eval h0]
  simp [go_sem, Act.eval]
theorem cl_46 {x0 x1 : Operand} {v0 v1 : Value} (h0 : evS σ x0 = some v0) (h1 : evS σ x1 = some v1) (a : Act) (ha : Env n σ a) : (execOp a.eval ⟨dst, .call { callee := .value (.func 46), args := #[x0, x1], argTypes := at' }, ty, pos, af, g⟩).run Try.prog w = .ok (.enter 46 #[v0, v1]) w := by
  simp only [execOp, resolve, List.map_toArray, List.map_cons, List.map_nil, ha.eval h0, ha.eval h1]
  simp [go_sem, Act.eval]
theorem ln_85 {A : Option Addr} {m c : Nat} (hx : evS σ x = some (.slice A m c)) : Gives Try.prog n σ w ⟨dst, .call { callee := .builtin .len, args := #[x], argTypes := #[85] }, ty, pos, af, g⟩ (.int .i64 (m : Int)) := fun a ha => by
  simp only [execOp, resolve, List.map_toArray, List.map_cons, List.map_nil, ha.eval hx]
  simp [go_sem]
end
end Go.Proofs.Ytabgmnmpdjnjoaa
set_option linter.unusedVariables false
set_option linter.unusedSimpArgs false
namespace Go.Proofs.Ytabgmnmpdjnjoaa
open Go Go.RowKit
theorem takeL_snoc {mv : List Int} {R : List Es} {s : Es} : takeL mv (R ++ [s]) = takeM (takeL mv R) s := by simp [takeL, List.foldl_append]
theorem takeL_len : ∀ (R : List Es) (mv : List Int), (takeL mv R).length = mv.length
  | [], _ => rfl
  | s :: R, mv => by
    show (takeL (takeM mv s) R).length = _
    rw [takeL_len R, takeM_len]
theorem takeM_near {mv : List Int} {s : Es} {a b : Int} (h : ∀ i, a ≤ mv.getD i 0 ∧ mv.getD i 0 ≤ b) (ha : a ≤ 0) (hb : 0 ≤ b) (i : Nat) : a - 1 ≤ (takeM mv s).getD i 0 ∧ (takeM mv s).getD i 0 ≤ b + 1 := by
  have h1 := h i
  have h2 := h s.way.toNat
  unfold takeM
  split
  · omega
  · rw [List.getD_eq_getElem?_getD, List.getElem?_set]
    split
    · split
      · simp only [Option.getD_some]
        split <;> omega
      · simp only [Option.getD_none]
        omega
    · rw [← List.getD_eq_getElem?_getD]
      omega
theorem takeL_near_ : ∀ (R : List Es) {mv : List Int} {a b : Int}, (∀ i, a ≤ mv.getD i 0 ∧ mv.getD i 0 ≤ b) → a ≤ 0 → 0 ≤ b → ∀ i, a - (R.length : Int) ≤ (takeL mv R).getD i 0 ∧ (takeL mv R).getD i 0 ≤ b + (R.length : Int)
  | [], mv, a, b, h, _, _, i => by
    have := h i
    show a - ((0 : Nat) : Int) ≤ mv.getD i 0 ∧ mv.getD i 0 ≤ b + ((0 : Nat) : Int)
    omega
  | s :: R, mv, a, b, h, ha, hb, i => by
    have := takeL_near_ R (mv := takeM mv s) (takeM_near h ha hb) (by omega) (by omega) i
    rw [List.length_cons]
    show a - ((R.length + 1 : Nat) : Int) ≤ (takeL (takeM mv s) R).getD i 0 ∧ (takeL (takeM mv s) R).getD i 0 ≤ b + ((R.length + 1 : Nat) : Int)
    omega
theorem takeL_near {mv : List Int} (h : ∀ i, (0 : Int) ≤ mv.getD i 0 ∧ mv.getD i 0 ≤ 1000) (R : List Es) (i : Nat) : 0 - (R.length : Int) ≤ (takeL mv R).getD i 0 ∧ (takeL mv R).getD i 0 ≤ 1000 + (R.length : Int) := takeL_near_ R h (Int.le_refl _) (by decide) i
theorem near_ok {nt : Net} {mv : List Int} (hv : netB nt = true) (hml : mv.length = nt.ways.length) (hok : okTo nt mv nt.ways.length = true) (i : Nat) : (0 : Int) ≤ mv.getD i 0 ∧ mv.getD i 0 ≤ 1000 := by
  obtain ⟨_, _, _, hvw⟩ := netB_ok hv
  by_cases hi : i < nt.ways.length
  · have h1 := okTo_at hok hi
    have h2 := hvw i hi
    omega
  · rw [show mv.getD i 0 = 0 by simp [List.getD, hml, Nat.le_of_not_lt hi]]
    decide
set_option maxHeartbeats 2000000 in
set_option maxRecDepth 100000 in
theorem rleast_any (nt : Net) (vp vw : Value) (w : World) (B : Nat) (hr : RdNet w B vp vw nt) (hB : B ≤ w.heap.size) (hv : netB nt = true) :
    Calls Try.prog 18 #[.agg #[vp, vw]] w fun e w' => (∃ c ok, e = .returned (.tuple #[.int .i64 c, .bool ok]) ∧ LeastR nt c ok) ∧ Below w.heap.size w w' := by
  obtain ⟨Ap, cp_, rfl, _⟩ := hr.ports.shape
  obtain ⟨Aw, cw_, rfl, _⟩ := hr.ways.shape
  obtain ⟨⟨hp1, hp60⟩, hw300, hvp, hvw⟩ := netB_ok hv
  have hbw := Below.refl w.heap.size w
  refine EC.enter 46 Try.func18 rfl rfl rfl ?_
  refine EC.seq ?_
  refine EC.region ?_
  refine EL.newP (bx_25 rfl) rfl ?_
  intro g1 w1 q1 hb1 hg1 hl1
  have bhbw_1 := Nat.le_trans hbw.size hg1
  replace hbw := Below.on hbw hb1 hbw.size
  clear hb1 hg1 hl1
  refine EL.val (x_assign rfl) rfl ?_
  refine EL.val (x_assign rfl) rfl ?_
  refine EL.nil ?_
  refine EX.seq ?_
  refine EC.seq ?_
  refine EC.region ?_
  refine EL.val (ld_25 rfl (q1.at (j := 0) rfl) (q1.at (j := 1) rfl)) rfl ?_
  refine EL.call (cl_45 rfl) rfl (rfill_any nt _ _ _ B (hr.below (hbw.mono hB)) (Nat.le_trans hB hbw.size) hv) ?_
  rintro e w2 ⟨⟨vm_, vx_, mv, rfl, hF, ho, hox⟩, hc2⟩
  refine ⟨_, rfl, ?_⟩
  replace ho := own_less ho hbw.size
  replace hox := own_less hox hbw.size
  obtain ⟨Am, cm_, rfl, _⟩ := (Rd.of_own ho).shape
  obtain ⟨Ax, cx, rfl, _⟩ := (Rd.of_own hox).shape
  obtain ⟨gx, rfl⟩ := own_slice hox (by omega)
  have hle : (extL nt mv).length = nt.ports.length := extTo_len _
  replace q1 := q1.below hc2 q1.lt
  replace hbw := Below.on hbw hc2 hbw.size
  clear hc2
  refine EL.val (x_move rfl) rfl ?_
  refine EL.val (x_extract rfl rfl) rfl ?_
  refine EL.val (x_extract rfl rfl) rfl ?_
  refine EL.val (x_assign rfl) rfl ?_
  refine EL.val (x_assign rfl) rfl ?_
  refine EL.nil ?_
  refine EX.seq ?_
  refine EC.seq ?_
  refine EC.seq ?_
  refine EC.region ?_
  refine EL.val (x_assign rfl) rfl ?_
  refine EL.nil ?_
  refine EX.seq ?_
  refine EC.block ?_
  refine EC.loopD [2, 3, 6, 14, 15, 16, 17, 18, 19, 20, 21, 22, 23, 24] (fun x : Nat => [(6, .int .i64 (x : Nat))]) (fun x W => x ≤ nt.ports.length ∧ (∀ q, q < x → 0 ≤ (extL nt mv).getD q 0) ∧ W.ownsRow w.heap.size 3 1 (.slice (some ⟨gx, 0, none⟩) nt.ports.length cx) nt.ports.length (ints (extL nt mv)) ∧ W.ownsRow w.heap.size 3 1 (.slice Am nt.ways.length cm_) nt.ways.length (ints mv) ∧ Blk W g1 25 #[.slice Ap nt.ports.length cp_, .slice Aw nt.ways.length cw_] ∧ Below w.heap.size w W) (fun x => nt.ports.length - x) 0 ⟨Nat.zero_le _, fun q h => absurd h (Nat.not_lt_zero _), hox, ho, q1, hbw⟩ ⟨rfl, trivial⟩ ?_
  clear q1 hox ho hbw
  rintro x wy ⟨hx, hnn, hox, ho, q1y, hbw⟩
  by_cases hlt : x < nt.ports.length
  ·
    have rc := own_int_cell hox (k := x) (by omega)
    by_cases hneg : (extL nt mv).getD x 0 < 0
    ·
      refine EC.seq ?_
      refine EC.seq ?_
      refine EC.region ?_
      refine EL.val (x_move rfl) rfl ?_
      refine EL.val (x_move rfl) rfl ?_
      refine EL.val (ln_29 rfl) rfl ?_
      refine EL.val (x_lss rfl rfl (decide_eq_true (show (((x : Nat) : Int) < ((nt.ports.length : Nat) : Int)) by omega))) rfl ?_
      refine EL.nil ?_
      refine EX.seq ?_
      refine EC.yes rfl ?_
      refine EC.skip ?_
      refine EX.seq ?_
      refine EC.seq ?_
      refine EC.block ?_
      refine EC.seq ?_
      refine EC.region ?_
      refine EL.val (x_move rfl) rfl ?_
      refine EL.val (x_move rfl) rfl ?_
      refine EL.val (ix_29 rfl rfl hlt) rfl ?_
      refine EL.val (ld_3 rfl rc) rfl ?_
      refine EL.val (x_lss (r := true) rfl rfl (decide_eq_true (by omega))) rfl ?_
      refine EL.nil ?_
      refine EX.seq ?_
      refine EC.yes rfl ?_
      refine EC.seq ?_
      refine EC.region ?_
      refine EL.val (x_assign rfl) rfl ?_
      refine EL.val (x_assign rfl) rfl ?_
      refine EL.nil ?_
      refine EX.seq ?_
      refine EC.ret ?_
      refine EX.blk_ret ?_
      refine EX.seq_ret ?_
      refine EX.seq_ret ?_
      refine EX.blk_ret ?_
      refine EX.seq_ret ?_
      exact EX.done (res2 rfl rfl rfl) ⟨⟨_, _, rfl, .inr ⟨rfl, rfl, hF.2.2 ⟨x, hlt, hneg⟩⟩⟩, hbw⟩
    ·
      refine EC.seq ?_
      refine EC.seq ?_
      refine EC.region ?_
      refine EL.val (x_move rfl) rfl ?_
      refine EL.val (x_move rfl) rfl ?_
      refine EL.val (ln_29 rfl) rfl ?_
      refine EL.val (x_lss rfl rfl (decide_eq_true (show (((x : Nat) : Int) < ((nt.ports.length : Nat) : Int)) by omega))) rfl ?_
      refine EL.nil ?_
      refine EX.seq ?_
      refine EC.yes rfl ?_
      refine EC.skip ?_
      refine EX.seq ?_
      refine EC.seq ?_
      refine EC.block ?_
      refine EC.seq ?_
      refine EC.region ?_
      refine EL.val (x_move rfl) rfl ?_
      refine EL.val (x_move rfl) rfl ?_
      refine EL.val (ix_29 rfl rfl hlt) rfl ?_
      refine EL.val (ld_3 rfl rc) rfl ?_
      refine EL.val (x_lss (r := false) rfl rfl (decide_eq_false (by omega))) rfl ?_
      refine EL.nil ?_
      refine EX.seq ?_
      refine EC.no rfl ?_
      refine EC.skip ?_
      refine EX.blk ?_
      refine EX.seq ?_
      refine EC.region ?_
      refine EL.val (x_move rfl) rfl ?_
      refine EL.val (x_add rfl rfl (c := ((x + 1 : Nat) : Int)) ((IntWalk.i64_in _ ⟨by first | omega | (simp only; omega), by first | omega | (simp only; omega)⟩).trans (by first | omega | (simp only; omega)))) rfl ?_
      refine EL.val (x_assign rfl) rfl ?_
      refine EL.nil ?_
      refine EX.roundD (x + 1) ⟨rfl, trivial⟩ (by repeat first | with_reducible exact Sub.refl _ | refine sub_past rfl ?_ | exact Sub.refl _ | refine sub_del rfl ?_ | refine sub_insL_nil ?_) ⟨hlt, (fun q hq => by by_cases e : q = x; (subst e; omega); exact hnn q (by omega)), hox, ho, q1y, hbw⟩ (by first | omega | (simp only; omega))
  ·
    have hxe : x = nt.ports.length := by omega
    subst hxe
    have ha := hF.aft hnn
    clear hF hnn hle
    clear hox
    refine EC.seq ?_
    refine EC.seq ?_
    refine EC.region ?_
    refine EL.val (x_move rfl) rfl ?_
    refine EL.val (x_move rfl) rfl ?_
    refine EL.val (ln_29 rfl) rfl ?_
    refine EL.val (x_lss rfl rfl (decide_eq_false (show ¬(((nt.ports.length : Nat) : Int) < ((nt.ports.length : Nat) : Int)) by omega))) rfl ?_
    refine EL.nil ?_
    refine EX.seq ?_
    refine EC.no rfl ?_
    refine EC.exit ?_
    refine EX.seq_exit ?_
    refine EX.seq_exit ?_
    refine EX.blk_here ?_
    refine EX.seq ?_
    refine EC.block ?_
    refine EC.loopD [2, 3, 7, 8, 25, 26, 27, 28, 29, 30, 31, 32, 33, 34, 35, 36, 37, 38, 39, 40, 41, 42, 43, 44, 45] (fun _ : List Int => []) (fun mv W => aftErr nt mv = 0 ∧ W.ownsRow w.heap.size 3 1 (.slice Am nt.ways.length cm_) nt.ways.length (ints mv) ∧ Blk W g1 25 #[.slice Ap nt.ports.length cp_, .slice Aw nt.ways.length cw_] ∧ Below w.heap.size w W) (fun mv => (costL nt mv).toNat) mv ⟨ha, ho, q1y, hbw⟩ trivial ?_
    clear q1y ho ha hbw
    clear mv
    rintro mv wz ⟨ha, ho, q1z, hbw⟩
    obtain ⟨hml, hok, _⟩ := aft_parts ha
    refine EC.block ?_
    refine EC.seq ?_
    refine EC.region ?_
    refine EL.val (ld_25 rfl (q1z.at (j := 0) rfl) (q1z.at (j := 1) rfl)) rfl ?_
    refine EL.val (x_move rfl) rfl ?_
    have hrW : RdNet wz wz.heap.size _ _ nt := ⟨(hr.ports.below (hbw.mono hB)).more (Nat.le_trans hB hbw.size), (hr.ways.below (hbw.mono hB)).more (Nat.le_trans hB hbw.size)⟩
    have hszX := hbw.size
    refine EL.call (cl_46 rfl rfl) rfl (rring_any nt mv _ _ _ _ _ hrW (by rw [hml]; exact Rd.of_own ho) (Nat.le_refl _) hv ha) ?_
    rintro e w3 ⟨⟨vr_, R, rfl, hR, hRl, hor⟩, hc3⟩
    refine ⟨_, rfl, ?_⟩
    obtain ⟨Ar, cr, rfl, _⟩ := (Rd.of_own hor).shape
    replace hor := own_less hor hszX
    replace q1z := q1z.below hc3 q1z.lt
    replace ho := own_below ho hc3 (Nat.le_refl _)
    replace hbw := Below.on hbw hc3 hbw.size
    clear hc3 hrW
    refine EL.val (x_assign rfl) rfl ?_
    refine EL.nil ?_
    refine EX.seq ?_
    refine EC.seq ?_
    refine EC.seq ?_
    refine EC.region ?_
    refine EL.val (x_move rfl) rfl ?_
    refine EL.val (ln_85 rfl) rfl ?_
    rcases hR with ⟨rfl, hmin⟩ | ⟨hne, hway, hak, hck⟩
    ·
      refine EL.val (x_eql (r := true) rfl rfl (decide_eq_true rfl)) rfl ?_
      refine EL.nil ?_
      refine EX.seq ?_
      refine EC.yes rfl ?_
      refine EC.seq ?_
      refine EC.region ?_
      refine EL.val (ld_25 rfl (q1z.at (j := 0) rfl) (q1z.at (j := 1) rfl)) rfl ?_
      refine EL.val (x_move rfl) rfl ?_
      have hrW : RdNet w3 w3.heap.size _ _ nt := ⟨(hr.ports.below (hbw.mono hB)).more (Nat.le_trans hB hbw.size), (hr.ways.below (hbw.mono hB)).more (Nat.le_trans hB hbw.size)⟩
      refine EL.call (cl_21 rfl rfl) rfl (rcost_any nt mv _ _ _ _ _ hrW (by rw [hml]; exact Rd.of_own ho) (Nat.le_refl _) hv ha) ?_
      rintro e w4 ⟨rfl, hc4⟩
      refine ⟨_, rfl, ?_⟩
      replace q1z := q1z.below hc4 q1z.lt
      replace ho := own_below ho hc4 (Nat.le_refl _)
      replace hor := own_below hor hc4 (Nat.le_refl _)
      replace hbw := Below.on hbw hc4 hbw.size
      clear hc4 hrW
      refine EL.val (x_assign rfl) rfl ?_
      refine EL.val (x_assign rfl) rfl ?_
      refine EL.nil ?_
      refine EX.seq ?_
      refine EC.ret ?_
      refine EX.seq_ret ?_
      refine EX.blk_ret ?_
      refine EX.seq_ret ?_
      refine EX.blk_ret ?_
      exact EX.done (res2 rfl rfl rfl) ⟨⟨_, _, rfl, .inl ⟨rfl, _, ha, rfl, hmin⟩⟩, hbw⟩
    ·
      have hRp : 0 < R.length := List.length_pos_iff.2 hne
      obtain ⟨gr, rfl⟩ := own_slice hor hRp
      have hwp : 0 < nt.ways.length := by have h_ := hway _ (List.getElem_mem hRp); omega
      obtain ⟨gm, rfl⟩ := own_slice ho hwp
      refine EL.val (x_eql (r := false) rfl rfl (decide_eq_false (show ¬((R.length : Nat) : Int) = 0 by omega))) rfl ?_
      refine EL.nil ?_
      refine EX.seq ?_
      refine EC.no rfl ?_
      refine EC.skip ?_
      refine EX.seq ?_
      refine EC.seq ?_
      refine EC.region ?_
      refine EL.val (x_assign rfl) rfl ?_
      refine EL.nil ?_
      refine EX.seq ?_
      refine EC.block ?_
      refine EC.loopD [8, 34, 35, 36, 37, 38, 39, 40, 41, 42, 43, 44, 45] (fun x : Nat => [(8, .int .i64 (x : Nat))]) (fun x W => x ≤ R.length ∧ W.ownsRow w.heap.size 3 1 (.slice (some ⟨gm, 0, none⟩) nt.ways.length cm_) nt.ways.length (ints (takeL mv (R.take x))) ∧ W.ownsRow w.heap.size 89 2 (.slice (some ⟨gr, 0, none⟩) R.length cr) R.length (stepsC R) ∧ Blk W g1 25 #[.slice Ap nt.ports.length cp_, .slice Aw nt.ways.length cw_] ∧ Below w.heap.size w W) (fun x => R.length - x) 0 ⟨Nat.zero_le _, ho, hor, q1z, hbw⟩ ⟨rfl, trivial⟩ ?_
      clear q1z ho hor hbw
      rintro x wu ⟨hx, ho, hor, q1u, hbw⟩
      by_cases hlt : x < R.length
      ·
        have hst : R.take (x + 1) = R.take x ++ [esAt R x] := by rw [List.take_succ_eq_append_getElem hlt]; unfold esAt; rw [getD_in hlt]
        have hwy := hway (esAt R x) (by unfold esAt; rw [getD_in hlt]; exact List.getElem_mem hlt)
        have hmb := takeL_near (near_ok hv hml hok) (R.take x) (esAt R x).way.toNat
        have htl : (R.take x).length ≤ 61 := by rw [List.length_take]; omega
        have hml2 := takeL_len (R.take x) mv
        obtain ⟨sc0, sc1⟩ := own_step_cells hor hlt
        refine EC.seq ?_
        refine EC.seq ?_
        refine EC.region ?_
        refine EL.val (x_move rfl) rfl ?_
        refine EL.val (x_move rfl) rfl ?_
        refine EL.val (ln_85 rfl) rfl ?_
        refine EL.val (x_lss rfl rfl (decide_eq_true (show (((x : Nat) : Int) < ((R.length : Nat) : Int)) by omega))) rfl ?_
        refine EL.nil ?_
        refine EX.seq ?_
        refine EC.yes rfl ?_
        refine EC.skip ?_
        refine EX.seq ?_
        refine EC.seq ?_
        refine EC.block ?_
        refine EC.region ?_
        refine EL.val (x_move rfl) rfl ?_
        refine EL.val (x_move rfl) rfl ?_
        refine EL.val (x_move rfl) rfl ?_
        refine EL.val (ix_85 rfl rfl hlt) rfl ?_
        refine EL.val (ld_89 rfl sc0 sc1) rfl ?_
        refine EL.call (cl_47 rfl rfl) rfl (take_any (s := esAt R x) _ ho (by omega) hwy.1 hwy.2 (by omega)) ?_
        rintro e w5 ⟨rfl, ho2, hgr⟩
        refine ⟨_, rfl, ?_⟩
        replace hor := own_grown hor ho rfl hgr
        replace q1u := blk_grown q1u ho rfl hgr
        replace hbw := hbw.trans (below_row ho hgr hbw.size)
        clear ho hgr
        have ho := ho2
        clear ho2
        refine EL.nil ?_
        refine EX.blk ?_
        refine EX.seq ?_
        refine EC.region ?_
        refine EL.val (x_move rfl) rfl ?_
        refine EL.val (x_add rfl rfl (c := ((x + 1 : Nat) : Int)) ((IntWalk.i64_in _ ⟨by first | omega | (simp only; omega), by first | omega | (simp only; omega)⟩).trans (by first | omega | (simp only; omega)))) rfl ?_
        refine EL.val (x_assign rfl) rfl ?_
        refine EL.nil ?_
        refine EX.roundD (x + 1) ⟨rfl, trivial⟩ (by repeat first | with_reducible exact Sub.refl _ | refine sub_past rfl ?_ | exact Sub.refl _ | refine sub_del rfl ?_ | refine sub_insL_nil ?_) ⟨hlt, by rw [hst, takeL_snoc]; exact ho, hor, q1u, hbw⟩ (by first | omega | (simp only; omega))
      ·
        have hxe : x = R.length := by omega
        subst hxe
        rw [List.take_length] at ho
        clear hor
        refine EC.seq ?_
        refine EC.seq ?_
        refine EC.region ?_
        refine EL.val (x_move rfl) rfl ?_
        refine EL.val (x_move rfl) rfl ?_
        refine EL.val (ln_85 rfl) rfl ?_
        refine EL.val (x_lss rfl rfl (decide_eq_false (show ¬(((R.length : Nat) : Int) < ((R.length : Nat) : Int)) by omega))) rfl ?_
        refine EL.nil ?_
        refine EX.seq ?_
        refine EC.no rfl ?_
        refine EC.exit ?_
        refine EX.seq_exit ?_
        refine EX.seq_exit ?_
        refine EX.blk_here ?_
        refine EX.blk ?_
        refine EX.roundD (takeL mv R) trivial (by repeat first | with_reducible exact Sub.refl _ | refine sub_past rfl ?_ | exact Sub.refl _ | refine sub_del rfl ?_ | refine sub_insL_nil ?_) ⟨hak, ho, q1u, hbw⟩ (by have h1 := (cost_bd hv _ (Nat.le_refl _) (aft_parts hak).2.1).1; have h2 : costL nt (takeL mv R) = costTo nt (takeL mv R) nt.ways.length := rfl; show (costL nt (takeL mv R)).toNat < (costL nt mv).toNat; omega)
end Go.Proofs.Ytabgmnmpdjnjoaa
set_option linter.unusedVariables false
set_option linter.unusedSimpArgs false
namespace Go.Proofs.Ytabgmnmpdjnjoaa
open Go Go.RowKit
section
variable {n : Nat} {σ : Sg} {w : World} {dst : Option Tmp} {ty : TypeId} {pos : String} {af : Array Edge} {g : Option (Nat × Bool)} {x y z : Operand} {at' : Array TypeId}
theorem cl_18 {x0 : Operand} {v0 : Value} (h0 : evS σ x0 = some v0) (a : Act) (ha : Env n σ a) : (execOp a.eval ⟨dst, .call { callee := .value (.func 18), args := #[x0], argTypes := at' }, ty, pos, af, g⟩).run Try.prog w = .ok (.enter 18 #[v0]) w := by
  simp only [execOp, resolve, List.map_toArray, List.map_cons, List.map_nil, ha.eval h0]
  simp [go_sem, Act.eval]
end
end Go.Proofs.Ytabgmnmpdjnjoaa
set_option linter.unusedVariables false
set_option linter.unusedSimpArgs false
namespace Go.Proofs.Ytabgmnmpdjnjoaa
open Go Go.RowKit
theorem rleast_to {nt : Net} {ml pr : List Int} {c e0 : Int} {b : Bool} (hv : netB nt = true) (hm : MoveR nt ml c pr e0) (hb : decide (e0 = 0) = b) (vp vw : Value) (w : World) (B : Nat) (hr : RdNet w B vp vw nt) (hB : B ≤ w.heap.size) :
    Calls Try.prog 18 #[.agg #[vp, vw]] w fun e w' => e = .returned (.tuple #[.int .i64 c, .bool b]) ∧ Below w.heap.size w w' := by
  refine (rleast_any nt vp vw w B hr hB hv).mono ?_
  rintro e w' ⟨⟨c2, ok, rfl, hl⟩, hb'⟩
  refine ⟨?_, hb'⟩
  rcases least_move hv hm hl with ⟨rfl, rfl, rfl⟩ | ⟨rfl, rfl, rfl, rfl, rfl, rfl⟩ <;> subst hb <;> rfl
end Go.Proofs.Ytabgmnmpdjnjoaa
set_option linter.unusedVariables false
set_option linter.unusedSimpArgs false
namespace Go.Proofs.Ytabgmnmpdjnjoaa
open Go Go.RowKit
theorem more_none {nt : Net} {i : Nat} {m e e0 c : Int} {ml pr : List Int} (hv : netB nt = true) (hi : i < nt.ports.length) (hh : (nt.ports.getD i prt0).has ≠ 1000) (hM : MoveR nt ml c pr e0) (he : e0 ≠ 0) (h : MoreR nt (i : Nat) m e) : m = 0 ∧ e = 9 := by
  rcases h with ⟨h1, _⟩ | ⟨_, ⟨h1, _⟩ | ⟨_, ⟨h1, _⟩ | ⟨_, ml1, c1, pr1, e1, hm, ⟨_, h2, h3⟩ | ⟨h1, _⟩⟩⟩⟩
  · rw [hv] at h1; cases h1
  · exact absurd ⟨by omega, by omega⟩ h1
  · rw [Int.toNat_natCast] at h1; exact absurd h1 hh
  · exact ⟨h2, h3⟩
  · exact absurd ((hM.one hm).2.2.2.trans h1) he
theorem more_some {nt : Net} {i : Nat} {m e c : Int} {ml pr : List Int} (hv : netB nt = true) (hi : i < nt.ports.length) (hh : (nt.ports.getD i prt0).has ≠ 1000) (hM : MoveR nt ml c pr 0) (h : MoreR nt (i : Nat) m e) : e = 0 ∧ ∃ ml2 c2 pr2 e2, MoveR (moreN nt i) ml2 c2 pr2 e2 ∧ m = c - c2 := by
  rcases h with ⟨h1, _⟩ | ⟨_, ⟨h1, _⟩ | ⟨_, ⟨h1, _⟩ | ⟨_, ml1, c1, pr1, e1, hm, ⟨h1, _, _⟩ | ⟨_, h2, ml2, c2, pr2, e2, h3, h4⟩⟩⟩⟩
  · rw [hv] at h1; cases h1
  · exact absurd ⟨by omega, by omega⟩ h1
  · rw [Int.toNat_natCast] at h1; exact absurd h1 hh
  · exact absurd (hM.one hm).2.2.2.symm h1
  · rw [Int.toNat_natCast] at h3
    have := (hM.one hm).2.1
    exact ⟨h2, ml2, c2, pr2, e2, h3, by omega⟩
end Go.Proofs.Ytabgmnmpdjnjoaa
set_option linter.unusedVariables false
set_option linter.unusedSimpArgs false
namespace Go.Proofs.Ytabgmnmpdjnjoaa
open Go Go.RowKit
theorem more_bad {nt : Net} {p m e : Int} (hv : netB nt = false) (h : MoreR nt p m e) : m = 0 ∧ e = 2 := by
  rcases h with ⟨_, h1, h2⟩ | ⟨h1, _⟩
  · exact ⟨h1, h2⟩
  · rw [hv] at h1; cases h1
theorem more_port {nt : Net} {p m e : Int} (hv : netB nt = true) (hp : ¬(0 ≤ p ∧ p < nt.ports.length)) (h : MoreR nt p m e) : m = 0 ∧ e = 7 := by
  rcases h with ⟨h1, _⟩ | ⟨_, ⟨_, h1, h2⟩ | ⟨h1, _⟩⟩
  · rw [hv] at h1; cases h1
  · exact ⟨h1, h2⟩
  · exact absurd h1 hp
theorem more_full {nt : Net} {i : Nat} {m e : Int} (hv : netB nt = true) (hi : i < nt.ports.length) (hh : (nt.ports.getD i prt0).has = 1000) (h : MoreR nt (i : Nat) m e) : m = 0 ∧ e = 8 := by
  rcases h with ⟨h1, _⟩ | ⟨_, ⟨h1, _⟩ | ⟨_, ⟨_, h1, h2⟩ | ⟨h1, _⟩⟩⟩
  · rw [hv] at h1; cases h1
  · exact absurd ⟨by omega, by omega⟩ h1
  · exact ⟨h1, h2⟩
  · rw [Int.toNat_natCast] at h1; exact absurd hh h1
theorem more_rest {nt : Net} {i : Nat} {m e : Int} (hv : netB nt = true) (hi : i < nt.ports.length) (hh : (nt.ports.getD i prt0).has ≠ 1000) (h : MoreR nt (i : Nat) m e) : ∃ ml c pr e0, MoveR nt ml c pr e0 := by
  rcases h with ⟨h1, _⟩ | ⟨_, ⟨h1, _⟩ | ⟨_, ⟨h1, _, _⟩ | ⟨_, ml, c, pr, e0, h1, _⟩⟩⟩
  · rw [hv] at h1; cases h1
  · exact absurd ⟨by omega, by omega⟩ h1
  · rw [Int.toNat_natCast] at h1; exact absurd h1 hh
  · exact ⟨ml, c, pr, e0, h1⟩
set_option maxHeartbeats 1000000 in
set_option maxRecDepth 100000 in
theorem more_law (nt : Net) (vp vw : Value) (w : World) (B : Nat) (hr : RdNet w B vp vw nt) (hB : B ≤ w.heap.size) (hm1 : nt.ports.length ≤ 9223372036854775807) (hm2 : nt.ways.length ≤ 9223372036854775807) (p : Int) :
    Calls Try.prog 5 #[.agg #[vp, vw], .int .i64 p] w fun e w' => e = .returned (.bool true) ∧ Below w.heap.size w w' := by
  obtain ⟨Ap, cp_, rfl, _⟩ := hr.ports.shape
  obtain ⟨Aw, cw_, rfl, _⟩ := hr.ways.shape
  have hbw := Below.refl w.heap.size w
  refine EC.enter 98 Try.func5 rfl rfl rfl ?_
  refine EC.seq ?_
  refine EC.region ?_
  refine EL.newP (bx_25 rfl) rfl ?_
  intro g1 w1 q1 hb1 hg1 hl1
  have bhbw_1 := Nat.le_trans hbw.size hg1
  replace hbw := Below.on hbw hb1 hbw.size
  clear hb1 hg1 hl1
  refine EL.val (x_assign rfl) rfl ?_
  refine EL.nil ?_
  refine EX.seq ?_
  refine EC.seq ?_
  refine EC.seq ?_
  refine EC.region ?_
  refine EL.val (ld_25 rfl (q1.at (j := 0) rfl) (q1.at (j := 1) rfl)) rfl ?_
  cases hhe : heavyB nt
  ·
    obtain ⟨hn1, hn2⟩ := heavy_small hhe
    refine EL.call (cl_12 rfl) rfl (heavy_to nt _ _ _ B (hr.below (hbw.mono hB)) (Nat.le_trans hB hbw.size) hm1 hm2 hhe) ?_
    rintro e w2 ⟨rfl, hc2⟩
    refine ⟨_, rfl, ?_⟩
    replace q1 := q1.below hc2 q1.lt
    replace hbw := Below.on hbw hc2 hbw.size
    clear hc2
    refine EL.nil ?_
    refine EX.seq ?_
    refine EC.no rfl ?_
    refine EC.skip ?_
    refine EX.seq ?_
    refine EC.seq ?_
    refine EC.region ?_
    refine EL.val (ld_25 rfl (q1.at (j := 0) rfl) (q1.at (j := 1) rfl)) rfl ?_
    refine EL.call (cl_14 rfl) rfl (copied_any nt _ _ _ B (hr.below (hbw.mono hB)) (Nat.le_trans hB hbw.size) (by omega) (by omega)) ?_
    rintro e w3 ⟨⟨vp3, vw3, rfl, ho3⟩, hc3⟩
    refine ⟨_, rfl, ?_⟩
    replace q1 := q1.below hc3 q1.lt
    replace hbw := Below.on hbw hc3 hbw.size
    clear hc3
    obtain ⟨Bp3, dp3, rfl, _⟩ := (Rd.of_own ho3.ports).shape
    obtain ⟨Bw3, dw3, rfl, _⟩ := (Rd.of_own ho3.ways).shape
    refine EL.newP al_25 rfl ?_
    intro g4 w4 q4 hb4 hg4 hl4
    have n1_4 : g1 ≠ g4 := Nat.ne_of_lt (Nat.lt_of_lt_of_le q1.lt hg4)
    have bhbw_4 := Nat.le_trans hbw.size hg4
    replace q1 := q1.below hb4 q1.lt
    replace ho3 := ho3.below hb4
    replace hbw := Below.on hbw hb4 hbw.size
    clear hb4 hg4 hl4
    refine EL.store rfl rfl q4 sz_25 rfl rfl rfl rfl ?_
    intro w5 hq5 hg5
    replace q1 := q1.grown hg5 (fun h => n1_4 (Option.some.inj h))
    replace ho3 := ho3.box q4 rfl rfl hg5
    replace hbw := below_store hbw hg5 bhbw_4
    replace q4 := hq5
    clear hg5 hq5
    refine EL.nil ?_
    refine EX.seq ?_
    refine EC.seq ?_
    refine EC.region ?_
    refine EL.val (ld_25 rfl (q4.at (j := 0) rfl) (q4.at (j := 1) rfl)) rfl ?_
    refine EL.val (x_move rfl) rfl ?_
    refine EL.call (cl_26 rfl rfl) rfl (more_any nt p _ _ _ _ ho3.rd (Nat.le_refl _) (by omega) (by omega)) ?_
    rintro e w6 ⟨⟨m, err, rfl, hmr⟩, hc6⟩
    refine ⟨_, rfl, ?_⟩
    replace q1 := q1.below hc6 q1.lt
    replace q4 := q4.below hc6 q4.lt
    replace ho3 := ho3.below hc6
    replace hbw := Below.on hbw hc6 hbw.size
    clear hc6
    refine EL.val (x_move rfl) rfl ?_
    refine EL.val (x_extract rfl rfl) rfl ?_
    refine EL.val (x_extract rfl rfl) rfl ?_
    refine EL.val (x_assign rfl) rfl ?_
    refine EL.val (x_assign rfl) rfl ?_
    refine EL.nil ?_
    refine EX.seq ?_
    refine EC.seq ?_
    refine EC.seq ?_
    refine EC.region ?_
    refine EL.val (ld_25 rfl (q4.at (j := 0) rfl) (q4.at (j := 1) rfl)) rfl ?_
    refine EL.val (ld_25 rfl (q1.at (j := 0) rfl) (q1.at (j := 1) rfl)) rfl ?_
    refine EL.call (cl_16 rfl rfl) rfl (same_same nt _ _ _ _ _ _ ho3.rd ((hr.below (hbw.mono hB)).more (Nat.le_trans hB hbw.size)) (Nat.le_refl _) (by omega) (by omega)) ?_
    rintro e w7 ⟨rfl, hc7⟩
    refine ⟨_, rfl, ?_⟩
    replace q1 := q1.below hc7 q1.lt
    replace q4 := q4.below hc7 q4.lt
    replace ho3 := ho3.below hc7
    replace hbw := Below.on hbw hc7 hbw.size
    clear hc7
    refine EL.val (x_not rfl) rfl ?_
    refine EL.nil ?_
    refine EX.seq ?_
    refine EC.no rfl ?_
    refine EC.skip ?_
    refine EX.seq ?_
    refine EC.seq ?_
    refine EC.region ?_
    refine EL.val (x_assign rfl) rfl ?_
    refine EL.nil ?_
    refine EX.seq ?_
    refine EC.seq ?_
    refine EC.region ?_
    refine EL.val (x_assign rfl) rfl ?_
    refine EL.val (x_assign rfl) rfl ?_
    refine EL.nil ?_
    refine EX.seq ?_
    refine EC.seq ?_
    refine EC.block ?_
    refine EC.seq ?_
    refine EC.region ?_
    refine EL.val (ld_25 rfl (q1.at (j := 0) rfl) (q1.at (j := 1) rfl)) rfl ?_
    cases hv : netB nt
    ·
      obtain ⟨rfl, rfl⟩ := more_bad hv hmr
      refine EL.call (cl_17 rfl) rfl (rnet_to (b := false) hv _ _ _ B (hr.below (hbw.mono hB)) (Nat.le_trans hB hbw.size) (by omega) (by omega)) ?_
      rintro e w8 ⟨rfl, hc8⟩
      refine ⟨_, rfl, ?_⟩
      replace q1 := q1.below hc8 q1.lt
      replace q4 := q4.below hc8 q4.lt
      replace hbw := Below.on hbw hc8 hbw.size
      clear hc8
      refine EL.val (x_not rfl) rfl ?_
      refine EL.val (x_assign rfl) rfl ?_
      refine EL.nil ?_
      refine EX.seq ?_
      refine EC.yes rfl ?_
      refine EC.region ?_
      refine EL.val (x_assign rfl) rfl ?_
      refine EL.nil ?_
      refine EX.blk ?_
      refine EX.seq ?_
      refine EC.seq ?_
      refine EC.seq ?_
      refine EC.region ?_
      refine EL.val (x_move rfl) rfl ?_
      refine EL.val (x_neq (r := true) rfl rfl (by decide)) rfl ?_
      refine EL.nil ?_
      refine EX.seq ?_
      refine EC.yes rfl ?_
      refine EC.seq ?_
      refine EC.region ?_
      refine EL.val (x_move rfl) rfl ?_
      refine EL.val (x_move rfl) rfl ?_
      refine EL.val (x_eql (r := true) rfl rfl (decide_eq_true rfl)) rfl ?_
      refine EL.val (x_move rfl) rfl ?_
      refine EL.valg rfl rfl (x_move rfl) rfl ?_
      refine EL.valg rfl rfl (x_eql (r := true) rfl rfl (decide_eq_true rfl)) rfl ?_
      refine EL.val (x_pick_t rfl rfl) rfl ?_
      refine EL.val (x_move rfl) rfl ?_
      refine EL.callg rfl rfl cl_13 rfl (known_any _) ?_
      rintro e w9 ⟨rfl, hc9⟩
      refine ⟨_, rfl, ?_⟩
      replace q1 := q1.below hc9 q1.lt
      replace q4 := q4.below hc9 q4.lt
      replace hbw := Below.on hbw hc9 hbw.size
      clear hc9
      refine EL.val (x_pick_t rfl rfl) rfl ?_
      refine EL.val (x_assign rfl) rfl ?_
      refine EL.nil ?_
      refine EX.seq ?_
      refine EC.ret ?_
      refine EX.seq_ret ?_
      exact EX.done (res1 rfl rfl) ⟨rfl, hbw⟩
    ·
      obtain ⟨⟨hp1, hp60⟩, hw300, hvp, hvw⟩ := netB_ok hv
      refine EL.call (cl_17 rfl) rfl (rnet_to (b := true) hv _ _ _ B (hr.below (hbw.mono hB)) (Nat.le_trans hB hbw.size) (by omega) (by omega)) ?_
      rintro e w10 ⟨rfl, hc10⟩
      refine ⟨_, rfl, ?_⟩
      replace q1 := q1.below hc10 q1.lt
      replace q4 := q4.below hc10 q4.lt
      replace hbw := Below.on hbw hc10 hbw.size
      clear hc10
      refine EL.val (x_not rfl) rfl ?_
      refine EL.val (x_assign rfl) rfl ?_
      refine EL.nil ?_
      refine EX.seq ?_
      refine EC.no rfl ?_
      refine EC.seq ?_
      refine EC.region ?_
      refine EL.val (x_move rfl) rfl ?_
      by_cases hlm1 : p < 0
      ·
        obtain ⟨rfl, rfl⟩ := more_port hv (by omega) hmr
        refine EL.val (x_lss (r := true) rfl rfl (decide_eq_true (by omega))) rfl ?_
        refine EL.val (x_move rfl) rfl ?_
        refine EL.skip rfl rfl rfl rfl ?_
        refine EL.skip rfl rfl rfl rfl ?_
        refine EL.skip rfl rfl rfl rfl ?_
        refine EL.skip rfl rfl rfl rfl ?_
        refine EL.skip rfl rfl rfl rfl ?_
        refine EL.val (x_pick_t rfl rfl) rfl ?_
        refine EL.val (x_assign rfl) rfl ?_
        refine EL.nil ?_
        refine EX.seq ?_
        refine EC.yes rfl ?_
        refine EC.region ?_
        refine EL.val (x_assign rfl) rfl ?_
        refine EL.nil ?_
        refine EX.blk ?_
        refine EX.seq ?_
        refine EC.seq ?_
        refine EC.seq ?_
        refine EC.region ?_
        refine EL.val (x_move rfl) rfl ?_
        refine EL.val (x_neq (r := true) rfl rfl (by decide)) rfl ?_
        refine EL.nil ?_
        refine EX.seq ?_
        refine EC.yes rfl ?_
        refine EC.seq ?_
        refine EC.region ?_
        refine EL.val (x_move rfl) rfl ?_
        refine EL.val (x_move rfl) rfl ?_
        refine EL.val (x_eql (r := true) rfl rfl (decide_eq_true rfl)) rfl ?_
        refine EL.val (x_move rfl) rfl ?_
        refine EL.valg rfl rfl (x_move rfl) rfl ?_
        refine EL.valg rfl rfl (x_eql (r := true) rfl rfl (decide_eq_true rfl)) rfl ?_
        refine EL.val (x_pick_t rfl rfl) rfl ?_
        refine EL.val (x_move rfl) rfl ?_
        refine EL.callg rfl rfl cl_13 rfl (known_any _) ?_
        rintro e w11 ⟨rfl, hc11⟩
        refine ⟨_, rfl, ?_⟩
        replace q1 := q1.below hc11 q1.lt
        replace q4 := q4.below hc11 q4.lt
        replace hbw := Below.on hbw hc11 hbw.size
        clear hc11
        refine EL.val (x_pick_t rfl rfl) rfl ?_
        refine EL.val (x_assign rfl) rfl ?_
        refine EL.nil ?_
        refine EX.seq ?_
        refine EC.ret ?_
        refine EX.seq_ret ?_
        exact EX.done (res1 rfl rfl) ⟨rfl, hbw⟩
      ·
        refine EL.val (x_lss (r := false) rfl rfl (decide_eq_false (by omega))) rfl ?_
        refine EL.val (x_move rfl) rfl ?_
        refine EL.valg rfl rfl (x_move rfl) rfl ?_
        refine EL.valg rfl rfl (fa_25_0 rfl) rfl ?_
        refine EL.valg rfl rfl (ld_22 rfl (q1.at (j := 0) rfl)) rfl ?_
        refine EL.valg rfl rfl (ln_22 rfl) rfl ?_
        by_cases hlm2 : (nt.ports.length : Int) ≤ p
        ·
          obtain ⟨rfl, rfl⟩ := more_port hv (by omega) hmr
          refine EL.valg rfl rfl (x_geq (r := true) rfl rfl (decide_eq_true (by omega))) rfl ?_
          refine EL.val (x_pick_f rfl rfl) rfl ?_
          refine EL.val (x_assign rfl) rfl ?_
          refine EL.nil ?_
          refine EX.seq ?_
          refine EC.yes rfl ?_
          refine EC.region ?_
          refine EL.val (x_assign rfl) rfl ?_
          refine EL.nil ?_
          refine EX.blk ?_
          refine EX.seq ?_
          refine EC.seq ?_
          refine EC.seq ?_
          refine EC.region ?_
          refine EL.val (x_move rfl) rfl ?_
          refine EL.val (x_neq (r := true) rfl rfl (by decide)) rfl ?_
          refine EL.nil ?_
          refine EX.seq ?_
          refine EC.yes rfl ?_
          refine EC.seq ?_
          refine EC.region ?_
          refine EL.val (x_move rfl) rfl ?_
          refine EL.val (x_move rfl) rfl ?_
          refine EL.val (x_eql (r := true) rfl rfl (decide_eq_true rfl)) rfl ?_
          refine EL.val (x_move rfl) rfl ?_
          refine EL.valg rfl rfl (x_move rfl) rfl ?_
          refine EL.valg rfl rfl (x_eql (r := true) rfl rfl (decide_eq_true rfl)) rfl ?_
          refine EL.val (x_pick_t rfl rfl) rfl ?_
          refine EL.val (x_move rfl) rfl ?_
          refine EL.callg rfl rfl cl_13 rfl (known_any _) ?_
          rintro e w12 ⟨rfl, hc12⟩
          refine ⟨_, rfl, ?_⟩
          replace q1 := q1.below hc12 q1.lt
          replace q4 := q4.below hc12 q4.lt
          replace hbw := Below.on hbw hc12 hbw.size
          clear hc12
          refine EL.val (x_pick_t rfl rfl) rfl ?_
          refine EL.val (x_assign rfl) rfl ?_
          refine EL.nil ?_
          refine EX.seq ?_
          refine EC.ret ?_
          refine EX.seq_ret ?_
          exact EX.done (res1 rfl rfl) ⟨rfl, hbw⟩
        ·
          obtain ⟨i, rfl⟩ : ∃ i : Nat, p = (i : Int) := ⟨p.toNat, by omega⟩
          have hi : i < nt.ports.length := by omega
          have hpi := hvp i hi
          obtain ⟨bp, op, e_, _, pc0, pc1⟩ := prts_cells nt.ports i hi _ _ _ _ _ hr.ports
          subst e_
          refine EL.valg rfl rfl (x_geq (r := false) rfl rfl (decide_eq_false (by omega))) rfl ?_
          refine EL.val (x_pick_f rfl rfl) rfl ?_
          refine EL.val (x_assign rfl) rfl ?_
          refine EL.nil ?_
          refine EX.seq ?_
          refine EC.no rfl ?_
          refine EC.seq ?_
          refine EC.region ?_
          refine EL.val (fa_25_0 rfl) rfl ?_
          refine EL.val (ld_22 rfl (q1.at (j := 0) rfl)) rfl ?_
          refine EL.val (x_move rfl) rfl ?_
          refine EL.val (ix_22 rfl rfl hi) rfl ?_
          refine EL.val (fa_47_0 rfl) rfl ?_
          refine EL.val (ld_3 rfl (below_load hbw pc0)) rfl ?_
          by_cases hlm3 : (nt.ports.getD i prt0).has = 1000
          ·
            obtain ⟨rfl, rfl⟩ := more_full hv hi hlm3 hmr
            refine EL.val (x_eql (r := true) rfl rfl (decide_eq_true (by omega))) rfl ?_
            refine EL.val (x_assign rfl) rfl ?_
            refine EL.nil ?_
            refine EX.seq ?_
            refine EC.yes rfl ?_
            refine EC.region ?_
            refine EL.val (x_assign rfl) rfl ?_
            refine EL.nil ?_
            refine EX.blk ?_
            refine EX.seq ?_
            refine EC.seq ?_
            refine EC.seq ?_
            refine EC.region ?_
            refine EL.val (x_move rfl) rfl ?_
            refine EL.val (x_neq (r := true) rfl rfl (by decide)) rfl ?_
            refine EL.nil ?_
            refine EX.seq ?_
            refine EC.yes rfl ?_
            refine EC.seq ?_
            refine EC.region ?_
            refine EL.val (x_move rfl) rfl ?_
            refine EL.val (x_move rfl) rfl ?_
            refine EL.val (x_eql (r := true) rfl rfl (decide_eq_true rfl)) rfl ?_
            refine EL.val (x_move rfl) rfl ?_
            refine EL.valg rfl rfl (x_move rfl) rfl ?_
            refine EL.valg rfl rfl (x_eql (r := true) rfl rfl (decide_eq_true rfl)) rfl ?_
            refine EL.val (x_pick_t rfl rfl) rfl ?_
            refine EL.val (x_move rfl) rfl ?_
            refine EL.callg rfl rfl cl_13 rfl (known_any _) ?_
            rintro e w13 ⟨rfl, hc13⟩
            refine ⟨_, rfl, ?_⟩
            replace q1 := q1.below hc13 q1.lt
            replace q4 := q4.below hc13 q4.lt
            replace hbw := Below.on hbw hc13 hbw.size
            clear hc13
            refine EL.val (x_pick_t rfl rfl) rfl ?_
            refine EL.val (x_assign rfl) rfl ?_
            refine EL.nil ?_
            refine EX.seq ?_
            refine EC.ret ?_
            refine EX.seq_ret ?_
            exact EX.done (res1 rfl rfl) ⟨rfl, hbw⟩
          ·
            obtain ⟨ml, c, pr, e0, hM⟩ := more_rest hv hi hlm3 hmr
            refine EL.val (x_eql (r := false) rfl rfl (decide_eq_false (by omega))) rfl ?_
            refine EL.val (x_assign rfl) rfl ?_
            refine EL.nil ?_
            refine EX.seq ?_
            refine EC.no rfl ?_
            refine EC.seq ?_
            refine EC.region ?_
            refine EL.val (ld_25 rfl (q1.at (j := 0) rfl) (q1.at (j := 1) rfl)) rfl ?_
            rcases move_err hv hM with ⟨rfl, _⟩ | ⟨rfl, rfl, rfl, rfl, _⟩
            ·
              have hv2 := more_ok hv hi (by omega)
              obtain ⟨rfl, ml2, c2, pr2, e2, hmv2, rfl⟩ := more_some hv hi hlm3 hM hmr
              obtain ⟨rfl, _⟩ := one_more hv hv2 hi hM hmv2
              have hbd1 := move_bd hM
              have hbd2 := move_bd hmv2
              refine EL.call (cl_18 rfl) rfl (rleast_to hv hM (b := true) (by decide) _ _ _ B (hr.below (hbw.mono hB)) (Nat.le_trans hB hbw.size)) ?_
              rintro e w14 ⟨rfl, hc14⟩
              refine ⟨_, rfl, ?_⟩
              replace q1 := q1.below hc14 q1.lt
              replace q4 := q4.below hc14 q4.lt
              replace hbw := Below.on hbw hc14 hbw.size
              clear hc14
              refine EL.val (x_move rfl) rfl ?_
              refine EL.val (x_extract rfl rfl) rfl ?_
              refine EL.val (x_extract rfl rfl) rfl ?_
              refine EL.val (x_assign rfl) rfl ?_
              refine EL.val (x_assign rfl) rfl ?_
              refine EL.nil ?_
              refine EX.seq ?_
              refine EC.seq ?_
              refine EC.region ?_
              refine EL.val (x_move rfl) rfl ?_
              refine EL.val (x_not rfl) rfl ?_
              refine EL.nil ?_
              refine EX.seq ?_
              refine EC.no rfl ?_
              refine EC.skip ?_
              refine EX.blk ?_
              refine EX.seq ?_
              refine EC.seq ?_
              refine EC.seq ?_
              refine EC.region ?_
              refine EL.val (x_move rfl) rfl ?_
              refine EL.val (x_neq (r := false) rfl rfl (decide_eq_false (fun h => h rfl))) rfl ?_
              refine EL.nil ?_
              refine EX.seq ?_
              refine EC.no rfl ?_
              refine EC.skip ?_
              refine EX.seq ?_
              refine EC.seq ?_
              refine EC.region ?_
              have sz_hbw := hbw.size
              refine EL.val (ld_25 rfl (q1.at (j := 0) rfl) (q1.at (j := 1) rfl)) rfl ?_
              refine EL.call (cl_14 rfl) rfl (copied_any nt _ _ _ B (hr.below (hbw.mono hB)) (Nat.le_trans hB hbw.size) (by omega) (by omega)) ?_
              rintro e w15 ⟨⟨vp15, vw15, rfl, ho20⟩, hc15⟩
              refine ⟨_, rfl, ?_⟩
              replace q1 := q1.below hc15 q1.lt
              replace q4 := q4.below hc15 q4.lt
              replace hbw := Below.on hbw hc15 hbw.size
              clear hc15
              obtain ⟨Bp15, dp15, rfl, _⟩ := (Rd.of_own ho20.ports).shape
              obtain ⟨Bw15, dw15, rfl, _⟩ := (Rd.of_own ho20.ways).shape
              refine EL.newP al_25 rfl ?_
              intro g16 w16 q16 hb16 hg16 hl16
              have n1_16 : g1 ≠ g16 := Nat.ne_of_lt (Nat.lt_of_lt_of_le q1.lt hg16)
              have n4_16 : g4 ≠ g16 := Nat.ne_of_lt (Nat.lt_of_lt_of_le q4.lt hg16)
              have bhbw_16 := Nat.le_trans hbw.size hg16
              replace q1 := q1.below hb16 q1.lt
              replace q4 := q4.below hb16 q4.lt
              replace ho20 := ho20.below hb16
              replace hbw := Below.on hbw hb16 hbw.size
              clear hb16 hg16 hl16
              refine EL.store rfl rfl q16 sz_25 rfl rfl rfl rfl ?_
              intro w17 hq17 hg17
              replace q1 := q1.grown hg17 (fun h => n1_16 (Option.some.inj h))
              replace q4 := q4.grown hg17 (fun h => n4_16 (Option.some.inj h))
              replace ho20 := ho20.box q16 rfl rfl hg17
              replace hbw := below_store hbw hg17 bhbw_16
              replace q16 := hq17
              clear hg17 hq17
              refine EL.nil ?_
              refine EX.seq ?_
              refine EC.seq ?_
              refine EC.region ?_
              obtain ⟨gp, rfl⟩ := own_slice ho20.ports hp1
              refine EL.val (fa_25_0 rfl) rfl ?_
              refine EL.val (ld_22 rfl (q16.at (j := 0) rfl)) rfl ?_
              refine EL.val (x_move rfl) rfl ?_
              refine EL.val (ix_22 rfl rfl hi) rfl ?_
              refine EL.val (fa_47_0 rfl) rfl ?_
              obtain ⟨bq, oq, e2_, _, qa, qb⟩ := prts_cells nt.ports i hi _ _ _ _ _ (Rd.of_own ho20.ports)
              injection e2_ with e2_
              injection e2_ with e3_ e4_
              subst e3_
              subst e4_
              refine EL.val (ld_3 rfl qa) rfl ?_
              refine EL.val (x_add rfl rfl (c := (nt.ports.getD i prt0).has + 1) (IntWalk.i64_in _ ⟨by omega, by omega⟩)) rfl ?_
              refine EL.val (ix_22 rfl rfl hi) rfl ?_
              refine EL.val (fa_47_0 rfl) rfl ?_
              refine EL.storeRow (l' := [.int .i64 ((nt.ports.getD i prt0).has + 1)]) rfl rfl ho20.ports sz_3 rfl rfl (by rw [prtsC_len]; omega) rfl ?_
              intro w18 ho2 hgr
              rw [spl_prts hi] at ho2
              replace q1 := blk_grown q1 ho20.ports rfl hgr
              replace q4 := blk_grown q4 ho20.ports rfl hgr
              replace q16 := blk_grown q16 ho20.ports rfl hgr
              replace hbw := hbw.trans (below_row (own_less ho20.ports sz_hbw) hgr hbw.size)
              have hn_ : OwnNet w18 _ _ _ (moreN nt i) := ⟨own_n ho2 (by show _ = (nt.ports.set _ _).length; rw [List.length_set]), own_grown ho20.ways ho20.ports rfl hgr⟩
              clear ho20 ho2 hgr
              have ho20 := hn_
              clear hn_
              refine EL.nil ?_
              refine EX.seq ?_
              refine EC.seq ?_
              refine EC.region ?_
              refine EL.val (ld_25 rfl (q16.at (j := 0) rfl) (q16.at (j := 1) rfl)) rfl ?_
              refine EL.call (cl_18 rfl) rfl (rleast_to hv2 hmv2 (b := true) (by decide) _ _ _ _ ho20.rd (Nat.le_refl _)) ?_
              rintro e w19 ⟨rfl, hc19⟩
              refine ⟨_, rfl, ?_⟩
              replace q1 := q1.below hc19 q1.lt
              replace q4 := q4.below hc19 q4.lt
              replace q16 := q16.below hc19 q16.lt
              replace ho20 := ho20.below hc19
              replace hbw := Below.on hbw hc19 hbw.size
              clear hc19
              refine EL.val (x_move rfl) rfl ?_
              refine EL.val (x_extract rfl rfl) rfl ?_
              refine EL.val (x_extract rfl rfl) rfl ?_
              refine EL.val (x_assign rfl) rfl ?_
              refine EL.val (x_assign rfl) rfl ?_
              refine EL.nil ?_
              refine EX.seq ?_
              refine EC.seq ?_
              refine EC.region ?_
              refine EL.val (x_move rfl) rfl ?_
              refine EL.val (x_eql (r := true) rfl rfl (decide_eq_true rfl)) rfl ?_
              refine EL.val (x_move rfl) rfl ?_
              refine EL.valg rfl rfl (x_move rfl) rfl ?_
              refine EL.valg rfl rfl (x_move rfl) rfl ?_
              refine EL.valg rfl rfl (x_move rfl) rfl ?_
              refine EL.valg rfl rfl (x_sub rfl rfl (c := c - c2) (IntWalk.i64_in _ ⟨by omega, by omega⟩)) rfl ?_
              refine EL.valg rfl rfl (x_eql (r := true) rfl rfl (decide_eq_true rfl)) rfl ?_
              refine EL.val (x_pick_t rfl rfl) rfl ?_
              refine EL.val (x_move rfl) rfl ?_
              refine EL.callg rfl rfl cl_13 rfl (known_any _) ?_
              rintro e w20 ⟨rfl, hc20⟩
              refine ⟨_, rfl, ?_⟩
              replace q1 := q1.below hc20 q1.lt
              replace q4 := q4.below hc20 q4.lt
              replace q16 := q16.below hc20 q16.lt
              replace hbw := Below.on hbw hc20 hbw.size
              clear hc20
              refine EL.val (x_pick_t rfl rfl) rfl ?_
              refine EL.val (x_assign rfl) rfl ?_
              refine EL.nil ?_
              refine EX.seq ?_
              refine EC.ret ?_
              exact EX.done (res1 rfl rfl) ⟨rfl, hbw⟩
            ·
              obtain ⟨rfl, rfl⟩ := more_none hv hi hlm3 hM (by decide) hmr
              refine EL.call (cl_18 rfl) rfl (rleast_to hv hM (b := false) (by decide) _ _ _ B (hr.below (hbw.mono hB)) (Nat.le_trans hB hbw.size)) ?_
              rintro e w21 ⟨rfl, hc21⟩
              refine ⟨_, rfl, ?_⟩
              replace q1 := q1.below hc21 q1.lt
              replace q4 := q4.below hc21 q4.lt
              replace hbw := Below.on hbw hc21 hbw.size
              clear hc21
              refine EL.val (x_move rfl) rfl ?_
              refine EL.val (x_extract rfl rfl) rfl ?_
              refine EL.val (x_extract rfl rfl) rfl ?_
              refine EL.val (x_assign rfl) rfl ?_
              refine EL.val (x_assign rfl) rfl ?_
              refine EL.nil ?_
              refine EX.seq ?_
              refine EC.seq ?_
              refine EC.region ?_
              refine EL.val (x_move rfl) rfl ?_
              refine EL.val (x_not rfl) rfl ?_
              refine EL.nil ?_
              refine EX.seq ?_
              refine EC.yes rfl ?_
              refine EC.region ?_
              refine EL.val (x_assign rfl) rfl ?_
              refine EL.nil ?_
              refine EX.blk ?_
              refine EX.seq ?_
              refine EC.seq ?_
              refine EC.seq ?_
              refine EC.region ?_
              refine EL.val (x_move rfl) rfl ?_
              refine EL.val (x_neq (r := true) rfl rfl (by decide)) rfl ?_
              refine EL.nil ?_
              refine EX.seq ?_
              refine EC.yes rfl ?_
              refine EC.seq ?_
              refine EC.region ?_
              refine EL.val (x_move rfl) rfl ?_
              refine EL.val (x_move rfl) rfl ?_
              refine EL.val (x_eql (r := true) rfl rfl (decide_eq_true rfl)) rfl ?_
              refine EL.val (x_move rfl) rfl ?_
              refine EL.valg rfl rfl (x_move rfl) rfl ?_
              refine EL.valg rfl rfl (x_eql (r := true) rfl rfl (decide_eq_true rfl)) rfl ?_
              refine EL.val (x_pick_t rfl rfl) rfl ?_
              refine EL.val (x_move rfl) rfl ?_
              refine EL.callg rfl rfl cl_13 rfl (known_any _) ?_
              rintro e w22 ⟨rfl, hc22⟩
              refine ⟨_, rfl, ?_⟩
              replace q1 := q1.below hc22 q1.lt
              replace q4 := q4.below hc22 q4.lt
              replace hbw := Below.on hbw hc22 hbw.size
              clear hc22
              refine EL.val (x_pick_t rfl rfl) rfl ?_
              refine EL.val (x_assign rfl) rfl ?_
              refine EL.nil ?_
              refine EX.seq ?_
              refine EC.ret ?_
              refine EX.seq_ret ?_
              exact EX.done (res1 rfl rfl) ⟨rfl, hbw⟩
  ·
    refine EL.call (cl_12 rfl) rfl (heavy_to nt _ _ _ B (hr.below (hbw.mono hB)) (Nat.le_trans hB hbw.size) hm1 hm2 hhe) ?_
    rintro e w23 ⟨rfl, hc23⟩
    refine ⟨_, rfl, ?_⟩
    replace q1 := q1.below hc23 q1.lt
    replace hbw := Below.on hbw hc23 hbw.size
    clear hc23
    refine EL.nil ?_
    refine EX.seq ?_
    refine EC.yes rfl ?_
    refine EC.seq ?_
    refine EC.region ?_
    refine EL.call cl_13 rfl (known_any _) ?_
    rintro e w24 ⟨rfl, hc24⟩
    refine ⟨_, rfl, ?_⟩
    replace q1 := q1.below hc24 q1.lt
    replace hbw := Below.on hbw hc24 hbw.size
    clear hc24
    refine EL.val (x_assign rfl) rfl ?_
    refine EL.nil ?_
    refine EX.seq ?_
    refine EC.ret ?_
    refine EX.seq_ret ?_
    exact EX.done (res1 rfl rfl) ⟨rfl, hbw⟩
end Go.Proofs.Ytabgmnmpdjnjoaa
