/- River: the laws' helper only (printed by gen_w30.py). -/
import Derived.Test.YtncnlhkmdljgpaaW19
import Derived.Test.YtncnlhkmdljgpaaLaw3
import Derived.Test.YtncnlhkmdljgpaaExR30
set_option linter.unusedVariables false
set_option linter.unusedSimpArgs false
namespace Go.Proofs.Ytncnlhkmdljgpaa
open Go Go.RowKit

/-- rows that are apart from each other -/
def PW (fs : List Value) : Prop := ∀ i j, i < j → j < fs.length → Apart (fs.getD i undef) (fs.getD j undef)
theorem PW.nil : PW [] := fun i j _ h => absurd h (by simp)
theorem PW.snoc {w : World} {base e osize n tb size : Nat} {vf v : Value} {outer : List Value} {fs : List Value} {F : List (Nat × List Value)} (h : PW fs) (hR : Rows w base e osize vf n outer tb size fs F) (hv : ∀ g, v.ownBlock = some g → w.heap.size ≤ g) : PW (fs ++ [v]) := fun i j hij hj => by
  rw [getD_snoc, getD_snoc]
  simp only [List.length_append, List.length_singleton] at hj
  by_cases h1 : j < fs.length
  · rw [if_pos (by omega), if_pos h1]; exact h i j hij h1
  · rw [if_pos (by omega), if_neg h1, if_pos (by omega)]
    intro g h2 h3
    have h4 := hv g h3
    have h5 := hR.each i (by rw [← hR.len]; omega)
    have := (h5.lt g h2).2
    omega
theorem PW.ne {fs : List Value} (h : PW fs) {i j : Nat} (hi : i < fs.length) (hj : j < fs.length) (hij : i ≠ j) : Apart (fs.getD i undef) (fs.getD j undef) := by
  rcases Nat.lt_or_ge i j with h1 | h1
  · exact h i j h1 hj
  · exact (h j i (by omega) hi).symm

theorem forecast_pw (l : List (List Bd)) (v : Value) (ss : List Value) (w : World) (B : Nat) (hs : RdSides w B v l ss) (hB : B ≤ w.heap.size) (hl : l.length ≤ 1048575) (hsb : ∀ i, i < l.length → (l.getD i []).length ≤ 1048576) :
    Calls Try.prog 34 #[v] w fun e w' => (∃ v' fs b1, e = .returned v' ∧ w.heap.size ≤ b1 ∧ Rows w' b1 28 1 v' l.length fs 23 2 fs (rowsB l) ∧ PW fs) ∧ Below w.heap.size w w' := by
  obtain ⟨A, c, rfl, _⟩ := hs.rd.shape
  have hbw := Below.refl w.heap.size w
  refine EC.enter 22 Try.func34 rfl rfl rfl ?_
  refine EC.seq ?_
  refine EC.region ?_
  refine EL.val (x_assign rfl) rfl ?_
  refine EL.nil ?_
  refine EX.seq ?_
  refine EC.seq ?_
  refine EC.region ?_
  have st1_hbw := hbw.size
  refine EL.newS bs_52_0 rfl ?_
  intro g2 w2 q2 hb2 hg2 hl2
  have bhbw_2 := Nat.le_trans hbw.size hg2
  replace hbw := Below.on hbw hb2 hbw.size
  clear hb2 hl2
  refine EL.val (x_assign rfl) rfl ?_
  refine EL.nil ?_
  refine EX.seq ?_
  refine EC.seq ?_
  refine EC.seq ?_
  refine EC.region ?_
  refine EL.val (x_assign rfl) rfl ?_
  refine EL.nil ?_
  refine EX.seq ?_
  refine EC.block ?_
  have hge0 : w.heap.size ≤ g2 := hg2
  refine EC.loopD [3, 4, 6, 7, 8, 9, 10, 11, 12, 13, 14, 15, 16, 17, 18, 19, 20] (fun x : Nat × Value × List Value => [(4, .int .i64 (x.1 : Nat)), (3, x.2.1)]) (fun x W => x.1 ≤ l.length ∧ Rows W w.heap.size 28 1 x.2.1 x.1 x.2.2 23 2 x.2.2 (rowsB (l.take x.1)) ∧ PW x.2.2 ∧ Below w.heap.size w W) (fun x => l.length - x.1) (0, _, []) ⟨Nat.zero_le _, Rows.start (own_empty 1 q2 hge0), PW.nil, hbw⟩ ⟨rfl, rfl, trivial⟩ ?_
  rintro ⟨i, vo, fs⟩ wr ⟨hi, hR, hPW, hbw⟩
  simp only at hi hR
  by_cases hlt : i < l.length
  ·
    have hbr := Below.refl wr.heap.size wr
    obtain ⟨b, o, rfl, _, c0⟩ := sides_cell hs i hlt
    have hside := hs.side i hlt
    obtain ⟨As, cs, es, _⟩ := hside.shape
    rw [es] at c0 hside
    have hlen := hsb i hlt
    refine EC.seq ?_
    refine EC.seq ?_
    refine EC.region ?_
    refine EL.val (x_move rfl) rfl ?_
    refine EL.val (x_move rfl) rfl ?_
    refine EL.val (ln_52 rfl) rfl ?_
    refine EL.val (x_lss rfl rfl (by first | assumption | exact decide_eq_true (by omega))) rfl ?_
    refine EL.nil ?_
    refine EX.seq ?_
    refine EC.yes rfl ?_
    refine EC.skip ?_
    refine EX.seq ?_
    refine EC.seq ?_
    refine EC.block ?_
    refine EC.region ?_
    refine EL.val (x_move rfl) rfl ?_
    have st3_hbw := hbw.size
    have st3_hbr := hbr.size
    refine EL.newS bs_28_0 rfl ?_
    intro g4 w4 q4 hb4 hg4 hl4
    have bhbw_4 := Nat.le_trans hbw.size hg4
    have bhbr_4 := Nat.le_trans hbr.size hg4
    replace hbw := Below.on hbw hb4 hbw.size
    replace hbr := Below.on hbr hb4 hbr.size
    clear hb4 hl4
    refine EL.val (x_move rfl) rfl ?_
    refine EL.val (x_move rfl) rfl ?_
    refine EL.val (ix_52 rfl rfl hlt) rfl ?_
    refine EL.val (ld_28 rfl (below_load hbw c0)) rfl ?_
    have oin := own_empty (base := wr.heap.size) 2 q4 hg4
    refine EL.push bds_elem rfl rfl oin (hside.below (hbw.mono hB)) (bdsC_one _) (by omega) rfl (Nat.le_trans hg4 (Nat.le_of_lt q4.lt)) rfl ?_
    intro vi w5 hoi hgr5 hb5 _
    rw [Nat.zero_add, List.nil_append] at hoi
    replace hbw := hbw.trans (hb5.mono st3_hbw)
    replace hbr := hbr.trans (hb5.mono st3_hbr)
    have hvi := fun g (h : vi.ownBlock = some g) => (hoi.lt g h).1
    obtain ⟨Ai, ci, ei, _⟩ := (Rd.of_own hoi).shape
    subst ei
    refine EL.newS (bs_52_1 rfl) rfl ?_
    intro g6 w6 q6 hb6 hg6 hl6
    have bhbw_6 := Nat.le_trans hbw.size hg6
    have bhbr_6 := Nat.le_trans hbr.size hg6
    replace hoi := own_below hoi hb6 (Nat.le_refl _)
    replace hbw := Below.on hbw hb6 hbw.size
    replace hbr := Below.on hbr hb6 hbr.size
    clear hb6 hg6 hl6
    have hR2 := hR.below hbr
    have hoi2 := own_less hoi st3_hbw
    have hap := apart_fresh hR.own hvi
    refine EL.push lists_elem rfl rfl hR2.own (rd_one (l := [.slice Ai (l.getD i []).length ci]) q6 rfl) (by simp [Value.oneCell']) (by omega) rfl hbw.size rfl ?_
    intro v' w7 ho2 hgr7 hb7 hat7
    have hR3 := hR2.push0 hoi2 hap ho2 hgr7 hat7
    replace hbw := hbw.trans hb7
    refine EL.val (x_assign rfl) rfl ?_
    refine EL.nil ?_
    refine EX.blk ?_
    refine EX.seq ?_
    refine EC.region ?_
    refine EL.val (x_move rfl) rfl ?_
    refine EL.val (x_add rfl rfl (by first | assumption | exact IntWalk.i64_in _ ⟨by omega, by omega⟩)) rfl ?_
    refine EL.val (x_assign rfl) rfl ?_
    refine EL.nil ?_
    refine EX.roundD (i + 1, v', fs ++ [_]) ⟨rfl, rfl, trivial⟩ (by repeat first | exact Sub.refl _ | refine sub_past rfl ?_ | refine sub_del rfl ?_ | refine sub_insL_nil ?_) ⟨hlt, by rw [rowsB_take hlt]; exact hR3, hPW.snoc hR hvi, hbw⟩ (by simp only; omega)
  ·
    obtain rfl : i = l.length := by omega
    refine EC.seq ?_
    refine EC.seq ?_
    refine EC.region ?_
    refine EL.val (x_move rfl) rfl ?_
    refine EL.val (x_move rfl) rfl ?_
    refine EL.val (ln_52 rfl) rfl ?_
    refine EL.val (x_lss rfl rfl (by first | assumption | exact decide_eq_false (by omega))) rfl ?_
    refine EL.nil ?_
    refine EX.seq ?_
    refine EC.no rfl ?_
    refine EC.exit ?_
    refine EX.seq_exit ?_
    refine EX.seq_exit ?_
    refine EX.blk_here ?_
    refine EX.seq ?_
    refine EC.seq ?_
    refine EC.region ?_
    refine EL.val (x_move rfl) rfl ?_
    refine EL.val (x_assign rfl) rfl ?_
    refine EL.nil ?_
    refine EX.seq ?_
    refine EC.ret ?_
    rw [List.take_length] at hR
    exact EX.done (res1 rfl rfl) ⟨⟨_, _, _, rfl, Nat.le_refl _, hR, hPW⟩, hbw⟩

theorem reach_set : ∀ {l : List Reach} {vs : List Value} {i : Nat} (a b : Int), i < l.length → vs.length = l.length → spl ((l.zip vs).flatMap reachC) (i * 9 + 2) [.int .i64 a, .int .i64 b] = ((l.set i { l.getD i reach0 with base := ⟨a, b⟩ }).zip vs).flatMap reachC
  | [], _, i, _, _, h, _ => by simp at h
  | x :: l, [], i, _, _, _, h => by simp at h
  | x :: l, v :: vs, 0, a, b, _, _ => rfl
  | x :: l, v :: vs, i + 1, a, b, h, hv => by
    have ih := reach_set (l := l) (vs := vs) (i := i) a b (by simpa using h) (by simpa using hv)
    rw [show (i + 1) * 9 + 2 = (i * 9 + 2) + 9 by omega]
    show reachC (x, v) ++ spl ((l.zip vs).flatMap reachC) (i * 9 + 2) [.int .i64 a, .int .i64 b] = _
    rw [ih]
    rfl
theorem bd_set : ∀ {l : List Bd} {i : Nat} (a b : Int), i < l.length → spl (bdsC l) (i * 2) [.int .i64 a, .int .i64 b] = bdsC (l.set i ⟨a, b⟩)
  | [], i, _, _, h => by simp at h
  | x :: l, 0, a, b, _ => by
    show Value.int .i64 a :: .int .i64 b :: ovr (bdsC l) [] = _
    rw [ovr_eq _ _ (by simp)]
    rfl
  | x :: l, i + 1, a, b, h => by
    have ih := bd_set (l := l) (i := i) a b (by simpa using h)
    rw [show (i + 1) * 2 = i * 2 + 2 by omega]
    show bdC x ++ spl (bdsC l) (i * 2) [.int .i64 a, .int .i64 b] = _
    rw [ih]
    rfl
theorem getD_setR {α : Type} {l : List α} {i j : Nat} {x d : α} (hi : i < l.length) : (l.set i x).getD j d = if i = j then x else l.getD j d := by
  simp only [List.getD_eq_getElem?_getD, List.getElem?_set]
  by_cases h : i = j
  · subst h; simp [hi]
  · simp [h]
/-- one end of bounds -/
def pB (hi : Bool) (b : Bd) : Int := if hi then b.hi else b.lo
def bdP (hi : Bool) (b : Bd) : Bd := ⟨pB hi b, pB hi b⟩
def withB (hi : Bool) (x : Reach) : Reach := { x with base := bdP hi x.base }
def mkR (hi : Bool) (l : List Reach) : Nat → List Reach
  | 0 => l
  | i + 1 => (mkR hi l i).set i (withB hi (l.getD i reach0))
def mkB (hi : Bool) (l : List Bd) : Nat → List Bd
  | 0 => l
  | i + 1 => (mkB hi l i).set i (bdP hi (l.getD i bd0))
def mkS (hi : Bool) (l : List (List Bd)) : Nat → List (List Bd)
  | 0 => l
  | i + 1 => (mkS hi l i).set i (mkB hi (l.getD i []) (l.getD i []).length)
section
variable {hi : Bool}
theorem mkR_len (l : List Reach) : ∀ i, (mkR hi l i).length = l.length
  | 0 => rfl
  | i + 1 => by rw [mkR, List.length_set, mkR_len l i]
theorem mkB_len (l : List Bd) : ∀ i, (mkB hi l i).length = l.length
  | 0 => rfl
  | i + 1 => by rw [mkB, List.length_set, mkB_len l i]
theorem mkS_len (l : List (List Bd)) : ∀ i, (mkS hi l i).length = l.length
  | 0 => rfl
  | i + 1 => by rw [mkS, List.length_set, mkS_len l i]
theorem mkR_at (l : List Reach) : ∀ {i j : Nat}, i ≤ l.length → (mkR hi l i).getD j reach0 = if j < i then withB hi (l.getD j reach0) else l.getD j reach0
  | 0, j, _ => by simp [mkR]
  | i + 1, j, hi_ => by
    rw [mkR, getD_setR (by rw [mkR_len]; omega), mkR_at l (i := i) (by omega)]
    by_cases h : i = j
    · subst h; simp
    · by_cases h2 : j < i
      · rw [if_neg h, if_pos h2, if_pos (by omega)]
      · rw [if_neg h, if_neg h2, if_neg (by omega)]
theorem mkB_at (l : List Bd) : ∀ {i j : Nat}, i ≤ l.length → (mkB hi l i).getD j bd0 = if j < i then bdP hi (l.getD j bd0) else l.getD j bd0
  | 0, j, _ => by simp [mkB]
  | i + 1, j, hi_ => by
    rw [mkB, getD_setR (by rw [mkB_len]; omega), mkB_at l (i := i) (by omega)]
    by_cases h : i = j
    · subst h; simp
    · by_cases h2 : j < i
      · rw [if_neg h, if_pos h2, if_pos (by omega)]
      · rw [if_neg h, if_neg h2, if_neg (by omega)]
theorem mkS_at (l : List (List Bd)) : ∀ {i j : Nat}, i ≤ l.length → (mkS hi l i).getD j [] = if j < i then mkB hi (l.getD j []) (l.getD j []).length else l.getD j []
  | 0, j, _ => by simp [mkS]
  | i + 1, j, hi_ => by
    rw [mkS, getD_setR (by rw [mkS_len]; omega), mkS_at l (i := i) (by omega)]
    by_cases h : i = j
    · subst h; simp
    · by_cases h2 : j < i
      · rw [if_neg h, if_pos h2, if_pos (by omega)]
      · rw [if_neg h, if_neg h2, if_neg (by omega)]
end
theorem own_blk {w : World} {base e size n m c g : Nat} {xs : List Value} (h : w.ownsRow base e size (.slice (some ⟨g, 0, none⟩) n c) m xs) : ∃ cs, Blk w g e cs := by
  obtain ⟨_, ⟨h0, _⟩ | ⟨g', cap, cur, h1, _, hg, _⟩⟩ := h
  · cases h0
  · injection h1 with h1
    injection h1 with h1
    injection h1 with h1 _
    subst h1
    exact ⟨cur, hg⟩
theorem row_ne2 {w : World} {base e size n m c g k T : Nat} {xs : List Value} {cs : Array Value} (h : w.ownsRow base e size (.slice (some ⟨g, 0, none⟩) n c) m xs) (hq : Blk w k T cs) (hT : Nat.beq T e = false) : k ≠ g := fun e1 => by
  subst e1
  obtain ⟨ds, h1⟩ := own_blk h
  unfold Blk at hq h1
  rw [hq] at h1
  injection h1 with h1
  injection h1 with _ h3
  exact Nat.ne_of_beq_eq_false hT h3
theorem OwnRiver.set {w w' : World} {base g n c i : Nat} {u : Value} {r : River} {vs : List Value} {x' : Reach} (h : OwnRiver w base (.slice (some ⟨g, 0, none⟩) n c) u r vs) (hi : i < r.reaches.length) (hc : x'.curve = (r.reaches.getD i reach0).curve) (hown : w'.ownsRow base 50 9 (.slice (some ⟨g, 0, none⟩) n c) n (((r.reaches.set i x').zip vs).flatMap reachC)) (hn : n = r.reaches.length) (hg : w.grownBy w' (some g)) : OwnRiver w' base (.slice (some ⟨g, 0, none⟩) n c) u ⟨r.reaches.set i x', r.shoals⟩ vs := by
  subst hn
  obtain ⟨cs, hq⟩ := own_blk h.rows.own
  have hrw : rowsR (r.reaches.set i x') = rowsR r.reaches := by
    unfold rowsR
    apply List.ext_getElem?
    intro j
    simp only [List.getElem?_map, List.getElem?_set]
    by_cases e : i = j
    · subst e
      have h2 : r.reaches.getD i reach0 = r.reaches[i] := by simp [hi]
      rw [h2] at hc
      simp [hi, hc]
    · simp [e]
  refine ⟨⟨by simpa using hown, by rw [hrw]; exact h.rows.len, fun j hj => ?_, fun j hj => ?_⟩, own_type h.sh hq rfl hg⟩
  · rw [hrw] at hj ⊢
    exact own_type (h.rows.each j hj) hq rfl hg
  · rw [hrw] at hj
    exact h.rows.apart j hj
theorem OwnSides.set {w w' : World} {base g i c : Nat} {s : Value} {l : List (List Bd)} {fs : List Value} {row : List Bd} (h : OwnSides w base s l fs) (hpw : PW fs) (hi : i < l.length) (hv : fs.getD i undef = .slice (some ⟨g, 0, none⟩) row.length c) (hrow : row.length = (l.getD i []).length) (hown : w'.ownsRow base 23 2 (.slice (some ⟨g, 0, none⟩) row.length c) row.length (bdsC row)) (hg : w.grownBy w' (some g)) : OwnSides w' base s (l.set i row) fs := by
  have hlen : fs.length = l.length := by have := h.len; rwa [rowsB_len] at this
  have hgv : w.grownBy w' (fs.getD i undef).ownBlock := by rw [hv]; exact hg
  refine ⟨?_, by rw [h.len, rowsB_len, rowsB_len, List.length_set], fun j hj => ?_, fun j hj => ?_⟩
  · have := own_apart h.own hgv (h.apart i (by rw [rowsB_len]; exact hi)).symm
    simpa using this
  · rw [rowsB_len, List.length_set] at hj
    have e1 : (rowsB (l.set i row)).getD j (0, []) = (((l.set i row).getD j []).length, bdsC ((l.set i row).getD j [])) := rowsB_at _ j (by rw [List.length_set]; exact hj)
    rw [e1, getD_setR hi]
    by_cases e : i = j
    · subst e
      rw [if_pos rfl, hv]
      exact hown
    · rw [if_neg e]
      have h2 := h.each j (by rw [rowsB_len]; exact hj)
      have e2 : (rowsB l).getD j (0, []) = ((l.getD j []).length, bdsC (l.getD j [])) := by simp [rowsB, hj]
      rw [e2] at h2
      exact own_apart h2 hgv (hpw.ne (by omega) (by omega) e)
  · rw [rowsB_len, List.length_set] at hj
    exact h.apart j (by rw [rowsB_len]; exact hj)
theorem forecast_PS (l : List (List Bd)) (v : Value) (ss : List Value) (w : World) (B : Nat) (hs : RdSides w B v l ss) (hB : B ≤ w.heap.size) (hl : l.length ≤ 1048575) (hsb : ∀ i, i < l.length → (l.getD i []).length ≤ 1048576) :
    Calls Try.prog 34 #[v] w fun e w' => (∃ v' fs, e = .returned v' ∧ OwnSides w' w.heap.size v' l fs ∧ PW fs) ∧ Below w.heap.size w w' :=
  (forecast_pw l v ss w B hs hB hl hsb).mono fun _ _ ⟨⟨v', fs, _, h1, h0, h2, hp⟩, h3⟩ => ⟨⟨v', fs, h1, Rows.less h2 h0, hp⟩, h3⟩
theorem mono_psid {k b : Nat} {l : List (List Bd)} : Mono fun r w => ∃ v ss, r k = v ∧ OwnSides w b v l ss ∧ PW ss := fun _ _ _ hb ⟨v, ss, h1, h2, h3⟩ => ⟨v, ss, h1, OwnSides.below h2 hb, h3⟩
theorem mono_pure {F : (Nat → Value) → Prop} : Mono fun r _ => F r := fun _ _ _ _ h => h
theorem own_slice {w : World} {base e size m c : Nat} {A : Option Addr} {xs : List Value} (h : w.ownsRow base e size (.slice A m c) m xs) (hm : 0 < m) : ∃ g, A = some ⟨g, 0, none⟩ := by
  obtain ⟨_, ⟨_, h0⟩ | ⟨g, _, _, h1, _⟩⟩ := h
  · omega
  · injection h1 with h1; exact ⟨g, h1⟩

set_option maxHeartbeats 8000000 in
set_option maxRecDepth 100000 in
theorem only_false (rv : River) (sides : List (List Bd)) (v u s : Value) (vs ss : List Value) (w : World) (B : Nat) (hr : RdRiver w B v u rv vs) (hs : RdSides w B s sides ss) (hB : B ≤ w.heap.size) (hfine : Fine rv sides) (hS : StartOk rv sides) :
    Calls Try.prog 45 #[.agg #[v, u, s], .bool false] w fun e w' => (∃ a b s' vs' ss', e = .returned (.agg #[a, b, s']) ∧ RdRiver w' w'.heap.size a b ⟨mkR false rv.reaches rv.reaches.length, rv.shoals⟩ vs' ∧ RdSides w' w'.heap.size s' (mkS false sides sides.length) ss') ∧ Below w.heap.size w w' := by
  have f1 := hfine.nreaches
  have f2 := hfine.nshoals
  have f3 := hfine.curves
  have f4 := hfine.sidesB
  have f5 := hfine.nsides
  have hhr := hS.hours
  have hmany := hS.many
  have hsm := hS.river.some
  obtain ⟨A, c, rfl, _⟩ := hr.reaches.shape
  obtain ⟨A', c', rfl, _⟩ := hr.shoals.shape
  obtain ⟨D, d, rfl, _⟩ := hs.rd.shape
  have hbw := Below.refl w.heap.size w
  obtain ⟨bS, oS, rfl, _, hsa⟩ := sides_all hs (by omega)
  obtain ⟨bR, oR, rfl, _, _⟩ := reaches_cells hr.reaches 0 (by omega)
  refine EC.enter 102 Try.func45 rfl rfl rfl ?_
  refine EC.seq ?_
  refine EC.region ?_
  refine EL.newP (bx_54 rfl) rfl ?_
  intro g1 w1 q1 hb1 hg1 hl1
  have bhbw_1 := Nat.le_trans hbw.size hg1
  replace hbw := Below.on hbw hb1 hbw.size
  clear hb1 hg1 hl1
  refine EL.newP al_54 rfl ?_
  intro g2 w2 q2 hb2 hg2 hl2
  have n1_2 : g1 ≠ g2 := Nat.ne_of_lt (Nat.lt_of_lt_of_le q1.lt hg2)
  have bhbw_2 := Nat.le_trans hbw.size hg2
  replace q1 := q1.below hb2 q1.lt
  replace hbw := Below.on hbw hb2 hbw.size
  clear hb2 hg2 hl2
  refine EL.nil ?_
  refine EX.seq ?_
  refine EC.seq ?_
  have szb := hbw.size
  have lt_1 := q1.lt
  have lt_2 := q2.lt
  refine EC.regionP [[], [0], [0, 1], [], [3], [0, 1, 2, 3, 4], [0, 1, 2, 3, 4, 5], [], [0, 1, 2, 3, 4, 5, 6, 7]] 8 [7] (phi (fun i_ r => match i_ with | 0 => r 0 = .pointer (some ⟨g1, 0, none⟩) | 1 => r 1 = .agg #[.slice (some ⟨bR, oR, none⟩) rv.reaches.length c, .slice A' rv.shoals.length c'] | 3 => r 3 = .pointer (some ⟨g1, 2, none⟩) | 4 => r 4 = .slice (some ⟨bS, oS, none⟩) sides.length d | _ => True) [(2, fun r w_ => ∃ a b vs, r 2 = .agg #[a, b] ∧ OwnRiver w_ w2.heap.size a b rv vs), (5, fun r w_ => ∃ v ss, r 5 = v ∧ OwnSides w_ w2.heap.size v sides ss ∧ PW ss), (6, fun r w_ => ∃ a b s, r 6 = .agg #[a, b, s] ∧ r 2 = .agg #[a, b] ∧ r 5 = s), (7, fun r w_ => ∃ g_, r 7 = .pointer (some ⟨g_, 0, none⟩) ∧ Blk w_ g_ 54 #[.slice none 0 0, .slice none 0 0, .slice none 0 0])]) (by kernel_rfl) rfl rfl (phi_cons mono_oriv (phi_cons mono_psid (phi_cons mono_pure (phi_cons mono_alloc (phi_nil))))) (fun i_ hi_ => ?_) ?_
  · match i_, hi_ with
    | 0, _ =>
      intro val w1 a hb ha hd
      have ha := ha.sub (Sub.ins (d := 2) (Sub.nil _) rfl)
      exact hs_val ha rfl rfl (fa_54_0 rfl) rfl rfl
    | 1, _ =>
      intro val w1 a hb ha hd
      have e0 : val 0 = .pointer (some ⟨g1, 0, none⟩) := hd 0 (memB_mem.1 rfl)
      have ha := ha.sub (Sub.ins (d := 10) (Sub.nil _) (dep_get rfl e0))
      exact hs_val ha rfl rfl (ld_47 rfl ((q1.below hb q1.lt).at (j := 0) rfl) ((q1.below hb q1.lt).at (j := 1) rfl)) rfl rfl
    | 2, _ =>
      intro val w1 a hb ha hd
      have e1 : val 1 = .agg #[.slice (some ⟨bR, oR, none⟩) rv.reaches.length c, .slice A' rv.shoals.length c'] := hd 1 (memB_mem.1 rfl)
      have ha := ha.sub (Sub.ins (d := 11) (Sub.nil _) (dep_get rfl e1))
      refine hs_call ha rfl rfl (cl_24 rfl) (copied_OR rv _ _ vs _ B (hr.below ((Below.on hbw hb hbw.size).mono hB)) (Nat.le_trans hB (Below.on hbw hb hbw.size).size) (by omega) (by omega) f3) rfl ?_
      rintro e w' ⟨⟨v1, u1, vs1, rfl, hcp⟩, hb'⟩
      exact ⟨_, rfl, hb', ⟨_, _, _, rfl, hcp.less hb.size⟩⟩
    | 3, _ =>
      intro val w1 a hb ha hd
      have ha := ha.sub (Sub.ins (d := 2) (Sub.nil _) rfl)
      exact hs_val ha rfl rfl (fa_54_1 rfl) rfl rfl
    | 4, _ =>
      intro val w1 a hb ha hd
      have e3 : val 3 = .pointer (some ⟨g1, 2, none⟩) := hd 3 (memB_mem.1 rfl)
      have ha := ha.sub (Sub.ins (d := 13) (Sub.nil _) (dep_get rfl e3))
      exact hs_val ha rfl rfl (ld_52 rfl ((q1.below hb q1.lt).at (j := 2) rfl)) rfl rfl
    | 5, _ =>
      intro val w1 a hb ha hd
      have e4 : val 4 = .slice (some ⟨bS, oS, none⟩) sides.length d := hd 4 (memB_mem.1 rfl)
      have ha := ha.sub (Sub.ins (d := 14) (Sub.nil _) (dep_get rfl e4))
      refine hs_call ha rfl rfl (cl_34 rfl) (forecast_PS sides _ ss _ B (hs.below ((Below.on hbw hb hbw.size).mono hB)) (Nat.le_trans hB (Below.on hbw hb hbw.size).size) (by omega) f4) rfl ?_
      rintro e w' ⟨⟨v1, ss1, rfl, hcp, hpw⟩, hb'⟩
      exact ⟨_, rfl, hb', ⟨_, _, rfl, Rows.less hcp hb.size, hpw⟩⟩
    | 6, _ =>
      intro val w1 a hb ha hd
      obtain ⟨a2_, b2_, vs2_, e2, q2_⟩ := hd 2 (memB_mem.1 rfl)
      obtain ⟨v5_, ss5_, e5, q5_, p5_⟩ := hd 5 (memB_mem.1 rfl)
      have ha := ha.sub (Sub.ins (d := 15) (Sub.ins (d := 12) (Sub.nil _) (dep_get rfl e2)) (dep_get rfl e5))
      obtain ⟨A_, c_, rfl, _⟩ := q5_.rd.rd.shape
      exact hs_val ha rfl rfl (bd_54_0_1 rfl rfl) ⟨_, _, _, rfl, e2, e5⟩ rfl
    | 7, _ =>
      intro val w1 a hb ha hd
      have ha := ha.sub (Sub.nil _)
      exact hs_newP ha rfl rfl al_54 (fun g w' hq _ _ => ⟨g, rfl, hq⟩)
    | k + 8, h => exact absurd h (by omega)
  · intro val wR1 hb halc hd
    have e0 : val 0 = .pointer (some ⟨g1, 0, none⟩) := hd 0 (by omega)
    have e1 : val 1 = .agg #[.slice (some ⟨bR, oR, none⟩) rv.reaches.length c, .slice A' rv.shoals.length c'] := hd 1 (by omega)
    obtain ⟨a2_, b2_, vs2_, e2, q2_⟩ := hd 2 (by omega)
    have e3 : val 3 = .pointer (some ⟨g1, 2, none⟩) := hd 3 (by omega)
    have e4 : val 4 = .slice (some ⟨bS, oS, none⟩) sides.length d := hd 4 (by omega)
    obtain ⟨v5_, ss5_, e5, q5_, p5_⟩ := hd 5 (by omega)
    obtain ⟨a6_, b6_, s6_, e6, x6_, y6_⟩ := hd 6 (by omega)
    obtain ⟨ga7_1, e7, qa7_1⟩ := hd 7 (by omega)
    refine EL.ends (cs := [.pointer (some ⟨g1, 0, none⟩), .agg #[.slice (some ⟨bR, oR, none⟩) rv.reaches.length c, .slice A' rv.shoals.length c'], .agg #[a2_, b2_], .pointer (some ⟨g1, 2, none⟩), .slice (some ⟨bS, oS, none⟩) sides.length d, v5_, .agg #[a6_, b6_, s6_], .pointer (some ⟨ga7_1, 0, none⟩)]) ⟨e0, e1, e2, e3, e4, e5, e6, e7, trivial⟩ rfl ?_
    replace q1 := q1.below hb q1.lt
    replace q2 := q2.below hb q2.lt
    have bge3 := alc_ge halc (i := 7) rfl rfl e7
    have n1_3 : g1 ≠ ga7_1 := Nat.ne_of_lt (Nat.lt_of_lt_of_le lt_1 bge3)
    have n2_3 : g2 ≠ ga7_1 := Nat.ne_of_lt (Nat.lt_of_lt_of_le lt_2 bge3)
    have bhbw_3 := Nat.le_trans hbw.size bge3
    replace hbw := Below.on hbw hb hbw.size
    clear hb
    have x6 : (.agg #[a2_, b2_] : Value) = .agg #[a6_, b6_] := e2.symm.trans x6_
    injection x6 with x6
    simp only [Array.mk.injEq, List.cons.injEq, and_true] at x6
    obtain ⟨x61, x62⟩ := x6
    subst x61
    subst x62
    have y6 : v5_ = s6_ := e5.symm.trans y6_
    subst y6
    obtain ⟨A2_, c2_, rfl, _⟩ := q2_.rd.reaches.shape
    obtain ⟨B2_, d2_, rfl, _⟩ := q2_.rd.shoals.shape
    obtain ⟨A5_, c5_, rfl, _⟩ := q5_.rd.rd.shape
    clear x6_ y6_
    refine EL.store rfl rfl qa7_1 sz_54 rfl rfl rfl rfl ?_
    intro w4 hq4 hg4
    replace q1 := q1.grown hg4 (fun h => n1_3 (Option.some.inj h))
    replace q2 := q2.grown hg4 (fun h => n2_3 (Option.some.inj h))
    replace q2_ := q2_.type qa7_1 rfl rfl rfl hg4
    replace q5_ := OwnSides.type q5_ qa7_1 rfl rfl hg4
    replace hbw := below_store hbw hg4 bhbw_3
    replace qa7_1 := hq4
    clear hg4 hq4
    refine EL.nil ?_
    refine EX.seq ?_
    refine EC.seq ?_
    refine EC.seq ?_
    refine EC.region ?_
    refine EL.val (x_assign rfl) rfl ?_
    refine EL.nil ?_
    refine EX.seq ?_
    refine EC.block ?_
    obtain ⟨gA, rfl⟩ := own_slice q2_.rows.own (by omega)
    obtain ⟨gO, rfl⟩ := own_slice (Rows.own q5_) (by omega)
    have hwb : w.heap.size ≤ w2.heap.size := szb
    refine EC.loopD [6, 7, 8, 9, 17, 18, 19, 20, 21, 22, 23, 24, 25, 26, 27, 28, 29, 30, 31, 32, 33, 34, 35, 36, 37, 38, 39, 40, 41, 42, 43, 44, 45, 46, 47, 48, 49, 50, 51, 52, 53, 54, 55, 56, 57, 58, 59, 60, 61, 62, 63, 64, 65, 66, 67, 68, 69, 70, 71, 72, 73, 74, 75, 76, 77, 78, 79, 80, 81, 82, 83, 84, 85, 86, 87, 88, 89, 90, 91, 92, 93, 94, 95, 96, 97, 98, 99, 100] (fun x : Nat => [(6, .int .i64 (x : Nat))]) (fun x W => x ≤ rv.reaches.length ∧ (OwnRiver W w2.heap.size (.slice (some ⟨gA, 0, none⟩) rv.reaches.length c2_) (.slice B2_ rv.shoals.length d2_) ⟨mkR false rv.reaches x, rv.shoals⟩ vs2_ ∧ OwnSides W w2.heap.size (.slice (some ⟨gO, 0, none⟩) sides.length c5_) (mkS false sides x) ss5_) ∧ Blk W g1 54 #[.slice (some ⟨bR, oR, none⟩) rv.reaches.length c, .slice A' rv.shoals.length c', .slice (some ⟨bS, oS, none⟩) sides.length d] ∧ Blk W g2 54 #[.slice none 0 0, .slice none 0 0, .slice none 0 0] ∧ Blk W ga7_1 54 #[.slice (some ⟨gA, 0, none⟩) rv.reaches.length c2_, .slice B2_ rv.shoals.length d2_, .slice (some ⟨gO, 0, none⟩) sides.length c5_] ∧ Below w.heap.size w W) (fun x => rv.reaches.length - x) 0 ⟨Nat.zero_le _, ⟨q2_, q5_⟩, q1, q2, qa7_1, hbw⟩ ⟨rfl, trivial⟩ ?_
    clear q2_ q5_ q1 q2 qa7_1 hbw
    rintro i wr ⟨hi, ⟨q2_, q5_⟩, q1, q2, qa7_1, hbw⟩
    by_cases hlt : i < rv.reaches.length
    ·
      have hml := mkR_len (hi := false) rv.reaches i
      have hat := mkR_at (hi := false) rv.reaches (i := i) (j := i) (by omega)
      rw [if_neg (by omega)] at hat
      obtain ⟨y, ey⟩ : ∃ y, y = rv.reaches.getD i reach0 := ⟨_, rfl⟩
      rw [← ey] at hat
      obtain ⟨ml, eml⟩ : ∃ z, z = mkR false rv.reaches i := ⟨_, rfl⟩
      rw [← eml] at q2_ hml hat
      obtain ⟨b1, o1, e1_, _, hrc⟩ := reaches_cells q2_.rd.reaches i (by simp only; omega)
      injection e1_ with e1_
      injection e1_ with e1_ e2_
      subst e1_
      subst e2_
      simp only at hrc
      rw [hat] at hrc
      obtain ⟨bo, oo, eo, _, hoc⟩ := reaches_cells hr.reaches i hlt
      injection eo with eo
      injection eo with eo1 eo2
      subst eo1
      subst eo2
      rw [← ey] at hoc
      have hmk := mkS_at (hi := false) sides (i := i) (j := i) (by omega)
      rw [if_neg (by omega)] at hmk
      refine EC.seq ?_
      refine EC.seq ?_
      refine EC.region ?_
      refine EL.val (x_move rfl) rfl ?_
      refine EL.val (fa_54_0 rfl) rfl ?_
      refine EL.val (fa_47_0 rfl) rfl ?_
      refine EL.val (ld_44 rfl (qa7_1.at (j := 0) rfl)) rfl ?_
      refine EL.val (ln_44 rfl) rfl ?_
      refine EL.val (x_lss rfl rfl (by first | assumption | exact decide_eq_true (by omega))) rfl ?_
      refine EL.nil ?_
      refine EX.seq ?_
      refine EC.yes rfl ?_
      refine EC.skip ?_
      refine EX.seq ?_
      refine EC.seq ?_
      refine EC.block ?_
      refine EC.seq ?_
      refine EC.region ?_
      refine EL.val (fa_54_0 rfl) rfl ?_
      refine EL.val (fa_47_0 rfl) rfl ?_
      refine EL.val (ld_44 rfl (qa7_1.at (j := 0) rfl)) rfl ?_
      refine EL.val (x_move rfl) rfl ?_
      refine EL.val (ix_44 rfl rfl hlt) rfl ?_
      refine EL.val (fa_50_2 rfl) rfl ?_
      refine EL.val (x_assign rfl) rfl ?_
      refine EL.nil ?_
      refine EX.seq ?_
      refine EC.seq ?_
      refine EC.seq ?_
      have lt_1 := q1.lt
      have lt_2 := q2.lt
      have lt_3 := qa7_1.lt
      refine EC.regionP [[], [], [1], [1, 2], [1, 2, 3], [], [5], [5, 6], [5, 6, 7], [1, 2, 3, 4, 5, 6, 7, 8], [0, 1, 2, 3, 4, 5, 6, 7, 8, 9], [0, 1, 2, 3, 4, 5, 6, 7, 8, 9, 10]] 10 [] (phi (fun i_ r => match i_ with | 0 => r 0 = .pointer (some ⟨gA, 0 + i * 9 + 2, none⟩) | 1 => r 1 = .pointer (some ⟨gA, 0 + i * 9 + 2, none⟩) | 2 => r 2 = .pointer (some ⟨gA, 0 + i * 9 + 2, none⟩) | 3 => r 3 = .pointer (some ⟨gA, 0 + i * 9 + 2, none⟩) | 4 => r 4 = .int .i64 y.base.lo | 5 => r 5 = .pointer (some ⟨gA, 0 + i * 9 + 2, none⟩) | 6 => r 6 = .pointer (some ⟨gA, 0 + i * 9 + 2, none⟩) | 7 => r 7 = .pointer (some ⟨gA, 0 + i * 9 + 2, none⟩) | 8 => r 8 = .int .i64 y.base.lo | 9 => r 9 = .agg #[.int .i64 y.base.lo, .int .i64 y.base.lo] | _ => True) []) (by kernel_rfl) rfl rfl (phi_nil) (fun i_ hi_ => ?_) ?_
      · match i_, hi_ with
        | 0, _ =>
          intro val w1 a hb ha hd
          have ha := ha.sub (Sub.ins (d := 7) (Sub.nil _) rfl)
          exact hs_val ha rfl rfl (x_move rfl) rfl rfl
        | 1, _ =>
          intro val w1 a hb ha hd
          have ha := ha.sub (Sub.ins (d := 7) (Sub.nil _) rfl)
          exact hs_val ha rfl rfl (x_move rfl) rfl rfl
        | 2, _ =>
          intro val w1 a hb ha hd
          have e1 : val 1 = .pointer (some ⟨gA, 0 + i * 9 + 2, none⟩) := hd 1 (memB_mem.1 rfl)
          have ha := ha.sub (Sub.ins (d := 32) (Sub.nil _) (dep_get rfl e1))
          exact hs_val ha rfl rfl (x_nilCheck rfl) rfl rfl
        | 3, _ =>
          intro val w1 a hb ha hd
          have e2 : val 2 = .pointer (some ⟨gA, 0 + i * 9 + 2, none⟩) := hd 2 (memB_mem.1 rfl)
          have ha := ha.sub (Sub.ins (d := 33) (Sub.nil _) (dep_get rfl e2))
          exact hs_val ha rfl rfl (fa_23_0 rfl) rfl rfl
        | 4, _ =>
          intro val w1 a hb ha hd
          have e3 : val 3 = .pointer (some ⟨gA, 0 + i * 9 + 2, none⟩) := hd 3 (memB_mem.1 rfl)
          have ha := ha.sub (Sub.ins (d := 34) (Sub.nil _) (dep_get rfl e3))
          exact hs_val ha rfl rfl (ld_3 rfl (below_load hb hrc.c2)) rfl rfl
        | 5, _ =>
          intro val w1 a hb ha hd
          have ha := ha.sub (Sub.ins (d := 7) (Sub.nil _) rfl)
          exact hs_val ha rfl rfl (x_move rfl) rfl rfl
        | 6, _ =>
          intro val w1 a hb ha hd
          have e5 : val 5 = .pointer (some ⟨gA, 0 + i * 9 + 2, none⟩) := hd 5 (memB_mem.1 rfl)
          have ha := ha.sub (Sub.ins (d := 36) (Sub.nil _) (dep_get rfl e5))
          exact hs_val ha rfl rfl (x_nilCheck rfl) rfl rfl
        | 7, _ =>
          intro val w1 a hb ha hd
          have e6 : val 6 = .pointer (some ⟨gA, 0 + i * 9 + 2, none⟩) := hd 6 (memB_mem.1 rfl)
          have ha := ha.sub (Sub.ins (d := 37) (Sub.nil _) (dep_get rfl e6))
          exact hs_val ha rfl rfl (fa_23_0 rfl) rfl rfl
        | 8, _ =>
          intro val w1 a hb ha hd
          have e7 : val 7 = .pointer (some ⟨gA, 0 + i * 9 + 2, none⟩) := hd 7 (memB_mem.1 rfl)
          have ha := ha.sub (Sub.ins (d := 38) (Sub.nil _) (dep_get rfl e7))
          exact hs_val ha rfl rfl (ld_3 rfl (below_load hb hrc.c2)) rfl rfl
        | 9, _ =>
          intro val w1 a hb ha hd
          have e4 : val 4 = .int .i64 y.base.lo := hd 4 (memB_mem.1 rfl)
          have e8 : val 8 = .int .i64 y.base.lo := hd 8 (memB_mem.1 rfl)
          have ha := ha.sub (Sub.ins (d := 39) (Sub.ins (d := 35) (Sub.nil _) (dep_get rfl e4)) (dep_get rfl e8))
          exact hs_val ha rfl rfl (bd_23_0_1 rfl rfl) rfl rfl
        | k + 10, h => exact absurd h (by omega)
      · intro val wR6 hb halc hd
        have e0 : val 0 = .pointer (some ⟨gA, 0 + i * 9 + 2, none⟩) := hd 0 (by omega)
        have e1 : val 1 = .pointer (some ⟨gA, 0 + i * 9 + 2, none⟩) := hd 1 (by omega)
        have e2 : val 2 = .pointer (some ⟨gA, 0 + i * 9 + 2, none⟩) := hd 2 (by omega)
        have e3 : val 3 = .pointer (some ⟨gA, 0 + i * 9 + 2, none⟩) := hd 3 (by omega)
        have e4 : val 4 = .int .i64 y.base.lo := hd 4 (by omega)
        have e5 : val 5 = .pointer (some ⟨gA, 0 + i * 9 + 2, none⟩) := hd 5 (by omega)
        have e6 : val 6 = .pointer (some ⟨gA, 0 + i * 9 + 2, none⟩) := hd 6 (by omega)
        have e7 : val 7 = .pointer (some ⟨gA, 0 + i * 9 + 2, none⟩) := hd 7 (by omega)
        have e8 : val 8 = .int .i64 y.base.lo := hd 8 (by omega)
        have e9 : val 9 = .agg #[.int .i64 y.base.lo, .int .i64 y.base.lo] := hd 9 (by omega)
        refine EL.ends (cs := [.pointer (some ⟨gA, 0 + i * 9 + 2, none⟩), .pointer (some ⟨gA, 0 + i * 9 + 2, none⟩), .pointer (some ⟨gA, 0 + i * 9 + 2, none⟩), .pointer (some ⟨gA, 0 + i * 9 + 2, none⟩), .int .i64 y.base.lo, .pointer (some ⟨gA, 0 + i * 9 + 2, none⟩), .pointer (some ⟨gA, 0 + i * 9 + 2, none⟩), .pointer (some ⟨gA, 0 + i * 9 + 2, none⟩), .int .i64 y.base.lo, .agg #[.int .i64 y.base.lo, .int .i64 y.base.lo]]) ⟨e0, e1, e2, e3, e4, e5, e6, e7, e8, e9, trivial⟩ rfl ?_
        replace q1 := q1.below hb q1.lt
        replace q2 := q2.below hb q2.lt
        replace qa7_1 := qa7_1.below hb qa7_1.lt
        replace q2_ := q2_.below hb
        replace q5_ := OwnSides.below q5_ hb
        replace hbw := Below.on hbw hb hbw.size
        clear hb
        refine EL.val (x_nilCheck rfl) rfl ?_
        have ne5_1 := row_ne2 (e := 50) q2_.rows.own q1 rfl
        have ne5_2 := row_ne2 (e := 50) q2_.rows.own q2 rfl
        have ne5_3 := row_ne2 (e := 50) q2_.rows.own qa7_1 rfl
        obtain ⟨cur_, hcur_⟩ := own_blk q2_.rows.own
        have hw_ := q2_.rows.own
        have hm_ : (⟨ml, rv.shoals⟩ : River).reaches.length = rv.reaches.length := hml
        rw [hm_] at hw_
        refine EL.storeRow (l' := [.int .i64 y.base.lo, .int .i64 y.base.lo]) rfl rfl hw_ sz_23 rfl rfl (by rw [flat_len reachC_len, List.length_zip, q2_.rows.len, rowsR_len]; simp only; omega) rfl ?_
        intro w5 ho2 hg5
        have hbm := (q2_.rows.own.lt gA rfl).1
        have hvl := q2_.rows.len
        rw [rowsR_len] at hvl
        replace q1 := q1.grown hg5 (fun h => ne5_1 (Option.some.inj h))
        replace q2 := q2.grown hg5 (fun h => ne5_2 (Option.some.inj h))
        replace qa7_1 := qa7_1.grown hg5 (fun h => ne5_3 (Option.some.inj h))
        replace hbw := below_store hbw hg5 (Nat.le_trans hwb hbm)
        rw [Nat.zero_add, reach_set _ _ (by simp only; omega) hvl] at ho2
        replace q5_ := OwnSides.type q5_ hcur_ rfl rfl hg5
        simp only [hat] at ho2
        replace q2_ := q2_.set (i := i) (x' := { y with base := ⟨y.base.lo, y.base.lo⟩ }) (by simp only; omega) (by simp only [hat]) ho2 (by simp only; omega) hg5
        simp only at q2_
        clear ho2 hcur_ hw_ hm_
        refine EL.nil ?_
        refine EX.seq ?_
        refine EC.seq ?_
        refine EC.region ?_
        refine EL.val (x_move rfl) rfl ?_
        refine EL.nil ?_
        refine EX.seq ?_
        refine EC.no rfl ?_
        refine EC.skip ?_
        refine EX.seq ?_
        refine EC.seq ?_
        refine EC.region ?_
        refine EL.val (x_assign rfl) rfl ?_
        refine EL.nil ?_
        refine EX.seq ?_
        refine EC.block ?_
        have hrf : ml.set i { y with base := ⟨y.base.lo, y.base.lo⟩ } = mkR false rv.reaches (i + 1) := by rw [mkR, ← eml, ← ey]; rfl
        rw [hrf] at q2_
        obtain ⟨row, erow⟩ : ∃ z, z = sides.getD i [] := ⟨_, rfl⟩
        have hrl : row.length = (sides.getD 0 []).length := by rw [erow]; exact hS.same i (by omega)
        obtain ⟨ms, ems⟩ : ∃ z, z = mkS false sides i := ⟨_, rfl⟩
        have hmsl := mkS_len (hi := false) sides i
        rw [← ems] at hmk hmsl
        rw [← erow] at hmk
        have q50 := q5_
        rw [← ems] at q50
        clear q5_
        have q5_ : OwnSides w5 w2.heap.size (.slice (some ⟨gO, 0, none⟩) sides.length c5_) (ms.set i (mkB false row 0)) ss5_ := by
          have e : ms.set i (mkB false row 0) = ms := by
            apply List.ext_getElem?
            intro j
            rw [List.getElem?_set]
            by_cases e : i = j
            · subst e; rw [if_pos rfl]; have h2 : i < ms.length := by omega
              simp only [mkB, h2, if_true]
              rw [← hmk]; simp [h2]
            · rw [if_neg e]
          rw [e]; exact q50
        clear q50
        have hsl5 : ss5_.length = sides.length := by have := q5_.rd.len; rw [this, List.length_set, hmsl]
        refine EC.loopD [8, 9, 62, 63, 64, 65, 66, 67, 68, 69, 70, 71, 72, 73, 74, 75, 76, 77, 78, 79, 80, 81, 82, 83, 84, 85, 86, 87, 88, 89, 90, 91, 92, 93, 94, 95, 96, 97, 98, 99, 100] (fun x : Nat => [(8, .int .i64 (x : Nat))]) (fun x W => x ≤ row.length ∧ (OwnRiver W w2.heap.size (.slice (some ⟨gA, 0, none⟩) rv.reaches.length c2_) (.slice B2_ rv.shoals.length d2_) ⟨mkR false rv.reaches (i + 1), rv.shoals⟩ vs2_ ∧ OwnSides W w2.heap.size (.slice (some ⟨gO, 0, none⟩) sides.length c5_) (ms.set i (mkB false row x)) ss5_) ∧ Blk W g1 54 #[.slice (some ⟨bR, oR, none⟩) rv.reaches.length c, .slice A' rv.shoals.length c', .slice (some ⟨bS, oS, none⟩) sides.length d] ∧ Blk W g2 54 #[.slice none 0 0, .slice none 0 0, .slice none 0 0] ∧ Blk W ga7_1 54 #[.slice (some ⟨gA, 0, none⟩) rv.reaches.length c2_, .slice B2_ rv.shoals.length d2_, .slice (some ⟨gO, 0, none⟩) sides.length c5_] ∧ Below w.heap.size w W) (fun x => row.length - x) 0 ⟨Nat.zero_le _, ⟨q2_, q5_⟩, q1, q2, qa7_1, hbw⟩ ⟨rfl, trivial⟩ ?_
        clear q2_ q5_ q1 q2 qa7_1 hbw
        rintro k wk ⟨hk, ⟨q2_, q5_⟩, q1, q2, qa7_1, hbw⟩
        have hbl := mkB_len (hi := false) row k
        have hsr := Rows.each q5_ i (by rw [rowsB_len, List.length_set]; omega)
        have e8 : (rowsB (ms.set i (mkB false row k))).getD i (0, []) = (row.length, bdsC (mkB false row k)) := by
          have h2 : i < ms.length := by omega
          simp [rowsB, h2, hbl]
        rw [e8] at hsr
        simp only at hsr
        obtain ⟨Ar, cr, er, _⟩ := (Rd.of_own hsr).shape
        rw [er] at hsr
        obtain ⟨gR, rfl⟩ := own_slice hsr (by omega)
        obtain ⟨b1, o1, e1_, _, hsc1⟩ := sides_cell q5_.rd i (by rw [List.length_set]; omega)
        injection e1_ with e1_
        injection e1_ with e1_ e2_
        subst e1_
        subst e2_
        rw [er] at hsc1
        by_cases hkl : k < row.length
        ·
          have hos := hsa i (by omega)
          have hor := hs.side i (by omega)
          rw [← erow] at hor
          obtain ⟨Ao, co, eo, _⟩ := hor.shape
          rw [eo] at hos hor
          obtain ⟨bo2, oo2, rfl, _, z0, z1⟩ := bds_cells _ k hkl _ _ _ _ _ hor
          obtain ⟨yb, eyb⟩ : ∃ z, z = row.getD k bd0 := ⟨_, rfl⟩
          rw [← eyb] at z0 z1
          refine EC.seq ?_
          refine EC.seq ?_
          refine EC.region ?_
          refine EL.val (x_move rfl) rfl ?_
          refine EL.val (fa_54_1 rfl) rfl ?_
          refine EL.val (ld_52 rfl (qa7_1.at (j := 2) rfl)) rfl ?_
          refine EL.val (x_move rfl) rfl ?_
          refine EL.val (ix_52 rfl rfl (by omega)) rfl ?_
          refine EL.val (ld_28 rfl hsc1) rfl ?_
          refine EL.val (ln_28 rfl) rfl ?_
          refine EL.val (x_lss rfl rfl (by first | assumption | exact decide_eq_true (by omega))) rfl ?_
          refine EL.nil ?_
          refine EX.seq ?_
          refine EC.yes rfl ?_
          refine EC.skip ?_
          refine EX.seq ?_
          refine EC.seq ?_
          refine EC.block ?_
          refine EC.seq ?_
          refine EC.region ?_
          refine EL.val (fa_54_1 rfl) rfl ?_
          refine EL.val (ld_52 rfl (q1.at (j := 2) rfl)) rfl ?_
          refine EL.val (x_move rfl) rfl ?_
          refine EL.val (ix_52 rfl rfl (by omega)) rfl ?_
          refine EL.val (ld_28 rfl (below_load hbw hos)) rfl ?_
          refine EL.val (x_move rfl) rfl ?_
          refine EL.val (ix_28 rfl rfl hkl) rfl ?_
          refine EL.val (fa_23_0 rfl) rfl ?_
          refine EL.val (ld_3 rfl (below_load hbw z0)) rfl ?_
          refine EL.val (x_assign rfl) rfl ?_
          refine EL.nil ?_
          refine EX.seq ?_
          refine EC.seq ?_
          refine EC.seq ?_
          refine EC.region ?_
          refine EL.val (x_move rfl) rfl ?_
          refine EL.nil ?_
          refine EX.seq ?_
          refine EC.no rfl ?_
          refine EC.skip ?_
          refine EX.seq ?_
          refine EC.region ?_
          refine EL.val (fa_54_1 rfl) rfl ?_
          refine EL.val (ld_52 rfl (qa7_1.at (j := 2) rfl)) rfl ?_
          refine EL.val (x_move rfl) rfl ?_
          refine EL.val (ix_52 rfl rfl (by omega)) rfl ?_
          refine EL.val (ld_28 rfl hsc1) rfl ?_
          refine EL.val (x_move rfl) rfl ?_
          refine EL.val (x_move rfl) rfl ?_
          refine EL.val (x_move rfl) rfl ?_
          refine EL.val (bd_23_0_1 rfl rfl) rfl ?_
          refine EL.val (ix_28 rfl rfl hkl) rfl ?_
          have ne6_1 := row_ne2 (e := 23) hsr q1 rfl
          have ne6_2 := row_ne2 (e := 23) hsr q2 rfl
          have ne6_3 := row_ne2 (e := 23) hsr qa7_1 rfl
          obtain ⟨cur_, hcur_⟩ := own_blk hsr
          refine EL.storeRow (l' := [.int .i64 yb.lo, .int .i64 yb.lo]) rfl rfl hsr sz_23 rfl rfl (by rw [bdsC_len, hbl]; omega) rfl ?_
          intro w6 ho2 hg6
          have hbm := (hsr.lt gR rfl).1
          replace q1 := q1.grown hg6 (fun h => ne6_1 (Option.some.inj h))
          replace q2 := q2.grown hg6 (fun h => ne6_2 (Option.some.inj h))
          replace qa7_1 := qa7_1.grown hg6 (fun h => ne6_3 (Option.some.inj h))
          replace hbw := below_store hbw hg6 (Nat.le_trans hwb hbm)
          rw [Nat.zero_add, bd_set _ _ (by omega)] at ho2
          have hbf : (mkB false row k).set k ⟨yb.lo, yb.lo⟩ = mkB false row (k + 1) := by rw [mkB, ← eyb]; rfl
          rw [hbf] at ho2
          replace q2_ := q2_.type hcur_ rfl rfl rfl hg6
          have hbl2 := mkB_len (hi := false) row (k + 1)
          replace q5_ := OwnSides.set (i := i) (row := mkB false row (k + 1)) q5_ p5_ (by rw [List.length_set]; omega) (by rw [hbl2]; exact er) (by rw [hbl2, getD_setR (by omega), if_pos rfl, hbl]) (by rw [hbl2]; exact ho2) hg6
          rw [List.set_set] at q5_
          clear ho2 hcur_
          refine EL.nil ?_
          refine EX.blk ?_
          refine EX.seq ?_
          refine EC.region ?_
          refine EL.val (x_move rfl) rfl ?_
          refine EL.val (x_add rfl rfl (by first | assumption | exact IntWalk.i64_in _ ⟨by omega, by omega⟩)) rfl ?_
          refine EL.val (x_assign rfl) rfl ?_
          refine EL.nil ?_
          refine EX.roundD (k + 1) ⟨rfl, trivial⟩ (by repeat first | exact Sub.refl _ | refine sub_past rfl ?_ | refine sub_del rfl ?_ | refine sub_insL_nil ?_) ⟨hkl, ⟨q2_, q5_⟩, q1, q2, qa7_1, hbw⟩ (by omega)
        ·
          obtain rfl : k = row.length := by omega
          have hsf : ms.set i (mkB false row row.length) = mkS false sides (i + 1) := by rw [mkS, ← ems, ← erow]
          rw [hsf] at q5_
          refine EC.seq ?_
          refine EC.seq ?_
          refine EC.region ?_
          refine EL.val (x_move rfl) rfl ?_
          refine EL.val (fa_54_1 rfl) rfl ?_
          refine EL.val (ld_52 rfl (qa7_1.at (j := 2) rfl)) rfl ?_
          refine EL.val (x_move rfl) rfl ?_
          refine EL.val (ix_52 rfl rfl (by omega)) rfl ?_
          refine EL.val (ld_28 rfl hsc1) rfl ?_
          refine EL.val (ln_28 rfl) rfl ?_
          refine EL.val (x_lss rfl rfl (by first | assumption | exact decide_eq_false (by omega))) rfl ?_
          refine EL.nil ?_
          refine EX.seq ?_
          refine EC.no rfl ?_
          refine EC.exit ?_
          refine EX.seq_exit ?_
          refine EX.seq_exit ?_
          refine EX.blk_here ?_
          refine EX.blk ?_
          refine EX.seq ?_
          refine EC.region ?_
          refine EL.val (x_move rfl) rfl ?_
          refine EL.val (x_add rfl rfl (by first | assumption | exact IntWalk.i64_in _ ⟨by omega, by omega⟩)) rfl ?_
          refine EL.val (x_assign rfl) rfl ?_
          refine EL.nil ?_
          refine EX.roundD (i + 1) ⟨rfl, trivial⟩ (by repeat first | exact Sub.refl _ | refine sub_past rfl ?_ | refine sub_del rfl ?_ | refine sub_insL_nil ?_) ⟨hlt, ⟨q2_, q5_⟩, q1, q2, qa7_1, hbw⟩ (by omega)
    ·
      obtain rfl : i = rv.reaches.length := by omega
      refine EC.seq ?_
      refine EC.seq ?_
      refine EC.region ?_
      refine EL.val (x_move rfl) rfl ?_
      refine EL.val (fa_54_0 rfl) rfl ?_
      refine EL.val (fa_47_0 rfl) rfl ?_
      refine EL.val (ld_44 rfl (qa7_1.at (j := 0) rfl)) rfl ?_
      refine EL.val (ln_44 rfl) rfl ?_
      refine EL.val (x_lss rfl rfl (by first | assumption | exact decide_eq_false (by omega))) rfl ?_
      refine EL.nil ?_
      refine EX.seq ?_
      refine EC.no rfl ?_
      refine EC.exit ?_
      refine EX.seq_exit ?_
      refine EX.seq_exit ?_
      refine EX.blk_here ?_
      refine EX.seq ?_
      refine EC.seq ?_
      refine EC.region ?_
      refine EL.val (ld_54 rfl (qa7_1.at (j := 0) rfl) (qa7_1.at (j := 1) rfl) (qa7_1.at (j := 2) rfl)) rfl ?_
      refine EL.store rfl rfl q2 sz_54 rfl rfl rfl rfl ?_
      intro w7 hq7 hg7
      replace q1 := q1.grown hg7 (fun h => n1_2 (Option.some.inj h))
      replace qa7_1 := qa7_1.grown hg7 (fun h => n2_3.symm (Option.some.inj h))
      replace q2_ := q2_.type q2 rfl rfl rfl hg7
      replace q5_ := OwnSides.type q5_ q2 rfl rfl hg7
      replace hbw := below_store hbw hg7 bhbw_2
      replace q2 := hq7
      clear hg7 hq7
      refine EL.nil ?_
      refine EX.seq ?_
      refine EC.ret ?_
      exact EX.done (resc1 rfl rfl (lv_54 (q2.at rfl) (q2.at rfl) (q2.at rfl))) ⟨⟨_, _, _, _, _, rfl, q2_.rd, by rw [show mkS false sides sides.length = mkS false sides rv.reaches.length by rw [hmany]]; exact q5_.rd⟩, hbw⟩

set_option maxHeartbeats 8000000 in
set_option maxRecDepth 100000 in
theorem only_true (rv : River) (sides : List (List Bd)) (v u s : Value) (vs ss : List Value) (w : World) (B : Nat) (hr : RdRiver w B v u rv vs) (hs : RdSides w B s sides ss) (hB : B ≤ w.heap.size) (hfine : Fine rv sides) (hS : StartOk rv sides) :
    Calls Try.prog 45 #[.agg #[v, u, s], .bool true] w fun e w' => (∃ a b s' vs' ss', e = .returned (.agg #[a, b, s']) ∧ RdRiver w' w'.heap.size a b ⟨mkR true rv.reaches rv.reaches.length, rv.shoals⟩ vs' ∧ RdSides w' w'.heap.size s' (mkS true sides sides.length) ss') ∧ Below w.heap.size w w' := by
  have f1 := hfine.nreaches
  have f2 := hfine.nshoals
  have f3 := hfine.curves
  have f4 := hfine.sidesB
  have f5 := hfine.nsides
  have hhr := hS.hours
  have hmany := hS.many
  have hsm := hS.river.some
  obtain ⟨A, c, rfl, _⟩ := hr.reaches.shape
  obtain ⟨A', c', rfl, _⟩ := hr.shoals.shape
  obtain ⟨D, d, rfl, _⟩ := hs.rd.shape
  have hbw := Below.refl w.heap.size w
  obtain ⟨bS, oS, rfl, _, hsa⟩ := sides_all hs (by omega)
  obtain ⟨bR, oR, rfl, _, _⟩ := reaches_cells hr.reaches 0 (by omega)
  refine EC.enter 102 Try.func45 rfl rfl rfl ?_
  refine EC.seq ?_
  refine EC.region ?_
  refine EL.newP (bx_54 rfl) rfl ?_
  intro g1 w1 q1 hb1 hg1 hl1
  have bhbw_1 := Nat.le_trans hbw.size hg1
  replace hbw := Below.on hbw hb1 hbw.size
  clear hb1 hg1 hl1
  refine EL.newP al_54 rfl ?_
  intro g2 w2 q2 hb2 hg2 hl2
  have n1_2 : g1 ≠ g2 := Nat.ne_of_lt (Nat.lt_of_lt_of_le q1.lt hg2)
  have bhbw_2 := Nat.le_trans hbw.size hg2
  replace q1 := q1.below hb2 q1.lt
  replace hbw := Below.on hbw hb2 hbw.size
  clear hb2 hg2 hl2
  refine EL.nil ?_
  refine EX.seq ?_
  refine EC.seq ?_
  have szb := hbw.size
  have lt_1 := q1.lt
  have lt_2 := q2.lt
  refine EC.regionP [[], [0], [0, 1], [], [3], [0, 1, 2, 3, 4], [0, 1, 2, 3, 4, 5], [], [0, 1, 2, 3, 4, 5, 6, 7]] 8 [7] (phi (fun i_ r => match i_ with | 0 => r 0 = .pointer (some ⟨g1, 0, none⟩) | 1 => r 1 = .agg #[.slice (some ⟨bR, oR, none⟩) rv.reaches.length c, .slice A' rv.shoals.length c'] | 3 => r 3 = .pointer (some ⟨g1, 2, none⟩) | 4 => r 4 = .slice (some ⟨bS, oS, none⟩) sides.length d | _ => True) [(2, fun r w_ => ∃ a b vs, r 2 = .agg #[a, b] ∧ OwnRiver w_ w2.heap.size a b rv vs), (5, fun r w_ => ∃ v ss, r 5 = v ∧ OwnSides w_ w2.heap.size v sides ss ∧ PW ss), (6, fun r w_ => ∃ a b s, r 6 = .agg #[a, b, s] ∧ r 2 = .agg #[a, b] ∧ r 5 = s), (7, fun r w_ => ∃ g_, r 7 = .pointer (some ⟨g_, 0, none⟩) ∧ Blk w_ g_ 54 #[.slice none 0 0, .slice none 0 0, .slice none 0 0])]) (by kernel_rfl) rfl rfl (phi_cons mono_oriv (phi_cons mono_psid (phi_cons mono_pure (phi_cons mono_alloc (phi_nil))))) (fun i_ hi_ => ?_) ?_
  · match i_, hi_ with
    | 0, _ =>
      intro val w1 a hb ha hd
      have ha := ha.sub (Sub.ins (d := 2) (Sub.nil _) rfl)
      exact hs_val ha rfl rfl (fa_54_0 rfl) rfl rfl
    | 1, _ =>
      intro val w1 a hb ha hd
      have e0 : val 0 = .pointer (some ⟨g1, 0, none⟩) := hd 0 (memB_mem.1 rfl)
      have ha := ha.sub (Sub.ins (d := 10) (Sub.nil _) (dep_get rfl e0))
      exact hs_val ha rfl rfl (ld_47 rfl ((q1.below hb q1.lt).at (j := 0) rfl) ((q1.below hb q1.lt).at (j := 1) rfl)) rfl rfl
    | 2, _ =>
      intro val w1 a hb ha hd
      have e1 : val 1 = .agg #[.slice (some ⟨bR, oR, none⟩) rv.reaches.length c, .slice A' rv.shoals.length c'] := hd 1 (memB_mem.1 rfl)
      have ha := ha.sub (Sub.ins (d := 11) (Sub.nil _) (dep_get rfl e1))
      refine hs_call ha rfl rfl (cl_24 rfl) (copied_OR rv _ _ vs _ B (hr.below ((Below.on hbw hb hbw.size).mono hB)) (Nat.le_trans hB (Below.on hbw hb hbw.size).size) (by omega) (by omega) f3) rfl ?_
      rintro e w' ⟨⟨v1, u1, vs1, rfl, hcp⟩, hb'⟩
      exact ⟨_, rfl, hb', ⟨_, _, _, rfl, hcp.less hb.size⟩⟩
    | 3, _ =>
      intro val w1 a hb ha hd
      have ha := ha.sub (Sub.ins (d := 2) (Sub.nil _) rfl)
      exact hs_val ha rfl rfl (fa_54_1 rfl) rfl rfl
    | 4, _ =>
      intro val w1 a hb ha hd
      have e3 : val 3 = .pointer (some ⟨g1, 2, none⟩) := hd 3 (memB_mem.1 rfl)
      have ha := ha.sub (Sub.ins (d := 13) (Sub.nil _) (dep_get rfl e3))
      exact hs_val ha rfl rfl (ld_52 rfl ((q1.below hb q1.lt).at (j := 2) rfl)) rfl rfl
    | 5, _ =>
      intro val w1 a hb ha hd
      have e4 : val 4 = .slice (some ⟨bS, oS, none⟩) sides.length d := hd 4 (memB_mem.1 rfl)
      have ha := ha.sub (Sub.ins (d := 14) (Sub.nil _) (dep_get rfl e4))
      refine hs_call ha rfl rfl (cl_34 rfl) (forecast_PS sides _ ss _ B (hs.below ((Below.on hbw hb hbw.size).mono hB)) (Nat.le_trans hB (Below.on hbw hb hbw.size).size) (by omega) f4) rfl ?_
      rintro e w' ⟨⟨v1, ss1, rfl, hcp, hpw⟩, hb'⟩
      exact ⟨_, rfl, hb', ⟨_, _, rfl, Rows.less hcp hb.size, hpw⟩⟩
    | 6, _ =>
      intro val w1 a hb ha hd
      obtain ⟨a2_, b2_, vs2_, e2, q2_⟩ := hd 2 (memB_mem.1 rfl)
      obtain ⟨v5_, ss5_, e5, q5_, p5_⟩ := hd 5 (memB_mem.1 rfl)
      have ha := ha.sub (Sub.ins (d := 15) (Sub.ins (d := 12) (Sub.nil _) (dep_get rfl e2)) (dep_get rfl e5))
      obtain ⟨A_, c_, rfl, _⟩ := q5_.rd.rd.shape
      exact hs_val ha rfl rfl (bd_54_0_1 rfl rfl) ⟨_, _, _, rfl, e2, e5⟩ rfl
    | 7, _ =>
      intro val w1 a hb ha hd
      have ha := ha.sub (Sub.nil _)
      exact hs_newP ha rfl rfl al_54 (fun g w' hq _ _ => ⟨g, rfl, hq⟩)
    | k + 8, h => exact absurd h (by omega)
  · intro val wR1 hb halc hd
    have e0 : val 0 = .pointer (some ⟨g1, 0, none⟩) := hd 0 (by omega)
    have e1 : val 1 = .agg #[.slice (some ⟨bR, oR, none⟩) rv.reaches.length c, .slice A' rv.shoals.length c'] := hd 1 (by omega)
    obtain ⟨a2_, b2_, vs2_, e2, q2_⟩ := hd 2 (by omega)
    have e3 : val 3 = .pointer (some ⟨g1, 2, none⟩) := hd 3 (by omega)
    have e4 : val 4 = .slice (some ⟨bS, oS, none⟩) sides.length d := hd 4 (by omega)
    obtain ⟨v5_, ss5_, e5, q5_, p5_⟩ := hd 5 (by omega)
    obtain ⟨a6_, b6_, s6_, e6, x6_, y6_⟩ := hd 6 (by omega)
    obtain ⟨ga7_1, e7, qa7_1⟩ := hd 7 (by omega)
    refine EL.ends (cs := [.pointer (some ⟨g1, 0, none⟩), .agg #[.slice (some ⟨bR, oR, none⟩) rv.reaches.length c, .slice A' rv.shoals.length c'], .agg #[a2_, b2_], .pointer (some ⟨g1, 2, none⟩), .slice (some ⟨bS, oS, none⟩) sides.length d, v5_, .agg #[a6_, b6_, s6_], .pointer (some ⟨ga7_1, 0, none⟩)]) ⟨e0, e1, e2, e3, e4, e5, e6, e7, trivial⟩ rfl ?_
    replace q1 := q1.below hb q1.lt
    replace q2 := q2.below hb q2.lt
    have bge3 := alc_ge halc (i := 7) rfl rfl e7
    have n1_3 : g1 ≠ ga7_1 := Nat.ne_of_lt (Nat.lt_of_lt_of_le lt_1 bge3)
    have n2_3 : g2 ≠ ga7_1 := Nat.ne_of_lt (Nat.lt_of_lt_of_le lt_2 bge3)
    have bhbw_3 := Nat.le_trans hbw.size bge3
    replace hbw := Below.on hbw hb hbw.size
    clear hb
    have x6 : (.agg #[a2_, b2_] : Value) = .agg #[a6_, b6_] := e2.symm.trans x6_
    injection x6 with x6
    simp only [Array.mk.injEq, List.cons.injEq, and_true] at x6
    obtain ⟨x61, x62⟩ := x6
    subst x61
    subst x62
    have y6 : v5_ = s6_ := e5.symm.trans y6_
    subst y6
    obtain ⟨A2_, c2_, rfl, _⟩ := q2_.rd.reaches.shape
    obtain ⟨B2_, d2_, rfl, _⟩ := q2_.rd.shoals.shape
    obtain ⟨A5_, c5_, rfl, _⟩ := q5_.rd.rd.shape
    clear x6_ y6_
    refine EL.store rfl rfl qa7_1 sz_54 rfl rfl rfl rfl ?_
    intro w4 hq4 hg4
    replace q1 := q1.grown hg4 (fun h => n1_3 (Option.some.inj h))
    replace q2 := q2.grown hg4 (fun h => n2_3 (Option.some.inj h))
    replace q2_ := q2_.type qa7_1 rfl rfl rfl hg4
    replace q5_ := OwnSides.type q5_ qa7_1 rfl rfl hg4
    replace hbw := below_store hbw hg4 bhbw_3
    replace qa7_1 := hq4
    clear hg4 hq4
    refine EL.nil ?_
    refine EX.seq ?_
    refine EC.seq ?_
    refine EC.seq ?_
    refine EC.region ?_
    refine EL.val (x_assign rfl) rfl ?_
    refine EL.nil ?_
    refine EX.seq ?_
    refine EC.block ?_
    obtain ⟨gA, rfl⟩ := own_slice q2_.rows.own (by omega)
    obtain ⟨gO, rfl⟩ := own_slice (Rows.own q5_) (by omega)
    have hwb : w.heap.size ≤ w2.heap.size := szb
    refine EC.loopD [6, 7, 8, 9, 17, 18, 19, 20, 21, 22, 23, 24, 25, 26, 27, 28, 29, 30, 31, 32, 33, 34, 35, 36, 37, 38, 39, 40, 41, 42, 43, 44, 45, 46, 47, 48, 49, 50, 51, 52, 53, 54, 55, 56, 57, 58, 59, 60, 61, 62, 63, 64, 65, 66, 67, 68, 69, 70, 71, 72, 73, 74, 75, 76, 77, 78, 79, 80, 81, 82, 83, 84, 85, 86, 87, 88, 89, 90, 91, 92, 93, 94, 95, 96, 97, 98, 99, 100] (fun x : Nat => [(6, .int .i64 (x : Nat))]) (fun x W => x ≤ rv.reaches.length ∧ (OwnRiver W w2.heap.size (.slice (some ⟨gA, 0, none⟩) rv.reaches.length c2_) (.slice B2_ rv.shoals.length d2_) ⟨mkR true rv.reaches x, rv.shoals⟩ vs2_ ∧ OwnSides W w2.heap.size (.slice (some ⟨gO, 0, none⟩) sides.length c5_) (mkS true sides x) ss5_) ∧ Blk W g1 54 #[.slice (some ⟨bR, oR, none⟩) rv.reaches.length c, .slice A' rv.shoals.length c', .slice (some ⟨bS, oS, none⟩) sides.length d] ∧ Blk W g2 54 #[.slice none 0 0, .slice none 0 0, .slice none 0 0] ∧ Blk W ga7_1 54 #[.slice (some ⟨gA, 0, none⟩) rv.reaches.length c2_, .slice B2_ rv.shoals.length d2_, .slice (some ⟨gO, 0, none⟩) sides.length c5_] ∧ Below w.heap.size w W) (fun x => rv.reaches.length - x) 0 ⟨Nat.zero_le _, ⟨q2_, q5_⟩, q1, q2, qa7_1, hbw⟩ ⟨rfl, trivial⟩ ?_
    clear q2_ q5_ q1 q2 qa7_1 hbw
    rintro i wr ⟨hi, ⟨q2_, q5_⟩, q1, q2, qa7_1, hbw⟩
    by_cases hlt : i < rv.reaches.length
    ·
      have hml := mkR_len (hi := true) rv.reaches i
      have hat := mkR_at (hi := true) rv.reaches (i := i) (j := i) (by omega)
      rw [if_neg (by omega)] at hat
      obtain ⟨y, ey⟩ : ∃ y, y = rv.reaches.getD i reach0 := ⟨_, rfl⟩
      rw [← ey] at hat
      obtain ⟨ml, eml⟩ : ∃ z, z = mkR true rv.reaches i := ⟨_, rfl⟩
      rw [← eml] at q2_ hml hat
      obtain ⟨b1, o1, e1_, _, hrc⟩ := reaches_cells q2_.rd.reaches i (by simp only; omega)
      injection e1_ with e1_
      injection e1_ with e1_ e2_
      subst e1_
      subst e2_
      simp only at hrc
      rw [hat] at hrc
      obtain ⟨bo, oo, eo, _, hoc⟩ := reaches_cells hr.reaches i hlt
      injection eo with eo
      injection eo with eo1 eo2
      subst eo1
      subst eo2
      rw [← ey] at hoc
      have hmk := mkS_at (hi := true) sides (i := i) (j := i) (by omega)
      rw [if_neg (by omega)] at hmk
      refine EC.seq ?_
      refine EC.seq ?_
      refine EC.region ?_
      refine EL.val (x_move rfl) rfl ?_
      refine EL.val (fa_54_0 rfl) rfl ?_
      refine EL.val (fa_47_0 rfl) rfl ?_
      refine EL.val (ld_44 rfl (qa7_1.at (j := 0) rfl)) rfl ?_
      refine EL.val (ln_44 rfl) rfl ?_
      refine EL.val (x_lss rfl rfl (by first | assumption | exact decide_eq_true (by omega))) rfl ?_
      refine EL.nil ?_
      refine EX.seq ?_
      refine EC.yes rfl ?_
      refine EC.skip ?_
      refine EX.seq ?_
      refine EC.seq ?_
      refine EC.block ?_
      refine EC.seq ?_
      refine EC.region ?_
      refine EL.val (fa_54_0 rfl) rfl ?_
      refine EL.val (fa_47_0 rfl) rfl ?_
      refine EL.val (ld_44 rfl (qa7_1.at (j := 0) rfl)) rfl ?_
      refine EL.val (x_move rfl) rfl ?_
      refine EL.val (ix_44 rfl rfl hlt) rfl ?_
      refine EL.val (fa_50_2 rfl) rfl ?_
      refine EL.val (x_assign rfl) rfl ?_
      refine EL.nil ?_
      refine EX.seq ?_
      refine EC.seq ?_
      refine EC.seq ?_
      have lt_1 := q1.lt
      have lt_2 := q2.lt
      have lt_3 := qa7_1.lt
      refine EC.regionP [[], [], [1], [1, 2], [1, 2, 3], [], [5], [5, 6], [5, 6, 7], [1, 2, 3, 4, 5, 6, 7, 8], [0, 1, 2, 3, 4, 5, 6, 7, 8, 9], [0, 1, 2, 3, 4, 5, 6, 7, 8, 9, 10]] 10 [] (phi (fun i_ r => match i_ with | 0 => r 0 = .pointer (some ⟨gA, 0 + i * 9 + 2, none⟩) | 1 => r 1 = .pointer (some ⟨gA, 0 + i * 9 + 2, none⟩) | 2 => r 2 = .pointer (some ⟨gA, 0 + i * 9 + 2, none⟩) | 3 => r 3 = .pointer (some ⟨gA, 0 + i * 9 + 2, none⟩) | 4 => r 4 = .int .i64 y.base.lo | 5 => r 5 = .pointer (some ⟨gA, 0 + i * 9 + 2, none⟩) | 6 => r 6 = .pointer (some ⟨gA, 0 + i * 9 + 2, none⟩) | 7 => r 7 = .pointer (some ⟨gA, 0 + i * 9 + 2, none⟩) | 8 => r 8 = .int .i64 y.base.lo | 9 => r 9 = .agg #[.int .i64 y.base.lo, .int .i64 y.base.lo] | _ => True) []) (by kernel_rfl) rfl rfl (phi_nil) (fun i_ hi_ => ?_) ?_
      · match i_, hi_ with
        | 0, _ =>
          intro val w1 a hb ha hd
          have ha := ha.sub (Sub.ins (d := 7) (Sub.nil _) rfl)
          exact hs_val ha rfl rfl (x_move rfl) rfl rfl
        | 1, _ =>
          intro val w1 a hb ha hd
          have ha := ha.sub (Sub.ins (d := 7) (Sub.nil _) rfl)
          exact hs_val ha rfl rfl (x_move rfl) rfl rfl
        | 2, _ =>
          intro val w1 a hb ha hd
          have e1 : val 1 = .pointer (some ⟨gA, 0 + i * 9 + 2, none⟩) := hd 1 (memB_mem.1 rfl)
          have ha := ha.sub (Sub.ins (d := 32) (Sub.nil _) (dep_get rfl e1))
          exact hs_val ha rfl rfl (x_nilCheck rfl) rfl rfl
        | 3, _ =>
          intro val w1 a hb ha hd
          have e2 : val 2 = .pointer (some ⟨gA, 0 + i * 9 + 2, none⟩) := hd 2 (memB_mem.1 rfl)
          have ha := ha.sub (Sub.ins (d := 33) (Sub.nil _) (dep_get rfl e2))
          exact hs_val ha rfl rfl (fa_23_0 rfl) rfl rfl
        | 4, _ =>
          intro val w1 a hb ha hd
          have e3 : val 3 = .pointer (some ⟨gA, 0 + i * 9 + 2, none⟩) := hd 3 (memB_mem.1 rfl)
          have ha := ha.sub (Sub.ins (d := 34) (Sub.nil _) (dep_get rfl e3))
          exact hs_val ha rfl rfl (ld_3 rfl (below_load hb hrc.c2)) rfl rfl
        | 5, _ =>
          intro val w1 a hb ha hd
          have ha := ha.sub (Sub.ins (d := 7) (Sub.nil _) rfl)
          exact hs_val ha rfl rfl (x_move rfl) rfl rfl
        | 6, _ =>
          intro val w1 a hb ha hd
          have e5 : val 5 = .pointer (some ⟨gA, 0 + i * 9 + 2, none⟩) := hd 5 (memB_mem.1 rfl)
          have ha := ha.sub (Sub.ins (d := 36) (Sub.nil _) (dep_get rfl e5))
          exact hs_val ha rfl rfl (x_nilCheck rfl) rfl rfl
        | 7, _ =>
          intro val w1 a hb ha hd
          have e6 : val 6 = .pointer (some ⟨gA, 0 + i * 9 + 2, none⟩) := hd 6 (memB_mem.1 rfl)
          have ha := ha.sub (Sub.ins (d := 37) (Sub.nil _) (dep_get rfl e6))
          exact hs_val ha rfl rfl (fa_23_0 rfl) rfl rfl
        | 8, _ =>
          intro val w1 a hb ha hd
          have e7 : val 7 = .pointer (some ⟨gA, 0 + i * 9 + 2, none⟩) := hd 7 (memB_mem.1 rfl)
          have ha := ha.sub (Sub.ins (d := 38) (Sub.nil _) (dep_get rfl e7))
          exact hs_val ha rfl rfl (ld_3 rfl (below_load hb hrc.c2)) rfl rfl
        | 9, _ =>
          intro val w1 a hb ha hd
          have e4 : val 4 = .int .i64 y.base.lo := hd 4 (memB_mem.1 rfl)
          have e8 : val 8 = .int .i64 y.base.lo := hd 8 (memB_mem.1 rfl)
          have ha := ha.sub (Sub.ins (d := 39) (Sub.ins (d := 35) (Sub.nil _) (dep_get rfl e4)) (dep_get rfl e8))
          exact hs_val ha rfl rfl (bd_23_0_1 rfl rfl) rfl rfl
        | k + 10, h => exact absurd h (by omega)
      · intro val wR6 hb halc hd
        have e0 : val 0 = .pointer (some ⟨gA, 0 + i * 9 + 2, none⟩) := hd 0 (by omega)
        have e1 : val 1 = .pointer (some ⟨gA, 0 + i * 9 + 2, none⟩) := hd 1 (by omega)
        have e2 : val 2 = .pointer (some ⟨gA, 0 + i * 9 + 2, none⟩) := hd 2 (by omega)
        have e3 : val 3 = .pointer (some ⟨gA, 0 + i * 9 + 2, none⟩) := hd 3 (by omega)
        have e4 : val 4 = .int .i64 y.base.lo := hd 4 (by omega)
        have e5 : val 5 = .pointer (some ⟨gA, 0 + i * 9 + 2, none⟩) := hd 5 (by omega)
        have e6 : val 6 = .pointer (some ⟨gA, 0 + i * 9 + 2, none⟩) := hd 6 (by omega)
        have e7 : val 7 = .pointer (some ⟨gA, 0 + i * 9 + 2, none⟩) := hd 7 (by omega)
        have e8 : val 8 = .int .i64 y.base.lo := hd 8 (by omega)
        have e9 : val 9 = .agg #[.int .i64 y.base.lo, .int .i64 y.base.lo] := hd 9 (by omega)
        refine EL.ends (cs := [.pointer (some ⟨gA, 0 + i * 9 + 2, none⟩), .pointer (some ⟨gA, 0 + i * 9 + 2, none⟩), .pointer (some ⟨gA, 0 + i * 9 + 2, none⟩), .pointer (some ⟨gA, 0 + i * 9 + 2, none⟩), .int .i64 y.base.lo, .pointer (some ⟨gA, 0 + i * 9 + 2, none⟩), .pointer (some ⟨gA, 0 + i * 9 + 2, none⟩), .pointer (some ⟨gA, 0 + i * 9 + 2, none⟩), .int .i64 y.base.lo, .agg #[.int .i64 y.base.lo, .int .i64 y.base.lo]]) ⟨e0, e1, e2, e3, e4, e5, e6, e7, e8, e9, trivial⟩ rfl ?_
        replace q1 := q1.below hb q1.lt
        replace q2 := q2.below hb q2.lt
        replace qa7_1 := qa7_1.below hb qa7_1.lt
        replace q2_ := q2_.below hb
        replace q5_ := OwnSides.below q5_ hb
        replace hbw := Below.on hbw hb hbw.size
        clear hb
        refine EL.val (x_nilCheck rfl) rfl ?_
        have ne5_1 := row_ne2 (e := 50) q2_.rows.own q1 rfl
        have ne5_2 := row_ne2 (e := 50) q2_.rows.own q2 rfl
        have ne5_3 := row_ne2 (e := 50) q2_.rows.own qa7_1 rfl
        obtain ⟨cur_, hcur_⟩ := own_blk q2_.rows.own
        have hw_ := q2_.rows.own
        have hm_ : (⟨ml, rv.shoals⟩ : River).reaches.length = rv.reaches.length := hml
        rw [hm_] at hw_
        refine EL.storeRow (l' := [.int .i64 y.base.lo, .int .i64 y.base.lo]) rfl rfl hw_ sz_23 rfl rfl (by rw [flat_len reachC_len, List.length_zip, q2_.rows.len, rowsR_len]; simp only; omega) rfl ?_
        intro w5 ho2 hg5
        have hbm := (q2_.rows.own.lt gA rfl).1
        have hvl := q2_.rows.len
        rw [rowsR_len] at hvl
        replace q1 := q1.grown hg5 (fun h => ne5_1 (Option.some.inj h))
        replace q2 := q2.grown hg5 (fun h => ne5_2 (Option.some.inj h))
        replace qa7_1 := qa7_1.grown hg5 (fun h => ne5_3 (Option.some.inj h))
        replace hbw := below_store hbw hg5 (Nat.le_trans hwb hbm)
        rw [Nat.zero_add, reach_set _ _ (by simp only; omega) hvl] at ho2
        replace q5_ := OwnSides.type q5_ hcur_ rfl rfl hg5
        simp only [hat] at ho2
        replace q2_ := q2_.set (i := i) (x' := { y with base := ⟨y.base.lo, y.base.lo⟩ }) (by simp only; omega) (by simp only [hat]) ho2 (by simp only; omega) hg5
        simp only at q2_
        clear ho2 hcur_ hw_ hm_
        refine EL.nil ?_
        refine EX.seq ?_
        refine EC.seq ?_
        refine EC.region ?_
        refine EL.val (x_move rfl) rfl ?_
        refine EL.nil ?_
        refine EX.seq ?_
        refine EC.yes rfl ?_
        have lt_1 := q1.lt
        have lt_2 := q2.lt
        have lt_3 := qa7_1.lt
        refine EC.regionP [[], [], [1], [1, 2], [], [1, 2, 3, 4], [1, 2, 3, 4, 5], [1, 2, 3, 4, 5, 6], [1, 2, 3, 4, 5, 6, 7], [], [9], [9, 10], [], [9, 10, 11, 12], [9, 10, 11, 12, 13], [9, 10, 11, 12, 13, 14], [9, 10, 11, 12, 13, 14, 15], [1, 2, 3, 4, 5, 6, 7, 8, 9, 10, 11, 12, 13, 14, 15, 16], [0, 1, 2, 3, 4, 5, 6, 7, 8, 9, 10, 11, 12, 13, 14, 15, 16, 17], [0, 1, 2, 3, 4, 5, 6, 7, 8, 9, 10, 11, 12, 13, 14, 15, 16, 17, 18]] 18 [] (phi (fun i_ r => match i_ with | 0 => r 0 = .pointer (some ⟨gA, 0 + i * 9 + 2, none⟩) | 1 => r 1 = .pointer (some ⟨g1, 0, none⟩) | 2 => r 2 = .pointer (some ⟨g1, 0, none⟩) | 3 => r 3 = .slice (some ⟨bR, oR, none⟩) rv.reaches.length c | 4 => r 4 = .int .i64 (i : Nat) | 5 => r 5 = .pointer (some ⟨bR, oR + i * 9, none⟩) | 6 => r 6 = .pointer (some ⟨bR, oR + i * 9 + 2, none⟩) | 7 => r 7 = .pointer (some ⟨bR, oR + i * 9 + 2 + 1, none⟩) | 8 => r 8 = .int .i64 y.base.hi | 9 => r 9 = .pointer (some ⟨g1, 0, none⟩) | 10 => r 10 = .pointer (some ⟨g1, 0, none⟩) | 11 => r 11 = .slice (some ⟨bR, oR, none⟩) rv.reaches.length c | 12 => r 12 = .int .i64 (i : Nat) | 13 => r 13 = .pointer (some ⟨bR, oR + i * 9, none⟩) | 14 => r 14 = .pointer (some ⟨bR, oR + i * 9 + 2, none⟩) | 15 => r 15 = .pointer (some ⟨bR, oR + i * 9 + 2 + 1, none⟩) | 16 => r 16 = .int .i64 y.base.hi | 17 => r 17 = .agg #[.int .i64 y.base.hi, .int .i64 y.base.hi] | _ => True) []) (by kernel_rfl) rfl rfl (phi_nil) (fun i_ hi_ => ?_) ?_
        · match i_, hi_ with
          | 0, _ =>
            intro val w1 a hb ha hd
            have ha := ha.sub (Sub.ins (d := 7) (Sub.nil _) rfl)
            exact hs_val ha rfl rfl (x_move rfl) rfl rfl
          | 1, _ =>
            intro val w1 a hb ha hd
            have ha := ha.sub (Sub.ins (d := 2) (Sub.nil _) rfl)
            exact hs_val ha rfl rfl (fa_54_0 rfl) rfl rfl
          | 2, _ =>
            intro val w1 a hb ha hd
            have e1 : val 1 = .pointer (some ⟨g1, 0, none⟩) := hd 1 (memB_mem.1 rfl)
            have ha := ha.sub (Sub.ins (d := 44) (Sub.nil _) (dep_get rfl e1))
            exact hs_val ha rfl rfl (fa_47_0 rfl) rfl rfl
          | 3, _ =>
            intro val w1 a hb ha hd
            have e2 : val 2 = .pointer (some ⟨g1, 0, none⟩) := hd 2 (memB_mem.1 rfl)
            have ha := ha.sub (Sub.ins (d := 45) (Sub.nil _) (dep_get rfl e2))
            exact hs_val ha rfl rfl (ld_44 rfl ((q1.below hb q1.lt).at (j := 0) rfl)) rfl rfl
          | 4, _ =>
            intro val w1 a hb ha hd
            have ha := ha.sub (Sub.ins (d := 6) (Sub.nil _) rfl)
            exact hs_val ha rfl rfl (x_move rfl) rfl rfl
          | 5, _ =>
            intro val w1 a hb ha hd
            have e3 : val 3 = .slice (some ⟨bR, oR, none⟩) rv.reaches.length c := hd 3 (memB_mem.1 rfl)
            have e4 : val 4 = .int .i64 (i : Nat) := hd 4 (memB_mem.1 rfl)
            have ha := ha.sub (Sub.ins (d := 47) (Sub.ins (d := 46) (Sub.nil _) (dep_get rfl e3)) (dep_get rfl e4))
            exact hs_val ha rfl rfl (ix_44 rfl rfl hlt) rfl rfl
          | 6, _ =>
            intro val w1 a hb ha hd
            have e5 : val 5 = .pointer (some ⟨bR, oR + i * 9, none⟩) := hd 5 (memB_mem.1 rfl)
            have ha := ha.sub (Sub.ins (d := 48) (Sub.nil _) (dep_get rfl e5))
            exact hs_val ha rfl rfl (fa_50_2 rfl) rfl rfl
          | 7, _ =>
            intro val w1 a hb ha hd
            have e6 : val 6 = .pointer (some ⟨bR, oR + i * 9 + 2, none⟩) := hd 6 (memB_mem.1 rfl)
            have ha := ha.sub (Sub.ins (d := 49) (Sub.nil _) (dep_get rfl e6))
            exact hs_val ha rfl rfl (fa_23_1 rfl) rfl rfl
          | 8, _ =>
            intro val w1 a hb ha hd
            have e7 : val 7 = .pointer (some ⟨bR, oR + i * 9 + 2 + 1, none⟩) := hd 7 (memB_mem.1 rfl)
            have ha := ha.sub (Sub.ins (d := 50) (Sub.nil _) (dep_get rfl e7))
            exact hs_val ha rfl rfl (ld_3 rfl (below_load (Below.on hbw hb hbw.size) hoc.c3)) rfl rfl
          | 9, _ =>
            intro val w1 a hb ha hd
            have ha := ha.sub (Sub.ins (d := 2) (Sub.nil _) rfl)
            exact hs_val ha rfl rfl (fa_54_0 rfl) rfl rfl
          | 10, _ =>
            intro val w1 a hb ha hd
            have e9 : val 9 = .pointer (some ⟨g1, 0, none⟩) := hd 9 (memB_mem.1 rfl)
            have ha := ha.sub (Sub.ins (d := 52) (Sub.nil _) (dep_get rfl e9))
            exact hs_val ha rfl rfl (fa_47_0 rfl) rfl rfl
          | 11, _ =>
            intro val w1 a hb ha hd
            have e10 : val 10 = .pointer (some ⟨g1, 0, none⟩) := hd 10 (memB_mem.1 rfl)
            have ha := ha.sub (Sub.ins (d := 53) (Sub.nil _) (dep_get rfl e10))
            exact hs_val ha rfl rfl (ld_44 rfl ((q1.below hb q1.lt).at (j := 0) rfl)) rfl rfl
          | 12, _ =>
            intro val w1 a hb ha hd
            have ha := ha.sub (Sub.ins (d := 6) (Sub.nil _) rfl)
            exact hs_val ha rfl rfl (x_move rfl) rfl rfl
          | 13, _ =>
            intro val w1 a hb ha hd
            have e11 : val 11 = .slice (some ⟨bR, oR, none⟩) rv.reaches.length c := hd 11 (memB_mem.1 rfl)
            have e12 : val 12 = .int .i64 (i : Nat) := hd 12 (memB_mem.1 rfl)
            have ha := ha.sub (Sub.ins (d := 55) (Sub.ins (d := 54) (Sub.nil _) (dep_get rfl e11)) (dep_get rfl e12))
            exact hs_val ha rfl rfl (ix_44 rfl rfl hlt) rfl rfl
          | 14, _ =>
            intro val w1 a hb ha hd
            have e13 : val 13 = .pointer (some ⟨bR, oR + i * 9, none⟩) := hd 13 (memB_mem.1 rfl)
            have ha := ha.sub (Sub.ins (d := 56) (Sub.nil _) (dep_get rfl e13))
            exact hs_val ha rfl rfl (fa_50_2 rfl) rfl rfl
          | 15, _ =>
            intro val w1 a hb ha hd
            have e14 : val 14 = .pointer (some ⟨bR, oR + i * 9 + 2, none⟩) := hd 14 (memB_mem.1 rfl)
            have ha := ha.sub (Sub.ins (d := 57) (Sub.nil _) (dep_get rfl e14))
            exact hs_val ha rfl rfl (fa_23_1 rfl) rfl rfl
          | 16, _ =>
            intro val w1 a hb ha hd
            have e15 : val 15 = .pointer (some ⟨bR, oR + i * 9 + 2 + 1, none⟩) := hd 15 (memB_mem.1 rfl)
            have ha := ha.sub (Sub.ins (d := 58) (Sub.nil _) (dep_get rfl e15))
            exact hs_val ha rfl rfl (ld_3 rfl (below_load (Below.on hbw hb hbw.size) hoc.c3)) rfl rfl
          | 17, _ =>
            intro val w1 a hb ha hd
            have e8 : val 8 = .int .i64 y.base.hi := hd 8 (memB_mem.1 rfl)
            have e16 : val 16 = .int .i64 y.base.hi := hd 16 (memB_mem.1 rfl)
            have ha := ha.sub (Sub.ins (d := 59) (Sub.ins (d := 51) (Sub.nil _) (dep_get rfl e8)) (dep_get rfl e16))
            exact hs_val ha rfl rfl (bd_23_0_1 rfl rfl) rfl rfl
          | k + 18, h => exact absurd h (by omega)
        · intro val wR8 hb halc hd
          have e0 : val 0 = .pointer (some ⟨gA, 0 + i * 9 + 2, none⟩) := hd 0 (by omega)
          have e1 : val 1 = .pointer (some ⟨g1, 0, none⟩) := hd 1 (by omega)
          have e2 : val 2 = .pointer (some ⟨g1, 0, none⟩) := hd 2 (by omega)
          have e3 : val 3 = .slice (some ⟨bR, oR, none⟩) rv.reaches.length c := hd 3 (by omega)
          have e4 : val 4 = .int .i64 (i : Nat) := hd 4 (by omega)
          have e5 : val 5 = .pointer (some ⟨bR, oR + i * 9, none⟩) := hd 5 (by omega)
          have e6 : val 6 = .pointer (some ⟨bR, oR + i * 9 + 2, none⟩) := hd 6 (by omega)
          have e7 : val 7 = .pointer (some ⟨bR, oR + i * 9 + 2 + 1, none⟩) := hd 7 (by omega)
          have e8 : val 8 = .int .i64 y.base.hi := hd 8 (by omega)
          have e9 : val 9 = .pointer (some ⟨g1, 0, none⟩) := hd 9 (by omega)
          have e10 : val 10 = .pointer (some ⟨g1, 0, none⟩) := hd 10 (by omega)
          have e11 : val 11 = .slice (some ⟨bR, oR, none⟩) rv.reaches.length c := hd 11 (by omega)
          have e12 : val 12 = .int .i64 (i : Nat) := hd 12 (by omega)
          have e13 : val 13 = .pointer (some ⟨bR, oR + i * 9, none⟩) := hd 13 (by omega)
          have e14 : val 14 = .pointer (some ⟨bR, oR + i * 9 + 2, none⟩) := hd 14 (by omega)
          have e15 : val 15 = .pointer (some ⟨bR, oR + i * 9 + 2 + 1, none⟩) := hd 15 (by omega)
          have e16 : val 16 = .int .i64 y.base.hi := hd 16 (by omega)
          have e17 : val 17 = .agg #[.int .i64 y.base.hi, .int .i64 y.base.hi] := hd 17 (by omega)
          refine EL.ends (cs := [.pointer (some ⟨gA, 0 + i * 9 + 2, none⟩), .pointer (some ⟨g1, 0, none⟩), .pointer (some ⟨g1, 0, none⟩), .slice (some ⟨bR, oR, none⟩) rv.reaches.length c, .int .i64 (i : Nat), .pointer (some ⟨bR, oR + i * 9, none⟩), .pointer (some ⟨bR, oR + i * 9 + 2, none⟩), .pointer (some ⟨bR, oR + i * 9 + 2 + 1, none⟩), .int .i64 y.base.hi, .pointer (some ⟨g1, 0, none⟩), .pointer (some ⟨g1, 0, none⟩), .slice (some ⟨bR, oR, none⟩) rv.reaches.length c, .int .i64 (i : Nat), .pointer (some ⟨bR, oR + i * 9, none⟩), .pointer (some ⟨bR, oR + i * 9 + 2, none⟩), .pointer (some ⟨bR, oR + i * 9 + 2 + 1, none⟩), .int .i64 y.base.hi, .agg #[.int .i64 y.base.hi, .int .i64 y.base.hi]]) ⟨e0, e1, e2, e3, e4, e5, e6, e7, e8, e9, e10, e11, e12, e13, e14, e15, e16, e17, trivial⟩ rfl ?_
          replace q1 := q1.below hb q1.lt
          replace q2 := q2.below hb q2.lt
          replace qa7_1 := qa7_1.below hb qa7_1.lt
          replace q2_ := q2_.below hb
          replace q5_ := OwnSides.below q5_ hb
          replace hbw := Below.on hbw hb hbw.size
          clear hb
          refine EL.val (x_nilCheck rfl) rfl ?_
          obtain ⟨ml2, eml2⟩ : ∃ z, z = ml.set i { y with base := ⟨y.base.lo, y.base.lo⟩ } := ⟨_, rfl⟩
          rw [← eml2] at q2_
          have hml2 : ml2.length = rv.reaches.length := by rw [eml2, List.length_set]; exact hml
          have hat2 : ml2.getD i reach0 = { y with base := ⟨y.base.lo, y.base.lo⟩ } := by rw [eml2, getD_setR (by omega), if_pos rfl]
          have ne6_1 := row_ne2 (e := 50) q2_.rows.own q1 rfl
          have ne6_2 := row_ne2 (e := 50) q2_.rows.own q2 rfl
          have ne6_3 := row_ne2 (e := 50) q2_.rows.own qa7_1 rfl
          obtain ⟨cur_, hcur_⟩ := own_blk q2_.rows.own
          have hw_ := q2_.rows.own
          have hm_ : (⟨ml2, rv.shoals⟩ : River).reaches.length = rv.reaches.length := hml2
          rw [hm_] at hw_
          refine EL.storeRow (l' := [.int .i64 y.base.hi, .int .i64 y.base.hi]) rfl rfl hw_ sz_23 rfl rfl (by rw [flat_len reachC_len, List.length_zip, q2_.rows.len, rowsR_len]; simp only; omega) rfl ?_
          intro w6 ho2 hg6
          have hbm := (q2_.rows.own.lt gA rfl).1
          have hvl := q2_.rows.len
          rw [rowsR_len] at hvl
          replace q1 := q1.grown hg6 (fun h => ne6_1 (Option.some.inj h))
          replace q2 := q2.grown hg6 (fun h => ne6_2 (Option.some.inj h))
          replace qa7_1 := qa7_1.grown hg6 (fun h => ne6_3 (Option.some.inj h))
          replace hbw := below_store hbw hg6 (Nat.le_trans hwb hbm)
          rw [Nat.zero_add, reach_set _ _ (by simp only; omega) hvl] at ho2
          replace q5_ := OwnSides.type q5_ hcur_ rfl rfl hg6
          simp only [hat2] at ho2
          replace q2_ := q2_.set (i := i) (x' := { y with base := ⟨y.base.hi, y.base.hi⟩ }) (by simp only; omega) (by simp only [hat2]) ho2 (by simp only; omega) hg6
          simp only at q2_
          clear ho2 hcur_ hw_ hm_
          refine EL.nil ?_
          refine EX.seq ?_
          refine EC.seq ?_
          refine EC.region ?_
          refine EL.val (x_assign rfl) rfl ?_
          refine EL.nil ?_
          refine EX.seq ?_
          refine EC.block ?_
          rw [eml2, List.set_set] at q2_
          have hrf : ml.set i { y with base := ⟨y.base.hi, y.base.hi⟩ } = mkR true rv.reaches (i + 1) := by rw [mkR, ← eml, ← ey]; rfl
          rw [hrf] at q2_
          obtain ⟨row, erow⟩ : ∃ z, z = sides.getD i [] := ⟨_, rfl⟩
          have hrl : row.length = (sides.getD 0 []).length := by rw [erow]; exact hS.same i (by omega)
          obtain ⟨ms, ems⟩ : ∃ z, z = mkS true sides i := ⟨_, rfl⟩
          have hmsl := mkS_len (hi := true) sides i
          rw [← ems] at hmk hmsl
          rw [← erow] at hmk
          have q50 := q5_
          rw [← ems] at q50
          clear q5_
          have q5_ : OwnSides w6 w2.heap.size (.slice (some ⟨gO, 0, none⟩) sides.length c5_) (ms.set i (mkB true row 0)) ss5_ := by
            have e : ms.set i (mkB true row 0) = ms := by
              apply List.ext_getElem?
              intro j
              rw [List.getElem?_set]
              by_cases e : i = j
              · subst e; rw [if_pos rfl]; have h2 : i < ms.length := by omega
                simp only [mkB, h2, if_true]
                rw [← hmk]; simp [h2]
              · rw [if_neg e]
            rw [e]; exact q50
          clear q50
          have hsl5 : ss5_.length = sides.length := by have := q5_.rd.len; rw [this, List.length_set, hmsl]
          refine EC.loopD [8, 9, 62, 63, 64, 65, 66, 67, 68, 69, 70, 71, 72, 73, 74, 75, 76, 77, 78, 79, 80, 81, 82, 83, 84, 85, 86, 87, 88, 89, 90, 91, 92, 93, 94, 95, 96, 97, 98, 99, 100] (fun x : Nat => [(8, .int .i64 (x : Nat))]) (fun x W => x ≤ row.length ∧ (OwnRiver W w2.heap.size (.slice (some ⟨gA, 0, none⟩) rv.reaches.length c2_) (.slice B2_ rv.shoals.length d2_) ⟨mkR true rv.reaches (i + 1), rv.shoals⟩ vs2_ ∧ OwnSides W w2.heap.size (.slice (some ⟨gO, 0, none⟩) sides.length c5_) (ms.set i (mkB true row x)) ss5_) ∧ Blk W g1 54 #[.slice (some ⟨bR, oR, none⟩) rv.reaches.length c, .slice A' rv.shoals.length c', .slice (some ⟨bS, oS, none⟩) sides.length d] ∧ Blk W g2 54 #[.slice none 0 0, .slice none 0 0, .slice none 0 0] ∧ Blk W ga7_1 54 #[.slice (some ⟨gA, 0, none⟩) rv.reaches.length c2_, .slice B2_ rv.shoals.length d2_, .slice (some ⟨gO, 0, none⟩) sides.length c5_] ∧ Below w.heap.size w W) (fun x => row.length - x) 0 ⟨Nat.zero_le _, ⟨q2_, q5_⟩, q1, q2, qa7_1, hbw⟩ ⟨rfl, trivial⟩ ?_
          clear q2_ q5_ q1 q2 qa7_1 hbw
          rintro k wk ⟨hk, ⟨q2_, q5_⟩, q1, q2, qa7_1, hbw⟩
          have hbl := mkB_len (hi := true) row k
          have hsr := Rows.each q5_ i (by rw [rowsB_len, List.length_set]; omega)
          have e8 : (rowsB (ms.set i (mkB true row k))).getD i (0, []) = (row.length, bdsC (mkB true row k)) := by
            have h2 : i < ms.length := by omega
            simp [rowsB, h2, hbl]
          rw [e8] at hsr
          simp only at hsr
          obtain ⟨Ar, cr, er, _⟩ := (Rd.of_own hsr).shape
          rw [er] at hsr
          obtain ⟨gR, rfl⟩ := own_slice hsr (by omega)
          obtain ⟨b1, o1, e1_, _, hsc1⟩ := sides_cell q5_.rd i (by rw [List.length_set]; omega)
          injection e1_ with e1_
          injection e1_ with e1_ e2_
          subst e1_
          subst e2_
          rw [er] at hsc1
          by_cases hkl : k < row.length
          ·
            have hos := hsa i (by omega)
            have hor := hs.side i (by omega)
            rw [← erow] at hor
            obtain ⟨Ao, co, eo, _⟩ := hor.shape
            rw [eo] at hos hor
            obtain ⟨bo2, oo2, rfl, _, z0, z1⟩ := bds_cells _ k hkl _ _ _ _ _ hor
            obtain ⟨yb, eyb⟩ : ∃ z, z = row.getD k bd0 := ⟨_, rfl⟩
            rw [← eyb] at z0 z1
            refine EC.seq ?_
            refine EC.seq ?_
            refine EC.region ?_
            refine EL.val (x_move rfl) rfl ?_
            refine EL.val (fa_54_1 rfl) rfl ?_
            refine EL.val (ld_52 rfl (qa7_1.at (j := 2) rfl)) rfl ?_
            refine EL.val (x_move rfl) rfl ?_
            refine EL.val (ix_52 rfl rfl (by omega)) rfl ?_
            refine EL.val (ld_28 rfl hsc1) rfl ?_
            refine EL.val (ln_28 rfl) rfl ?_
            refine EL.val (x_lss rfl rfl (by first | assumption | exact decide_eq_true (by omega))) rfl ?_
            refine EL.nil ?_
            refine EX.seq ?_
            refine EC.yes rfl ?_
            refine EC.skip ?_
            refine EX.seq ?_
            refine EC.seq ?_
            refine EC.block ?_
            refine EC.seq ?_
            refine EC.region ?_
            refine EL.val (fa_54_1 rfl) rfl ?_
            refine EL.val (ld_52 rfl (q1.at (j := 2) rfl)) rfl ?_
            refine EL.val (x_move rfl) rfl ?_
            refine EL.val (ix_52 rfl rfl (by omega)) rfl ?_
            refine EL.val (ld_28 rfl (below_load hbw hos)) rfl ?_
            refine EL.val (x_move rfl) rfl ?_
            refine EL.val (ix_28 rfl rfl hkl) rfl ?_
            refine EL.val (fa_23_0 rfl) rfl ?_
            refine EL.val (ld_3 rfl (below_load hbw z0)) rfl ?_
            refine EL.val (x_assign rfl) rfl ?_
            refine EL.nil ?_
            refine EX.seq ?_
            refine EC.seq ?_
            refine EC.seq ?_
            refine EC.region ?_
            refine EL.val (x_move rfl) rfl ?_
            refine EL.nil ?_
            refine EX.seq ?_
            refine EC.yes rfl ?_
            refine EC.region ?_
            refine EL.val (fa_54_1 rfl) rfl ?_
            refine EL.val (ld_52 rfl (q1.at (j := 2) rfl)) rfl ?_
            refine EL.val (x_move rfl) rfl ?_
            refine EL.val (ix_52 rfl rfl (by omega)) rfl ?_
            refine EL.val (ld_28 rfl (below_load hbw hos)) rfl ?_
            refine EL.val (x_move rfl) rfl ?_
            refine EL.val (ix_28 rfl rfl hkl) rfl ?_
            refine EL.val (fa_23_1 rfl) rfl ?_
            refine EL.val (ld_3 rfl (below_load hbw z1)) rfl ?_
            refine EL.val (x_assign rfl) rfl ?_
            refine EL.nil ?_
            refine EX.seq ?_
            refine EC.region ?_
            refine EL.val (fa_54_1 rfl) rfl ?_
            refine EL.val (ld_52 rfl (qa7_1.at (j := 2) rfl)) rfl ?_
            refine EL.val (x_move rfl) rfl ?_
            refine EL.val (ix_52 rfl rfl (by omega)) rfl ?_
            refine EL.val (ld_28 rfl hsc1) rfl ?_
            refine EL.val (x_move rfl) rfl ?_
            refine EL.val (x_move rfl) rfl ?_
            refine EL.val (x_move rfl) rfl ?_
            refine EL.val (bd_23_0_1 rfl rfl) rfl ?_
            refine EL.val (ix_28 rfl rfl hkl) rfl ?_
            have ne7_1 := row_ne2 (e := 23) hsr q1 rfl
            have ne7_2 := row_ne2 (e := 23) hsr q2 rfl
            have ne7_3 := row_ne2 (e := 23) hsr qa7_1 rfl
            obtain ⟨cur_, hcur_⟩ := own_blk hsr
            refine EL.storeRow (l' := [.int .i64 yb.hi, .int .i64 yb.hi]) rfl rfl hsr sz_23 rfl rfl (by rw [bdsC_len, hbl]; omega) rfl ?_
            intro w7 ho2 hg7
            have hbm := (hsr.lt gR rfl).1
            replace q1 := q1.grown hg7 (fun h => ne7_1 (Option.some.inj h))
            replace q2 := q2.grown hg7 (fun h => ne7_2 (Option.some.inj h))
            replace qa7_1 := qa7_1.grown hg7 (fun h => ne7_3 (Option.some.inj h))
            replace hbw := below_store hbw hg7 (Nat.le_trans hwb hbm)
            rw [Nat.zero_add, bd_set _ _ (by omega)] at ho2
            have hbf : (mkB true row k).set k ⟨yb.hi, yb.hi⟩ = mkB true row (k + 1) := by rw [mkB, ← eyb]; rfl
            rw [hbf] at ho2
            replace q2_ := q2_.type hcur_ rfl rfl rfl hg7
            have hbl2 := mkB_len (hi := true) row (k + 1)
            replace q5_ := OwnSides.set (i := i) (row := mkB true row (k + 1)) q5_ p5_ (by rw [List.length_set]; omega) (by rw [hbl2]; exact er) (by rw [hbl2, getD_setR (by omega), if_pos rfl, hbl]) (by rw [hbl2]; exact ho2) hg7
            rw [List.set_set] at q5_
            clear ho2 hcur_
            refine EL.nil ?_
            refine EX.blk ?_
            refine EX.seq ?_
            refine EC.region ?_
            refine EL.val (x_move rfl) rfl ?_
            refine EL.val (x_add rfl rfl (by first | assumption | exact IntWalk.i64_in _ ⟨by omega, by omega⟩)) rfl ?_
            refine EL.val (x_assign rfl) rfl ?_
            refine EL.nil ?_
            refine EX.roundD (k + 1) ⟨rfl, trivial⟩ (by repeat first | exact Sub.refl _ | refine sub_past rfl ?_ | refine sub_del rfl ?_ | refine sub_insL_nil ?_) ⟨hkl, ⟨q2_, q5_⟩, q1, q2, qa7_1, hbw⟩ (by omega)
          ·
            obtain rfl : k = row.length := by omega
            have hsf : ms.set i (mkB true row row.length) = mkS true sides (i + 1) := by rw [mkS, ← ems, ← erow]
            rw [hsf] at q5_
            refine EC.seq ?_
            refine EC.seq ?_
            refine EC.region ?_
            refine EL.val (x_move rfl) rfl ?_
            refine EL.val (fa_54_1 rfl) rfl ?_
            refine EL.val (ld_52 rfl (qa7_1.at (j := 2) rfl)) rfl ?_
            refine EL.val (x_move rfl) rfl ?_
            refine EL.val (ix_52 rfl rfl (by omega)) rfl ?_
            refine EL.val (ld_28 rfl hsc1) rfl ?_
            refine EL.val (ln_28 rfl) rfl ?_
            refine EL.val (x_lss rfl rfl (by first | assumption | exact decide_eq_false (by omega))) rfl ?_
            refine EL.nil ?_
            refine EX.seq ?_
            refine EC.no rfl ?_
            refine EC.exit ?_
            refine EX.seq_exit ?_
            refine EX.seq_exit ?_
            refine EX.blk_here ?_
            refine EX.blk ?_
            refine EX.seq ?_
            refine EC.region ?_
            refine EL.val (x_move rfl) rfl ?_
            refine EL.val (x_add rfl rfl (by first | assumption | exact IntWalk.i64_in _ ⟨by omega, by omega⟩)) rfl ?_
            refine EL.val (x_assign rfl) rfl ?_
            refine EL.nil ?_
            refine EX.roundD (i + 1) ⟨rfl, trivial⟩ (by repeat first | exact Sub.refl _ | refine sub_past rfl ?_ | refine sub_del rfl ?_ | refine sub_insL_nil ?_) ⟨hlt, ⟨q2_, q5_⟩, q1, q2, qa7_1, hbw⟩ (by omega)
    ·
      obtain rfl : i = rv.reaches.length := by omega
      refine EC.seq ?_
      refine EC.seq ?_
      refine EC.region ?_
      refine EL.val (x_move rfl) rfl ?_
      refine EL.val (fa_54_0 rfl) rfl ?_
      refine EL.val (fa_47_0 rfl) rfl ?_
      refine EL.val (ld_44 rfl (qa7_1.at (j := 0) rfl)) rfl ?_
      refine EL.val (ln_44 rfl) rfl ?_
      refine EL.val (x_lss rfl rfl (by first | assumption | exact decide_eq_false (by omega))) rfl ?_
      refine EL.nil ?_
      refine EX.seq ?_
      refine EC.no rfl ?_
      refine EC.exit ?_
      refine EX.seq_exit ?_
      refine EX.seq_exit ?_
      refine EX.blk_here ?_
      refine EX.seq ?_
      refine EC.seq ?_
      refine EC.region ?_
      refine EL.val (ld_54 rfl (qa7_1.at (j := 0) rfl) (qa7_1.at (j := 1) rfl) (qa7_1.at (j := 2) rfl)) rfl ?_
      refine EL.store rfl rfl q2 sz_54 rfl rfl rfl rfl ?_
      intro w8 hq8 hg8
      replace q1 := q1.grown hg8 (fun h => n1_2 (Option.some.inj h))
      replace qa7_1 := qa7_1.grown hg8 (fun h => n2_3.symm (Option.some.inj h))
      replace q2_ := q2_.type q2 rfl rfl rfl hg8
      replace q5_ := OwnSides.type q5_ q2 rfl rfl hg8
      replace hbw := below_store hbw hg8 bhbw_2
      replace q2 := hq8
      clear hg8 hq8
      refine EL.nil ?_
      refine EX.seq ?_
      refine EC.ret ?_
      exact EX.done (resc1 rfl rfl (lv_54 (q2.at rfl) (q2.at rfl) (q2.at rfl))) ⟨⟨_, _, _, _, _, rfl, q2_.rd, by rw [show mkS true sides sides.length = mkS true sides rv.reaches.length by rw [hmany]]; exact q5_.rd⟩, hbw⟩
end Go.Proofs.Ytncnlhkmdljgpaa
