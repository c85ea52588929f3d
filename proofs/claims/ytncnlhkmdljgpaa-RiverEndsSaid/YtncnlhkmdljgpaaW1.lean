/- River: how deep the water is at a place in an hour (printed by gen_w1.py). -/
import Derived.Test.YtncnlhkmdljgpaaExA
import Derived.Test.YtncnlhkmdljgpaaV15
import Derived.Test.YtncnlhkmdljgpaaV16
namespace Go.Proofs.Ytncnlhkmdljgpaa
open Go Go.RowKit

theorem topOf_bd {N : Int} {t : Int} : ∀ {l : List Shoal} {b : Bd}, (∀ j, j < l.length → shoalB N (l.getD j shoal0) = true) → -400 ≤ t → t ≤ 400 → (-20000 ≤ b.lo ∧ b.lo ≤ 30000) → (-20000 ≤ b.hi ∧ b.hi ≤ 30000) →
    (-20000 ≤ (topOf t b l).lo ∧ (topOf t b l).lo ≤ 30000) ∧ -20000 ≤ (topOf t b l).hi ∧ (topOf t b l).hi ≤ 30000
  | [], b, _, _, _, h1, h2 => ⟨h1, h2⟩
  | s :: l, b, hs, ht, ht', h1, h2 => by
    have h3 := bedOf_bd (hs 0 (by simp)) ht ht'
    rw [show (s :: l).getD 0 shoal0 = s from rfl] at h3
    exact topOf_bd (l := l) (b := b.top (bedOf s t)) (fun j hj => by have := hs (j + 1) (by simp; omega); simpa using this) ht ht' (by simp only [Bd.top]; omega) (by simp only [Bd.top]; omega)
theorem depth_any {w : World} {B g : Nat} {r : River} {sides : List (List Bd)} {v u vf : Value} {vs fs : List Value} (h : StreamOk w B g r sides v u vf vs fs) (hB : B ≤ w.heap.size) (i t : Nat) (hi : i < r.reaches.length) (ht : t < (sides.getD 0 []).length)
    (A1 : Option Addr) (n1 c1 : Nat) (A : Option Addr) (c : Nat) (l : List Shoal) (hl : Rd w B 6 (.slice A l.length c) l.length (shoalsC l)) (hs : ∀ j, j < l.length → shoalB (placesOf r.reaches) (l.getD j shoal0) = true) (hll : l.length ≤ 40) :
    Calls Try.prog 75 #[.pointer (some ⟨g, 0, none⟩), .agg (placeV (r.reaches.getD i reach0) (.slice A1 n1 c1) (i : Nat) (.slice A l.length c)), .int .i64 t] w fun e w' =>
      e = .returned (.agg #[.int .i64 (max 0 ((levelAt (r.reaches.getD i reach0) (flowIn r.reaches sides i t)).lo - (topOf t (r.reaches.getD i reach0).bottom l).hi)), .int .i64 (max 0 ((levelAt (r.reaches.getD i reach0) (flowIn r.reaches sides i t)).hi - (topOf t (r.reaches.getD i reach0).bottom l).lo))]) ∧ Below w.heap.size w w' := by
  have hreach := h.ok.river.reach i hi
  have hh := h.ok.hours
  have hlb := levelAt_bd hreach (flowIn r.reaches sides i t)
  have htb := topOf_bd (t := (t : Int)) (l := l) (N := placesOf r.reaches) (b := (r.reaches.getD i reach0).bottom) hs (by omega) (by omega) (by have := hreach.bottom; omega) (by have := hreach.bottom; omega)
  have hlev := fun W (hb : Below w.heap.size w W) => slevel_any (h.below (hb.mono hB)) (Nat.le_trans hB hb.size) i t hi (by omega)
  have hbed := fun W (hb : Below w.heap.size w W) => bed_any (r.reaches.getD i reach0) (.slice A1 n1 c1) (i : Nat) A c B l (t : Int) (placesOf r.reaches) W (hl.below (hb.mono hB)) (Nat.le_trans hB hb.size) ⟨_, _, _, rfl⟩ hs (by omega) (by omega) (by have := hreach.bottom; omega)
  obtain ⟨x, ex⟩ : ∃ x, x = r.reaches.getD i reach0 := ⟨_, rfl⟩
  rw [← ex] at hbed htb hlev hlb ⊢
  obtain ⟨⟨ll, lh⟩, e1⟩ : ∃ y, y = levelAt x (flowIn r.reaches sides i t) := ⟨_, rfl⟩
  rw [← e1] at hlev hlb ⊢
  obtain ⟨⟨bl, bh⟩, e2⟩ : ∃ y, y = topOf t x.bottom l := ⟨_, rfl⟩
  rw [← e2] at hbed htb ⊢
  simp only at hlb htb ⊢
  have hw1 : IntKind.i64.wrap (ll - bh) = ll - bh := IntWalk.i64_in _ ⟨by omega, by omega⟩
  have hw2 : IntKind.i64.wrap (lh - bl) = lh - bl := IntWalk.i64_in _ ⟨by omega, by omega⟩
  have hbw := Below.refl w.heap.size w
  refine EC.enter 30 Try.func75 rfl rfl rfl ?_
  -- body
  refine EC.seq ?_
  refine EC.region ?_
  refine EL.newP (bx_129 rfl) rfl ?_
  intro g1 w1 q1 hb1 hg1 hl1
  have bhbw_1 := Nat.le_trans hbw.size hg1
  replace hbw := Below.on hbw hb1 hbw.size
  clear hb1 hg1 hl1
  refine EL.newP al_23 rfl ?_
  intro g2 w2 q2 hb2 hg2 hl2
  have n1_2 : g1 ≠ g2 := Nat.ne_of_lt (Nat.lt_of_lt_of_le q1.lt hg2)
  have bhbw_2 := Nat.le_trans hbw.size hg2
  replace q1 := q1.below hb2 q1.lt
  replace hbw := Below.on hbw hb2 hbw.size
  clear hb2 hg2 hl2
  refine EL.nil ?_
  refine EX.seq ?_
  refine EC.seq ?_
  have lt_1 := q1.lt
  have lt_2 := q2.lt
  refine EC.regionP [[], [], [1], [], [0, 1, 2, 3], [], [], [0, 1, 2, 3, 4, 5, 6], [], [], [0, 1, 2, 3, 4, 5, 6, 7, 8, 9], [0, 1, 2, 3, 4, 5, 6, 7, 8, 9, 10]] 10 [8, 9] (phi (fun i_ r => match i_ with | 0 => r 0 = .pointer (some ⟨g, 0, none⟩) | 1 => r 1 = .pointer (some ⟨g1, 9, none⟩) | 2 => r 2 = .int .i64 (i : Nat) | 3 => r 3 = .int .i64 (t : Nat) | 4 => r 4 = .agg #[.int .i64 ll, .int .i64 lh] | 5 => r 5 = .agg (placeV x (.slice A1 n1 c1) (i : Nat) (.slice A l.length c)) | 6 => r 6 = .int .i64 (t : Nat) | 7 => r 7 = .agg #[.int .i64 bl, .int .i64 bh] | _ => True) [(8, fun r w_ => ∃ g_, r 8 = .pointer (some ⟨g_, 0, none⟩) ∧ Blk w_ g_ 23 #[.int .i64 0, .int .i64 0]), (9, fun r w_ => ∃ g_, r 9 = .pointer (some ⟨g_, 0, none⟩) ∧ Blk w_ g_ 23 #[.int .i64 0, .int .i64 0])]) (by kernel_rfl) rfl rfl (phi_cons mono_alloc (phi_cons mono_alloc (phi_nil))) (fun i_ hi_ => ?_) ?_
  · match i_, hi_ with
    | 0, _ =>
      intro val w1 a hb ha hd
      have ha := ha.sub (Sub.ins (d := 0) (Sub.nil _) rfl)
      exact hs_val ha rfl rfl (x_move rfl) rfl rfl
    | 1, _ =>
      intro val w1 a hb ha hd
      have ha := ha.sub (Sub.ins (d := 4) (Sub.nil _) rfl)
      exact hs_val ha rfl rfl (fa_129_1 rfl) rfl rfl
    | 2, _ =>
      intro val w1 a hb ha hd
      have e1 : val 1 = .pointer (some ⟨g1, 9, none⟩) := hd 1 (memB_mem.1 rfl)
      have ha := ha.sub (Sub.ins (d := 10) (Sub.nil _) (dep_get rfl e1))
      exact hs_val ha rfl rfl (ld_3 rfl ((q1.below hb q1.lt).at (j := 9) rfl)) rfl rfl
    | 3, _ =>
      intro val w1 a hb ha hd
      have ha := ha.sub (Sub.ins (d := 2) (Sub.nil _) rfl)
      exact hs_val ha rfl rfl (x_move rfl) rfl rfl
    | 4, _ =>
      intro val w1 a hb ha hd
      have e0 : val 0 = .pointer (some ⟨g, 0, none⟩) := hd 0 (memB_mem.1 rfl)
      have e2 : val 2 = .int .i64 (i : Nat) := hd 2 (memB_mem.1 rfl)
      have e3 : val 3 = .int .i64 (t : Nat) := hd 3 (memB_mem.1 rfl)
      have ha := ha.sub (Sub.ins (d := 12) (Sub.ins (d := 11) (Sub.ins (d := 9) (Sub.nil _) (dep_get rfl e0)) (dep_get rfl e2)) (dep_get rfl e3))
      refine hs_call ha rfl rfl (cl_78 rfl rfl rfl) (hlev _ (Below.on hbw hb hbw.size)) rfl ?_
      rintro e w' ⟨rfl, hb'⟩
      exact ⟨_, rfl, hb', rfl⟩
    | 5, _ =>
      intro val w1 a hb ha hd
      have ha := ha.sub (Sub.ins (d := 4) (Sub.nil _) rfl)
      exact hs_val ha rfl rfl (ld_129 rfl ((q1.below hb q1.lt).at (j := 0) rfl) ((q1.below hb q1.lt).at (j := 1) rfl) ((q1.below hb q1.lt).at (j := 2) rfl) ((q1.below hb q1.lt).at (j := 3) rfl) ((q1.below hb q1.lt).at (j := 4) rfl) ((q1.below hb q1.lt).at (j := 5) rfl) ((q1.below hb q1.lt).at (j := 6) rfl) ((q1.below hb q1.lt).at (j := 7) rfl) ((q1.below hb q1.lt).at (j := 8) rfl) ((q1.below hb q1.lt).at (j := 9) rfl) ((q1.below hb q1.lt).at (j := 10) rfl)) rfl rfl
    | 6, _ =>
      intro val w1 a hb ha hd
      have ha := ha.sub (Sub.ins (d := 2) (Sub.nil _) rfl)
      exact hs_val ha rfl rfl (x_move rfl) rfl rfl
    | 7, _ =>
      intro val w1 a hb ha hd
      have e5 : val 5 = .agg (placeV x (.slice A1 n1 c1) (i : Nat) (.slice A l.length c)) := hd 5 (memB_mem.1 rfl)
      have e6 : val 6 = .int .i64 (t : Nat) := hd 6 (memB_mem.1 rfl)
      have ha := ha.sub (Sub.ins (d := 15) (Sub.ins (d := 14) (Sub.nil _) (dep_get rfl e5)) (dep_get rfl e6))
      refine hs_call ha rfl rfl (cl_72 rfl rfl) (hbed _ (Below.on hbw hb hbw.size)) rfl ?_
      rintro e w' ⟨rfl, hb'⟩
      exact ⟨_, rfl, hb', rfl⟩
    | 8, _ =>
      intro val w1 a hb ha hd
      have ha := ha.sub (Sub.nil _)
      exact hs_newP ha rfl rfl al_23 (fun g w' hq _ _ => ⟨g, rfl, hq⟩)
    | 9, _ =>
      intro val w1 a hb ha hd
      have ha := ha.sub (Sub.nil _)
      exact hs_newP ha rfl rfl al_23 (fun g w' hq _ _ => ⟨g, rfl, hq⟩)
    | k + 10, h => exact absurd h (by omega)
  · intro val w' hb halc hd
    have e0 : val 0 = .pointer (some ⟨g, 0, none⟩) := hd 0 (by omega)
    have e1 : val 1 = .pointer (some ⟨g1, 9, none⟩) := hd 1 (by omega)
    have e2 : val 2 = .int .i64 (i : Nat) := hd 2 (by omega)
    have e3 : val 3 = .int .i64 (t : Nat) := hd 3 (by omega)
    have e4 : val 4 = .agg #[.int .i64 ll, .int .i64 lh] := hd 4 (by omega)
    have e5 : val 5 = .agg (placeV x (.slice A1 n1 c1) (i : Nat) (.slice A l.length c)) := hd 5 (by omega)
    have e6 : val 6 = .int .i64 (t : Nat) := hd 6 (by omega)
    have e7 : val 7 = .agg #[.int .i64 bl, .int .i64 bh] := hd 7 (by omega)
    obtain ⟨ga8, e8, qa8⟩ := hd 8 (by omega)
    obtain ⟨ga9, e9, qa9⟩ := hd 9 (by omega)
    refine EL.ends (cs := [.pointer (some ⟨g, 0, none⟩), .pointer (some ⟨g1, 9, none⟩), .int .i64 (i : Nat), .int .i64 (t : Nat), .agg #[.int .i64 ll, .int .i64 lh], .agg (placeV x (.slice A1 n1 c1) (i : Nat) (.slice A l.length c)), .int .i64 (t : Nat), .agg #[.int .i64 bl, .int .i64 bh], .pointer (some ⟨ga8, 0, none⟩), .pointer (some ⟨ga9, 0, none⟩)]) ⟨e0, e1, e2, e3, e4, e5, e6, e7, e8, e9, trivial⟩ rfl ?_
    replace q1 := q1.below hb q1.lt
    replace q2 := q2.below hb q2.lt
    have bge3 := alc_ge halc (i := 8) rfl rfl e8
    have n1_3 : g1 ≠ ga8 := Nat.ne_of_lt (Nat.lt_of_lt_of_le lt_1 bge3)
    have n2_3 : g2 ≠ ga8 := Nat.ne_of_lt (Nat.lt_of_lt_of_le lt_2 bge3)
    have bhbw_3 := Nat.le_trans hbw.size bge3
    have bge4 := alc_ge halc (i := 9) rfl rfl e9
    have n1_4 : g1 ≠ ga9 := Nat.ne_of_lt (Nat.lt_of_lt_of_le lt_1 bge4)
    have n2_4 : g2 ≠ ga9 := Nat.ne_of_lt (Nat.lt_of_lt_of_le lt_2 bge4)
    have n3_4 : ga8 ≠ ga9 := alc_ne halc (i := 8) (j := 9) rfl rfl rfl rfl rfl e8 e9
    have bhbw_4 := Nat.le_trans hbw.size bge4
    replace hbw := Below.on hbw hb hbw.size
    clear hb
    refine EL.store rfl rfl qa8 sz_23 rfl rfl rfl rfl ?_
    intro w5 hq5 hg5
    replace q1 := q1.grown hg5 (fun h => n1_3 (Option.some.inj h))
    replace q2 := q2.grown hg5 (fun h => n2_3 (Option.some.inj h))
    replace qa9 := qa9.grown hg5 (fun h => n3_4.symm (Option.some.inj h))
    replace hbw := below_store hbw hg5 bhbw_3
    replace qa8 := hq5
    clear hg5 hq5
    refine EL.store rfl rfl qa9 sz_23 rfl rfl rfl rfl ?_
    intro w6 hq6 hg6
    replace q1 := q1.grown hg6 (fun h => n1_4 (Option.some.inj h))
    replace q2 := q2.grown hg6 (fun h => n2_4 (Option.some.inj h))
    replace qa8 := qa8.grown hg6 (fun h => n3_4 (Option.some.inj h))
    replace hbw := below_store hbw hg6 bhbw_4
    replace qa9 := hq6
    clear hg6 hq6
    refine EL.nil ?_
    refine EX.seq ?_
    refine EC.seq ?_
    refine EC.region ?_
    refine EL.val (fa_23_0 rfl) rfl ?_
    refine EL.val (ld_3 rfl (qa8.at (j := 0) rfl)) rfl ?_
    refine EL.val (fa_23_1 rfl) rfl ?_
    refine EL.val (ld_3 rfl (qa9.at (j := 1) rfl)) rfl ?_
    refine EL.val (x_sub rfl rfl hw1) rfl ?_
    refine EL.val (mm_max rfl rfl rfl) rfl ?_
    refine EL.val (fa_23_1 rfl) rfl ?_
    refine EL.val (ld_3 rfl (qa8.at (j := 1) rfl)) rfl ?_
    refine EL.val (fa_23_0 rfl) rfl ?_
    refine EL.val (ld_3 rfl (qa9.at (j := 0) rfl)) rfl ?_
    refine EL.val (x_sub rfl rfl hw2) rfl ?_
    refine EL.val (mm_max rfl rfl rfl) rfl ?_
    refine EL.val (bd_23_0_1 rfl rfl) rfl ?_
    refine EL.store rfl rfl q2 sz_23 rfl rfl rfl rfl ?_
    intro w7 hq7 hg7
    replace q1 := q1.grown hg7 (fun h => n1_2 (Option.some.inj h))
    replace qa8 := qa8.grown hg7 (fun h => n2_3.symm (Option.some.inj h))
    replace qa9 := qa9.grown hg7 (fun h => n2_4.symm (Option.some.inj h))
    replace hbw := below_store hbw hg7 bhbw_2
    replace q2 := hq7
    clear hg7 hq7
    refine EL.nil ?_
    refine EX.seq ?_
    refine EC.ret ?_
    exact EX.done (resc1 rfl rfl (lv_23 (q2.at rfl) (q2.at rfl))) ⟨rfl, hbw⟩
end Go.Proofs.Ytncnlhkmdljgpaa
