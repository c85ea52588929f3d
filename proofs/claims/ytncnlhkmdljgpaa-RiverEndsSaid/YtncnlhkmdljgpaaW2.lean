/- River: where a place is, its depth and its bed (printed by gen_w2.py). -/
import Derived.Test.YtncnlhkmdljgpaaW1
namespace Go.Proofs.Ytncnlhkmdljgpaa
open Go Go.RowKit

theorem river_lens {r : River} (hok : riverB r = true) : lensB r.reaches := by
  have hR := riverB_ok hok
  have hs := hR.some
  simp only [riverB, Bool.and_eq_true] at hok
  exact lens_ok (by omega) fun x hx => by have := (reachB_ok (List.all_eq_true.1 hok.2.2.1 x hx)).len; omega
theorem withinB1 (p lo hi : Int) (b : Bool) (w : World) {g T : Nat} (hq : Blk w g T #[.int .i64 p]) (h : inB lo hi p = b) :
    Calls Try.prog 57 #[.int .i64 lo, .int .i64 hi, .slice (some ⟨g, 0, none⟩) 1 1] w fun e w' => e = .returned (.bool b) ∧ Below w.heap.size w w' := by
  have := within_any [p] lo hi _ 1 w w.heap.size (rd_one (l := [.int .i64 p]) hq rfl) (Nat.le_refl _) (by omega)
  have e : [p].all (inB lo hi) = b := by simp [h]
  rw [e] at this
  exact this
theorem withinB2 (p q lo hi : Int) (b : Bool) (w : World) {g T : Nat} (hq : Blk w g T #[.int .i64 p, .int .i64 q]) (h : (inB lo hi p && inB lo hi q) = b) :
    Calls Try.prog 57 #[.int .i64 lo, .int .i64 hi, .slice (some ⟨g, 0, none⟩) 2 2] w fun e w' => e = .returned (.bool b) ∧ Below w.heap.size w w' := by
  have := within_any [p, q] lo hi (.slice (some ⟨g, 0, none⟩) 2 2) 2 w w.heap.size ⟨rfl, _, _, rfl, Nat.le_refl _, fun _ => ⟨g, 0, rfl, hq.lt, fun j u hu => by rw [Nat.zero_add, hq.cell]; simpa [ints] using hu⟩⟩ (Nat.le_refl _) (by omega)
  have e : [p, q].all (inB lo hi) = b := by simp [h]
  rw [e] at this
  exact this
theorem isv_one (b : Bd) (lo hi : Int) (x : Bool) (w : World) {g T : Nat} (hq : Blk w g T #[.int .i64 b.lo, .int .i64 b.hi]) (h : bdOk lo hi b = x) :
    Calls Try.prog 58 #[.int .i64 lo, .int .i64 hi, .slice (some ⟨g, 0, none⟩) 1 1] w fun e w' => e = .returned (.bool x) ∧ Below w.heap.size w w' := by
  have := isValid_any [b] lo hi _ w w.heap.size (rd_one (l := [.int .i64 b.lo, .int .i64 b.hi]) hq rfl) (Nat.le_refl _) (by simp)
  have e : [b].all (bdOk lo hi) = x := by simp [h]
  rw [e] at this
  exact this

theorem find_bad (r : River) (v u : Value) (vs : List Value) (p : Int) (w : World) (B : Nat) (hr : RdRiver w B v u r vs) (hB : B ≤ w.heap.size) (hok : riverB r = true) (hp : inB 0 (placesOf r.reaches - 1) p = false) :
    Calls Try.prog 71 #[.agg #[v, u], .int .i64 p] w fun e w' => e = .returned (.tuple #[.agg (placeV reach0 (.slice none 0 0) 0 (.slice none 0 0)), .bool false]) ∧ Below w.heap.size w w' := by
  have hR := riverB_ok hok
  have hpl := hR.places
  have hl : r.reaches.length ≤ 1048576 := by have := hR.some; omega
  have hlb : lensB r.reaches := river_lens hok
  have hsub : IntKind.i64.wrap (placesOf r.reaches - 1) = placesOf r.reaches - 1 := IntWalk.i64_in _ ⟨by omega, by omega⟩
  obtain ⟨A, c, rfl, _⟩ := hr.reaches.shape
  obtain ⟨A', c', rfl, _⟩ := hr.shoals.shape
  have hbw := Below.refl w.heap.size w
  refine EC.enter 60 Try.func71 rfl rfl rfl ?_
  refine EC.seq ?_
  refine EC.region ?_
  refine EL.newP (bx_47 rfl) rfl ?_
  intro g1 w1 q1 hb1 hg1 hl1
  have bhbw_1 := Nat.le_trans hbw.size hg1
  replace hbw := Below.on hbw hb1 hbw.size
  clear hb1 hg1 hl1
  refine EL.newP al_129 rfl ?_
  intro g2 w2 q2 hb2 hg2 hl2
  have n1_2 : g1 ≠ g2 := Nat.ne_of_lt (Nat.lt_of_lt_of_le q1.lt hg2)
  have bhbw_2 := Nat.le_trans hbw.size hg2
  replace q1 := q1.below hb2 q1.lt
  replace hbw := Below.on hbw hb2 hbw.size
  clear hb2 hg2 hl2
  refine EL.val (x_assign rfl) rfl ?_
  refine EL.nil ?_
  refine EX.seq ?_
  refine EC.seq ?_
  refine EC.seq ?_
  refine EC.region ?_
  refine EL.val (ld_47 rfl (q1.at (j := 0) rfl) (q1.at (j := 1) rfl)) rfl ?_
  refine EL.call (cl_68 rfl) rfl (length_any r _ _ vs _ B (hr.below (hbw.mono hB)) (Nat.le_trans hB hbw.size) hl hlb) ?_
  rintro e w3 ⟨rfl, hc3⟩
  refine ⟨_, rfl, ?_⟩
  replace q1 := q1.below hc3 q1.lt
  replace q2 := q2.below hc3 q2.lt
  replace hbw := Below.on hbw hc3 hbw.size
  clear hc3
  refine EL.val (x_sub rfl rfl hsub) rfl ?_
  refine EL.val (x_move rfl) rfl ?_
  refine EL.newS (bs_121_1 rfl) rfl ?_
  intro g4 w4 q4 hb4 hg4 hl4
  have n1_4 : g1 ≠ g4 := Nat.ne_of_lt (Nat.lt_of_lt_of_le q1.lt hg4)
  have n2_4 : g2 ≠ g4 := Nat.ne_of_lt (Nat.lt_of_lt_of_le q2.lt hg4)
  have bhbw_4 := Nat.le_trans hbw.size hg4
  replace q1 := q1.below hb4 q1.lt
  replace q2 := q2.below hb4 q2.lt
  replace hbw := Below.on hbw hb4 hbw.size
  clear hb4 hg4 hl4
  refine EL.call (cl_57 rfl rfl rfl) rfl (withinB1 _ _ _ false _ q4 hp) ?_
  rintro e w5 ⟨rfl, hc5⟩
  refine ⟨_, rfl, ?_⟩
  replace q1 := q1.below hc5 q1.lt
  replace q2 := q2.below hc5 q2.lt
  replace q4 := q4.below hc5 q4.lt
  replace hbw := Below.on hbw hc5 hbw.size
  clear hc5
  refine EL.val (x_not rfl) rfl ?_
  refine EL.nil ?_
  refine EX.seq ?_
  refine EC.yes rfl ?_
  refine EC.seq ?_
  refine EC.region ?_
  refine EL.val (ld_129 rfl (q2.at (j := 0) rfl) (q2.at (j := 1) rfl) (q2.at (j := 2) rfl) (q2.at (j := 3) rfl) (q2.at (j := 4) rfl) (q2.at (j := 5) rfl) (q2.at (j := 6) rfl) (q2.at (j := 7) rfl) (q2.at (j := 8) rfl) (q2.at (j := 9) rfl) (q2.at (j := 10) rfl)) rfl ?_
  refine EL.store rfl rfl q2 sz_129 rfl rfl rfl rfl ?_
  intro w6 hq6 hg6
  replace q1 := q1.grown hg6 (fun h => n1_2 (Option.some.inj h))
  replace hbw := below_store hbw hg6 bhbw_2
  replace q2 := hq6
  clear hg6 hq6
  refine EL.val (x_assign rfl) rfl ?_
  refine EL.nil ?_
  refine EX.seq ?_
  refine EC.ret ?_
  refine EX.seq_ret ?_
  exact EX.done (resct rfl rfl rfl (lv_129 (q2.at rfl) (q2.at rfl) (q2.at rfl) (q2.at rfl) (q2.at rfl) (q2.at rfl) (q2.at rfl) (q2.at rfl) (q2.at rfl) (q2.at rfl) (q2.at rfl))) ⟨rfl, hbw⟩

theorem find_ok (r : River) (v u : Value) (vs : List Value) (p : Int) (w : World) (B : Nat) (hr : RdRiver w B v u r vs) (hB : B ≤ w.heap.size) (hok : riverB r = true) (hp : inB 0 (placesOf r.reaches - 1) p = true) :
    Calls Try.prog 71 #[.agg #[v, u], .int .i64 p] w fun e w' => (∃ A1 n1 c1 A n c, e = .returned (.tuple #[.agg (placeV (r.reaches.getD (reachOf r.reaches p) reach0) (.slice A1 n1 c1) (reachOf r.reaches p : Nat) (.slice A n c)), .bool true]) ∧ w'.ownsRow w.heap.size 97 6 (.slice A n c) (shoalsAt r.shoals p).length (shoalsC (shoalsAt r.shoals p))) ∧ Below w.heap.size w w' := by
  have hR := riverB_ok hok
  have hlt : reachOf r.reaches p < r.reaches.length := reachOf_lt _ _ (by have := inB_iff.1 hp; omega) (by have := inB_iff.1 hp; omega)
  obtain ⟨A1, c1, e1, _⟩ := (hr.reaches.curve _ hlt).shape
  refine (find_any r v u vs p w B hr hB hok).mono fun e w' h => ?_
  obtain ⟨h | ⟨_, A, n, c, h1, h2⟩, hb⟩ := h
  · rw [hp] at h; exact absurd h.1 (by simp)
  · rw [e1] at h1
    exact ⟨⟨_, _, _, _, _, _, h1, h2⟩, hb⟩
theorem open_bad (r : River) (sides : List (List Bd)) (v u s : Value) (vs ss : List Value) (w : World) (B : Nat) (hr : RdRiver w B v u r vs) (hs : RdSides w B s sides ss) (hB : B ≤ w.heap.size)
    (hl : r.reaches.length ≤ 1048576) (hl2 : r.shoals.length ≤ 1048576) (hcv : CurvesB r.reaches) (hl3 : sides.length ≤ 1048576) (hsb : SidesB sides) (he : startErr r sides ≠ 0) :
    Calls Try.prog 73 #[.agg #[v, u], s] w fun e w' => e = .returned (.tuple #[.pointer none, .int .i64 (startErr r sides)]) ∧ Below w.heap.size w w' := by
  refine (open_any r sides v u s vs ss w B hr hs hB hl hl2 hcv hl3 hsb).mono fun e w' h => ?_
  obtain ⟨⟨_, h1⟩ | ⟨h1, _⟩, hb⟩ := h
  · exact ⟨h1, hb⟩
  · exact absurd h1 he
theorem open_ok (r : River) (sides : List (List Bd)) (v u s : Value) (vs ss : List Value) (w : World) (B : Nat) (hr : RdRiver w B v u r vs) (hs : RdSides w B s sides ss) (hB : B ≤ w.heap.size)
    (hl : r.reaches.length ≤ 1048576) (hl2 : r.shoals.length ≤ 1048576) (hcv : CurvesB r.reaches) (hl3 : sides.length ≤ 1048576) (hsb : SidesB sides) (he : startErr r sides = 0) :
    Calls Try.prog 73 #[.agg #[v, u], s] w fun e w' => (∃ g vf fs, e = .returned (.tuple #[.pointer (some ⟨g, 0, none⟩), .int .i64 0]) ∧ w.heap.size ≤ g ∧ StreamOk w' w'.heap.size g r sides v u vf vs fs ∧ Stream w' (g + 1) g v u vf fs (flowsUp r.reaches sides sides.length)) ∧ Below w.heap.size w w' := by
  refine (open_any r sides v u s vs ss w B hr hs hB hl hl2 hcv hl3 hsb).mono fun e w' h => ?_
  obtain ⟨⟨h1, _⟩ | ⟨_, g, vf, fs, h1, h2, h3⟩, hb⟩ := h
  · exact absurd he h1
  · exact ⟨⟨g, vf, fs, h1, h2, ⟨(startErr_ok he).2, h3.blk, h3.blk.lt, (hr.below (hb.mono hB)).more (Nat.le_trans hB hb.size), h3.sides⟩, h3⟩, hb⟩

theorem loc_none {w : World} {B g : Nat} {r : River} {sides : List (List Bd)} {v u vf : Value} {vs fs : List Value} (h : StreamOk w B g r sides v u vf vs fs) (hB : B ≤ w.heap.size) (hok : riverB r = true) (p t : Int) (hp : inB 0 (placesOf r.reaches - 1) p = false) :
    Calls Try.prog 74 #[.pointer (some ⟨g, 0, none⟩), .int .i64 p, .int .i64 t] w fun e w' => e = .returned (.tuple #[.agg (placeV reach0 (.slice none 0 0) 0 (.slice none 0 0)), .int .i64 7]) ∧ Below w.heap.size w w' := by
  have hS := h.blk
  have hh := h.ok.hours
  have hsub : IntKind.i64.wrap ((((sides.getD 0 []).length : Nat) : Int) - 1) = (((sides.getD 0 []).length : Nat) : Int) - 1 := IntWalk.i64_in _ ⟨by omega, by omega⟩
  have hbw := Below.refl w.heap.size w
  refine EC.enter 32 Try.func74 rfl rfl rfl ?_
  refine EC.seq ?_
  refine EC.region ?_
  refine EL.newP al_129 rfl ?_
  intro g1 w1 q1 hb1 hg1 hl1
  have n0_1 : g ≠ g1 := Nat.ne_of_lt (Nat.lt_of_lt_of_le hS.lt hg1)
  have bhbw_1 := Nat.le_trans hbw.size hg1
  replace hS := hS.below hb1 hS.lt
  replace hbw := Below.on hbw hb1 hbw.size
  clear hb1 hg1 hl1
  refine EL.val (x_assign rfl) rfl ?_
  refine EL.nil ?_
  refine EX.seq ?_
  refine EC.seq ?_
  refine EC.region ?_
  refine EL.val (x_move rfl) rfl ?_
  refine EL.val (x_nilCheck rfl) rfl ?_
  refine EL.val (fa_141_0 rfl) rfl ?_
  refine EL.val (ld_47 rfl (hS.at (j := 0) rfl) (hS.at (j := 1) rfl)) rfl ?_
  refine EL.val (x_move rfl) rfl ?_
  refine EL.call (cl_71 rfl rfl) rfl (find_bad r _ _ vs p _ B (h.below (hbw.mono hB)).river (Nat.le_trans hB hbw.size) hok hp) ?_
  rintro e w2 ⟨rfl, hc2⟩
  refine ⟨_, rfl, ?_⟩
  replace hS := hS.below hc2 hS.lt
  replace q1 := q1.below hc2 q1.lt
  replace hbw := Below.on hbw hc2 hbw.size
  clear hc2
  refine EL.val (x_move rfl) rfl ?_
  refine EL.val (x_extract rfl rfl) rfl ?_
  refine EL.val (x_extract rfl rfl) rfl ?_
  refine EL.store rfl rfl q1 sz_129 rfl rfl rfl rfl ?_
  intro w3 hq3 hg3
  replace hS := hS.grown hg3 (fun h => n0_1 (Option.some.inj h))
  replace hbw := below_store hbw hg3 bhbw_1
  replace q1 := hq3
  clear hg3 hq3
  refine EL.val (x_assign rfl) rfl ?_
  refine EL.nil ?_
  refine EX.seq ?_
  refine EC.seq ?_
  refine EC.block ?_
  refine EC.seq ?_
  refine EC.region ?_
  refine EL.val (x_move rfl) rfl ?_
  refine EL.val (x_not rfl) rfl ?_
  refine EL.val (x_assign rfl) rfl ?_
  refine EL.nil ?_
  refine EX.seq ?_
  refine EC.yes rfl ?_
  refine EC.seq ?_
  refine EC.region ?_
  refine EL.val (ld_129 rfl (q1.at (j := 0) rfl) (q1.at (j := 1) rfl) (q1.at (j := 2) rfl) (q1.at (j := 3) rfl) (q1.at (j := 4) rfl) (q1.at (j := 5) rfl) (q1.at (j := 6) rfl) (q1.at (j := 7) rfl) (q1.at (j := 8) rfl) (q1.at (j := 9) rfl) (q1.at (j := 10) rfl)) rfl ?_
  refine EL.store rfl rfl q1 sz_129 rfl rfl rfl rfl ?_
  intro w4 hq4 hg4
  replace hS := hS.grown hg4 (fun h => n0_1 (Option.some.inj h))
  replace hbw := below_store hbw hg4 bhbw_1
  replace q1 := hq4
  clear hg4 hq4
  refine EL.val (x_assign rfl) rfl ?_
  refine EL.nil ?_
  refine EX.seq ?_
  refine EC.ret ?_
  refine EX.blk_ret ?_
  refine EX.seq_ret ?_
  exact EX.done (resct rfl rfl rfl (lv_129 (q1.at rfl) (q1.at rfl) (q1.at rfl) (q1.at rfl) (q1.at rfl) (q1.at rfl) (q1.at rfl) (q1.at rfl) (q1.at rfl) (q1.at rfl) (q1.at rfl))) ⟨rfl, hbw⟩

theorem loc_range {w : World} {B g : Nat} {r : River} {sides : List (List Bd)} {v u vf : Value} {vs fs : List Value} (h : StreamOk w B g r sides v u vf vs fs) (hB : B ≤ w.heap.size) (hok : riverB r = true) (p t : Int) (hp : inB 0 (placesOf r.reaches - 1) p = true) (ht : inB 0 (((sides.getD 0 []).length : Nat) - 1 : Int) t = false) :
    Calls Try.prog 74 #[.pointer (some ⟨g, 0, none⟩), .int .i64 p, .int .i64 t] w fun e w' => (∃ A1 n1 c1 A n c, e = .returned (.tuple #[.agg (placeV (r.reaches.getD (reachOf r.reaches p) reach0) (.slice A1 n1 c1) (reachOf r.reaches p : Nat) (.slice A n c)), .int .i64 3]) ∧ Rd w' w'.heap.size 6 (.slice A n c) (shoalsAt r.shoals p).length (shoalsC (shoalsAt r.shoals p))) ∧ Below w.heap.size w w' := by
  have hS := h.blk
  have hh := h.ok.hours
  have hsub : IntKind.i64.wrap ((((sides.getD 0 []).length : Nat) : Int) - 1) = (((sides.getD 0 []).length : Nat) : Int) - 1 := IntWalk.i64_in _ ⟨by omega, by omega⟩
  have hbw := Below.refl w.heap.size w
  refine EC.enter 32 Try.func74 rfl rfl rfl ?_
  refine EC.seq ?_
  refine EC.region ?_
  refine EL.newP al_129 rfl ?_
  intro g1 w1 q1 hb1 hg1 hl1
  have n0_1 : g ≠ g1 := Nat.ne_of_lt (Nat.lt_of_lt_of_le hS.lt hg1)
  have bhbw_1 := Nat.le_trans hbw.size hg1
  replace hS := hS.below hb1 hS.lt
  replace hbw := Below.on hbw hb1 hbw.size
  clear hb1 hg1 hl1
  refine EL.val (x_assign rfl) rfl ?_
  refine EL.nil ?_
  refine EX.seq ?_
  refine EC.seq ?_
  refine EC.region ?_
  refine EL.val (x_move rfl) rfl ?_
  refine EL.val (x_nilCheck rfl) rfl ?_
  refine EL.val (fa_141_0 rfl) rfl ?_
  refine EL.val (ld_47 rfl (hS.at (j := 0) rfl) (hS.at (j := 1) rfl)) rfl ?_
  refine EL.val (x_move rfl) rfl ?_
  have lo_0 := hS.lt
  have lo_1 := q1.lt
  refine EL.call (cl_71 rfl rfl) rfl (find_ok r _ _ vs p _ B (h.below (hbw.mono hB)).river (Nat.le_trans hB hbw.size) hok hp) ?_
  rintro e w2 ⟨⟨A1, n1, c1, A, n, c, rfl, ho⟩, hc2⟩
  refine ⟨_, rfl, ?_⟩
  replace hS := hS.below hc2 hS.lt
  replace q1 := q1.below hc2 q1.lt
  replace hbw := Below.on hbw hc2 hbw.size
  clear hc2
  refine EL.val (x_move rfl) rfl ?_
  refine EL.val (x_extract rfl rfl) rfl ?_
  refine EL.val (x_extract rfl rfl) rfl ?_
  refine EL.store rfl rfl q1 sz_129 rfl rfl rfl rfl ?_
  intro w3 hq3 hg3
  replace hS := hS.grown hg3 (fun h => n0_1 (Option.some.inj h))
  replace ho := own_far ho hg3 lo_1
  replace hbw := below_store hbw hg3 bhbw_1
  replace q1 := hq3
  clear hg3 hq3
  refine EL.val (x_assign rfl) rfl ?_
  refine EL.nil ?_
  refine EX.seq ?_
  refine EC.seq ?_
  refine EC.block ?_
  refine EC.seq ?_
  refine EC.region ?_
  refine EL.val (x_move rfl) rfl ?_
  refine EL.val (x_not rfl) rfl ?_
  refine EL.val (x_assign rfl) rfl ?_
  refine EL.nil ?_
  refine EX.seq ?_
  refine EC.no rfl ?_
  refine EC.seq ?_
  refine EC.region ?_
  refine EL.val (x_move rfl) rfl ?_
  refine EL.call (cl_77 rfl) rfl (hours_any (h.below (hbw.mono hB))) ?_
  rintro e _ ⟨rfl, rfl⟩
  refine ⟨_, rfl, ?_⟩
  refine EL.val (x_sub rfl rfl hsub) rfl ?_
  refine EL.val (x_move rfl) rfl ?_
  refine EL.newS (bs_121_1 rfl) rfl ?_
  intro g4 w4 q4 hb4 hg4 hl4
  have n0_4 : g ≠ g4 := Nat.ne_of_lt (Nat.lt_of_lt_of_le hS.lt hg4)
  have n1_4 : g1 ≠ g4 := Nat.ne_of_lt (Nat.lt_of_lt_of_le q1.lt hg4)
  have bhbw_4 := Nat.le_trans hbw.size hg4
  replace hS := hS.below hb4 hS.lt
  replace q1 := q1.below hb4 q1.lt
  replace ho := own_below ho hb4 (Nat.le_refl _)
  replace hbw := Below.on hbw hb4 hbw.size
  clear hb4 hg4 hl4
  refine EL.call (cl_57 rfl rfl rfl) rfl (withinB1 _ _ _ false _ q4 ht) ?_
  rintro e w5 ⟨rfl, hc5⟩
  refine ⟨_, rfl, ?_⟩
  replace hS := hS.below hc5 hS.lt
  replace q1 := q1.below hc5 q1.lt
  replace q4 := q4.below hc5 q4.lt
  replace ho := own_below ho hc5 (Nat.le_refl _)
  replace hbw := Below.on hbw hc5 hbw.size
  clear hc5
  refine EL.val (x_not rfl) rfl ?_
  refine EL.val (x_assign rfl) rfl ?_
  refine EL.nil ?_
  refine EX.seq ?_
  refine EC.yes rfl ?_
  refine EC.seq ?_
  refine EC.region ?_
  refine EL.val (ld_129 rfl (q1.at (j := 0) rfl) (q1.at (j := 1) rfl) (q1.at (j := 2) rfl) (q1.at (j := 3) rfl) (q1.at (j := 4) rfl) (q1.at (j := 5) rfl) (q1.at (j := 6) rfl) (q1.at (j := 7) rfl) (q1.at (j := 8) rfl) (q1.at (j := 9) rfl) (q1.at (j := 10) rfl)) rfl ?_
  refine EL.store rfl rfl q1 sz_129 rfl rfl rfl rfl ?_
  intro w6 hq6 hg6
  replace hS := hS.grown hg6 (fun h => n0_1 (Option.some.inj h))
  replace ho := own_far ho hg6 lo_1
  replace hbw := below_store hbw hg6 bhbw_1
  replace q1 := hq6
  clear hg6 hq6
  refine EL.val (x_assign rfl) rfl ?_
  refine EL.nil ?_
  refine EX.seq ?_
  refine EC.ret ?_
  refine EX.blk_ret ?_
  refine EX.seq_ret ?_
  exact EX.done (resct rfl rfl rfl (lv_129 (q1.at rfl) (q1.at rfl) (q1.at rfl) (q1.at rfl) (q1.at rfl) (q1.at rfl) (q1.at rfl) (q1.at rfl) (q1.at rfl) (q1.at rfl) (q1.at rfl))) ⟨⟨_, _, _, _, _, _, rfl, Rd.of_own ho⟩, hbw⟩

theorem loc_ok {w : World} {B g : Nat} {r : River} {sides : List (List Bd)} {v u vf : Value} {vs fs : List Value} (h : StreamOk w B g r sides v u vf vs fs) (hB : B ≤ w.heap.size) (hok : riverB r = true) (p t : Int) (hp : inB 0 (placesOf r.reaches - 1) p = true) (ht : inB 0 (((sides.getD 0 []).length : Nat) - 1 : Int) t = true) :
    Calls Try.prog 74 #[.pointer (some ⟨g, 0, none⟩), .int .i64 p, .int .i64 t] w fun e w' => (∃ A1 n1 c1 A n c, e = .returned (.tuple #[.agg (placeV (r.reaches.getD (reachOf r.reaches p) reach0) (.slice A1 n1 c1) (reachOf r.reaches p : Nat) (.slice A n c)), .int .i64 0]) ∧ Rd w' w'.heap.size 6 (.slice A n c) (shoalsAt r.shoals p).length (shoalsC (shoalsAt r.shoals p))) ∧ Below w.heap.size w w' := by
  have hS := h.blk
  have hh := h.ok.hours
  have hsub : IntKind.i64.wrap ((((sides.getD 0 []).length : Nat) : Int) - 1) = (((sides.getD 0 []).length : Nat) : Int) - 1 := IntWalk.i64_in _ ⟨by omega, by omega⟩
  have hbw := Below.refl w.heap.size w
  refine EC.enter 32 Try.func74 rfl rfl rfl ?_
  refine EC.seq ?_
  refine EC.region ?_
  refine EL.newP al_129 rfl ?_
  intro g1 w1 q1 hb1 hg1 hl1
  have n0_1 : g ≠ g1 := Nat.ne_of_lt (Nat.lt_of_lt_of_le hS.lt hg1)
  have bhbw_1 := Nat.le_trans hbw.size hg1
  replace hS := hS.below hb1 hS.lt
  replace hbw := Below.on hbw hb1 hbw.size
  clear hb1 hg1 hl1
  refine EL.val (x_assign rfl) rfl ?_
  refine EL.nil ?_
  refine EX.seq ?_
  refine EC.seq ?_
  refine EC.region ?_
  refine EL.val (x_move rfl) rfl ?_
  refine EL.val (x_nilCheck rfl) rfl ?_
  refine EL.val (fa_141_0 rfl) rfl ?_
  refine EL.val (ld_47 rfl (hS.at (j := 0) rfl) (hS.at (j := 1) rfl)) rfl ?_
  refine EL.val (x_move rfl) rfl ?_
  have lo_0 := hS.lt
  have lo_1 := q1.lt
  refine EL.call (cl_71 rfl rfl) rfl (find_ok r _ _ vs p _ B (h.below (hbw.mono hB)).river (Nat.le_trans hB hbw.size) hok hp) ?_
  rintro e w2 ⟨⟨A1, n1, c1, A, n, c, rfl, ho⟩, hc2⟩
  refine ⟨_, rfl, ?_⟩
  replace hS := hS.below hc2 hS.lt
  replace q1 := q1.below hc2 q1.lt
  replace hbw := Below.on hbw hc2 hbw.size
  clear hc2
  refine EL.val (x_move rfl) rfl ?_
  refine EL.val (x_extract rfl rfl) rfl ?_
  refine EL.val (x_extract rfl rfl) rfl ?_
  refine EL.store rfl rfl q1 sz_129 rfl rfl rfl rfl ?_
  intro w3 hq3 hg3
  replace hS := hS.grown hg3 (fun h => n0_1 (Option.some.inj h))
  replace ho := own_far ho hg3 lo_1
  replace hbw := below_store hbw hg3 bhbw_1
  replace q1 := hq3
  clear hg3 hq3
  refine EL.val (x_assign rfl) rfl ?_
  refine EL.nil ?_
  refine EX.seq ?_
  refine EC.seq ?_
  refine EC.block ?_
  refine EC.seq ?_
  refine EC.region ?_
  refine EL.val (x_move rfl) rfl ?_
  refine EL.val (x_not rfl) rfl ?_
  refine EL.val (x_assign rfl) rfl ?_
  refine EL.nil ?_
  refine EX.seq ?_
  refine EC.no rfl ?_
  refine EC.seq ?_
  refine EC.region ?_
  refine EL.val (x_move rfl) rfl ?_
  refine EL.call (cl_77 rfl) rfl (hours_any (h.below (hbw.mono hB))) ?_
  rintro e _ ⟨rfl, rfl⟩
  refine ⟨_, rfl, ?_⟩
  refine EL.val (x_sub rfl rfl hsub) rfl ?_
  refine EL.val (x_move rfl) rfl ?_
  refine EL.newS (bs_121_1 rfl) rfl ?_
  intro g4 w4 q4 hb4 hg4 hl4
  have n0_4 : g ≠ g4 := Nat.ne_of_lt (Nat.lt_of_lt_of_le hS.lt hg4)
  have n1_4 : g1 ≠ g4 := Nat.ne_of_lt (Nat.lt_of_lt_of_le q1.lt hg4)
  have bhbw_4 := Nat.le_trans hbw.size hg4
  replace hS := hS.below hb4 hS.lt
  replace q1 := q1.below hb4 q1.lt
  replace ho := own_below ho hb4 (Nat.le_refl _)
  replace hbw := Below.on hbw hb4 hbw.size
  clear hb4 hg4 hl4
  refine EL.call (cl_57 rfl rfl rfl) rfl (withinB1 _ _ _ true _ q4 ht) ?_
  rintro e w5 ⟨rfl, hc5⟩
  refine ⟨_, rfl, ?_⟩
  replace hS := hS.below hc5 hS.lt
  replace q1 := q1.below hc5 q1.lt
  replace q4 := q4.below hc5 q4.lt
  replace ho := own_below ho hc5 (Nat.le_refl _)
  replace hbw := Below.on hbw hc5 hbw.size
  clear hc5
  refine EL.val (x_not rfl) rfl ?_
  refine EL.val (x_assign rfl) rfl ?_
  refine EL.nil ?_
  refine EX.seq ?_
  refine EC.no rfl ?_
  refine EC.skip ?_
  refine EX.blk ?_
  refine EX.seq ?_
  refine EC.seq ?_
  refine EC.region ?_
  refine EL.val (ld_129 rfl (q1.at (j := 0) rfl) (q1.at (j := 1) rfl) (q1.at (j := 2) rfl) (q1.at (j := 3) rfl) (q1.at (j := 4) rfl) (q1.at (j := 5) rfl) (q1.at (j := 6) rfl) (q1.at (j := 7) rfl) (q1.at (j := 8) rfl) (q1.at (j := 9) rfl) (q1.at (j := 10) rfl)) rfl ?_
  refine EL.store rfl rfl q1 sz_129 rfl rfl rfl rfl ?_
  intro w6 hq6 hg6
  replace hS := hS.grown hg6 (fun h => n0_1 (Option.some.inj h))
  replace ho := own_far ho hg6 lo_1
  replace hbw := below_store hbw hg6 bhbw_1
  replace q1 := hq6
  clear hg6 hq6
  refine EL.val (x_assign rfl) rfl ?_
  refine EL.nil ?_
  refine EX.seq ?_
  refine EC.ret ?_
  exact EX.done (resct rfl rfl rfl (lv_129 (q1.at rfl) (q1.at rfl) (q1.at rfl) (q1.at rfl) (q1.at rfl) (q1.at rfl) (q1.at rfl) (q1.at rfl) (q1.at rfl) (q1.at rfl) (q1.at rfl))) ⟨⟨_, _, _, _, _, _, rfl, Rd.of_own ho⟩, hbw⟩

theorem depth_fit {w : World} {B C g : Nat} {r : River} {sides : List (List Bd)} {v u vf : Value} {vs fs : List Value} (h : StreamOk w B g r sides v u vf vs fs) (hB : B ≤ w.heap.size) {p t : Int} {A1 A : Option Addr} {n1 c1 n c : Nat} (hl : Rd w C 6 (.slice A n c) (shoalsAt r.shoals p).length (shoalsC (shoalsAt r.shoals p))) (hC : C ≤ w.heap.size) (hok : riverB r = true) (hp : inB 0 (placesOf r.reaches - 1) p = true) (ht : inB 0 (((sides.getD 0 []).length : Nat) - 1 : Int) t = true) :
    Calls Try.prog 75 #[.pointer (some ⟨g, 0, none⟩), .agg (placeV (r.reaches.getD (reachOf r.reaches p) reach0) (.slice A1 n1 c1) (reachOf r.reaches p : Nat) (.slice A n c)), .int .i64 t] w fun e w' =>
      e = .returned (.agg #[.int .i64 (depthAt r sides p t).lo, .int .i64 (depthAt r sides p t).hi]) ∧ Below w.heap.size w w' := by
  have hR := riverB_ok hok
  have hp' := inB_iff.1 hp
  have ht' := inB_iff.1 ht
  have hlt : reachOf r.reaches p < r.reaches.length := reachOf_lt _ _ (by omega) (by omega)
  have et : t = (t.toNat : Int) := by omega
  have en : n = (shoalsAt r.shoals p).length := by obtain ⟨_, _, _, e, _⟩ := hl; injection e
  subst en
  rw [et]
  have hB' : max B C ≤ w.heap.size := by omega
  exact depth_any (B := max B C) ⟨h.ok, h.blk, Nat.lt_of_lt_of_le h.gB (by omega), h.river.more (by omega), ⟨h.flows.len, h.flows.rd.more (by omega), fun i hi => (h.flows.side i hi).more (by omega)⟩⟩ hB' _ t.toNat hlt (by omega) A1 n1 c1 A c _ (hl.more (by omega)) (fun j hj => by
    have hm : (shoalsAt r.shoals p).getD j shoal0 ∈ r.shoals := (List.mem_filter.1 (show _ ∈ r.shoals.filter _ from getD_mem hj)).1
    simp only [riverB, Bool.and_eq_true] at hok
    exact List.all_eq_true.1 hok.2.2.2 _ hm) (Nat.le_trans (List.length_filter_le _ _) hR.few)

theorem dep_open (r : River) (sides : List (List Bd)) (v u s : Value) (vs ss : List Value) (w : World) (B : Nat) (hr : RdRiver w B v u r vs) (hs : RdSides w B s sides ss) (hB : B ≤ w.heap.size) (hl : r.reaches.length ≤ 1048576) (hl2 : r.shoals.length ≤ 1048576) (hcv : CurvesB r.reaches) (hl3 : sides.length ≤ 1048576) (hsb : SidesB sides) (p t : Int) (he : startErr r sides ≠ 0) :
    Calls Try.prog 33 #[.agg #[v, u], s, .int .i64 p, .int .i64 t] w fun e w' => e = .returned (.tuple #[.agg #[.int .i64 0, .int .i64 0], .int .i64 (startErr r sides)]) ∧ Below w.heap.size w w' := by
  obtain ⟨A_, c_, rfl, _⟩ := hr.reaches.shape
  obtain ⟨A_', c_', rfl, _⟩ := hr.shoals.shape
  have hbw := Below.refl w.heap.size w
  refine EC.enter 38 Try.func33 rfl rfl rfl ?_
  have he2 : decide (startErr r sides ≠ 0) = true := decide_eq_true he
  refine EC.seq ?_
  refine EC.region ?_
  refine EL.newP (bx_47 rfl) rfl ?_
  intro g1 w1 q1 hb1 hg1 hl1
  have bhbw_1 := Nat.le_trans hbw.size hg1
  replace hbw := Below.on hbw hb1 hbw.size
  clear hb1 hg1 hl1
  refine EL.newP al_23 rfl ?_
  intro g2 w2 q2 hb2 hg2 hl2
  have n1_2 : g1 ≠ g2 := Nat.ne_of_lt (Nat.lt_of_lt_of_le q1.lt hg2)
  have bhbw_2 := Nat.le_trans hbw.size hg2
  replace q1 := q1.below hb2 q1.lt
  replace hbw := Below.on hbw hb2 hbw.size
  clear hb2 hg2 hl2
  refine EL.val (x_assign rfl) rfl ?_
  refine EL.nil ?_
  refine EX.seq ?_
  refine EC.seq ?_
  refine EC.region ?_
  refine EL.val (ld_47 rfl (q1.at (j := 0) rfl) (q1.at (j := 1) rfl)) rfl ?_
  refine EL.val (x_move rfl) rfl ?_
  refine EL.call (cl_73 rfl rfl) rfl (open_bad r sides _ _ _ vs ss _ B (hr.below (hbw.mono hB)) (hs.below (hbw.mono hB)) (Nat.le_trans hB hbw.size) hl hl2 hcv hl3 hsb he) ?_
  rintro e w3 ⟨rfl, hc3⟩
  refine ⟨_, rfl, ?_⟩
  replace q1 := q1.below hc3 q1.lt
  replace q2 := q2.below hc3 q2.lt
  replace hbw := Below.on hbw hc3 hbw.size
  clear hc3
  refine EL.val (x_move rfl) rfl ?_
  refine EL.val (x_extract rfl rfl) rfl ?_
  refine EL.val (x_extract rfl rfl) rfl ?_
  refine EL.val (x_assign rfl) rfl ?_
  refine EL.val (x_assign rfl) rfl ?_
  refine EL.nil ?_
  refine EX.seq ?_
  refine EC.seq ?_
  refine EC.seq ?_
  refine EC.region ?_
  refine EL.val (x_move rfl) rfl ?_
  refine EL.val (x_neq rfl rfl (by first | assumption | exact decide_eq_true (by omega))) rfl ?_
  refine EL.nil ?_
  refine EX.seq ?_
  refine EC.yes rfl ?_
  refine EC.seq ?_
  refine EC.region ?_
  refine EL.val (bd_23_) rfl ?_
  refine EL.val (x_move rfl) rfl ?_
  refine EL.store rfl rfl q2 sz_23 rfl rfl rfl rfl ?_
  intro w4 hq4 hg4
  replace q1 := q1.grown hg4 (fun h => n1_2 (Option.some.inj h))
  replace hbw := below_store hbw hg4 bhbw_2
  replace q2 := hq4
  clear hg4 hq4
  refine EL.val (x_assign rfl) rfl ?_
  refine EL.nil ?_
  refine EX.seq ?_
  refine EC.ret ?_
  refine EX.seq_ret ?_
  exact EX.done (resct rfl rfl rfl (lv_23 (q2.at rfl) (q2.at rfl))) ⟨rfl, hbw⟩

theorem dep_none (r : River) (sides : List (List Bd)) (v u s : Value) (vs ss : List Value) (w : World) (B : Nat) (hr : RdRiver w B v u r vs) (hs : RdSides w B s sides ss) (hB : B ≤ w.heap.size) (hl : r.reaches.length ≤ 1048576) (hl2 : r.shoals.length ≤ 1048576) (hcv : CurvesB r.reaches) (hl3 : sides.length ≤ 1048576) (hsb : SidesB sides) (p t : Int) (he : startErr r sides = 0) (hp : inB 0 (placesOf r.reaches - 1) p = false) :
    Calls Try.prog 33 #[.agg #[v, u], s, .int .i64 p, .int .i64 t] w fun e w' => e = .returned (.tuple #[.agg #[.int .i64 0, .int .i64 0], .int .i64 7]) ∧ Below w.heap.size w w' := by
  obtain ⟨A_, c_, rfl, _⟩ := hr.reaches.shape
  obtain ⟨A_', c_', rfl, _⟩ := hr.shoals.shape
  have hok := (startErr_ok he).1
  have hbw := Below.refl w.heap.size w
  refine EC.enter 38 Try.func33 rfl rfl rfl ?_
  refine EC.seq ?_
  refine EC.region ?_
  refine EL.newP (bx_47 rfl) rfl ?_
  intro g1 w1 q1 hb1 hg1 hl1
  have bhbw_1 := Nat.le_trans hbw.size hg1
  replace hbw := Below.on hbw hb1 hbw.size
  clear hb1 hg1 hl1
  refine EL.newP al_23 rfl ?_
  intro g2 w2 q2 hb2 hg2 hl2
  have n1_2 : g1 ≠ g2 := Nat.ne_of_lt (Nat.lt_of_lt_of_le q1.lt hg2)
  have bhbw_2 := Nat.le_trans hbw.size hg2
  replace q1 := q1.below hb2 q1.lt
  replace hbw := Below.on hbw hb2 hbw.size
  clear hb2 hg2 hl2
  refine EL.val (x_assign rfl) rfl ?_
  refine EL.nil ?_
  refine EX.seq ?_
  refine EC.seq ?_
  refine EC.region ?_
  refine EL.val (ld_47 rfl (q1.at (j := 0) rfl) (q1.at (j := 1) rfl)) rfl ?_
  refine EL.val (x_move rfl) rfl ?_
  have lo_1 := q1.lt
  have lo_2 := q2.lt
  refine EL.call (cl_73 rfl rfl) rfl (open_ok r sides _ _ _ vs ss _ B (hr.below (hbw.mono hB)) (hs.below (hbw.mono hB)) (Nat.le_trans hB hbw.size) hl hl2 hcv hl3 hsb he) ?_
  rintro e w3 ⟨⟨g, vf, fs, rfl, hge, hst, hrow⟩, hc3⟩
  refine ⟨_, rfl, ?_⟩
  replace q1 := q1.below hc3 q1.lt
  replace q2 := q2.below hc3 q2.lt
  replace hbw := Below.on hbw hc3 hbw.size
  have hso := Below.refl w3.heap.size w3
  clear hc3
  refine EL.val (x_move rfl) rfl ?_
  refine EL.val (x_extract rfl rfl) rfl ?_
  refine EL.val (x_extract rfl rfl) rfl ?_
  refine EL.val (x_assign rfl) rfl ?_
  refine EL.val (x_assign rfl) rfl ?_
  refine EL.nil ?_
  refine EX.seq ?_
  refine EC.seq ?_
  refine EC.seq ?_
  refine EC.region ?_
  refine EL.val (x_move rfl) rfl ?_
  refine EL.val (x_neq rfl rfl (by first | assumption | exact decide_eq_false (by omega))) rfl ?_
  refine EL.nil ?_
  refine EX.seq ?_
  refine EC.no rfl ?_
  refine EC.skip ?_
  refine EX.seq ?_
  refine EC.seq ?_
  refine EC.region ?_
  refine EL.val (x_move rfl) rfl ?_
  refine EL.val (x_move rfl) rfl ?_
  refine EL.val (x_move rfl) rfl ?_
  refine EL.call (cl_74 rfl rfl rfl) rfl (loc_none (hst.below hso) hso.size hok _ _ hp) ?_
  rintro e w5 ⟨rfl, hc5⟩
  refine ⟨_, rfl, ?_⟩
  replace q1 := q1.below hc5 q1.lt
  replace q2 := q2.below hc5 q2.lt
  replace hbw := Below.on hbw hc5 hbw.size
  replace hso := Below.on hso hc5 hso.size
  clear hc5
  refine EL.val (x_move rfl) rfl ?_
  refine EL.val (x_extract rfl rfl) rfl ?_
  refine EL.val (x_extract rfl rfl) rfl ?_
  refine EL.newP al_129 rfl ?_
  intro g6 w6 q6 hb6 hg6 hl6
  have n1_6 : g1 ≠ g6 := Nat.ne_of_lt (Nat.lt_of_lt_of_le q1.lt hg6)
  have n2_6 : g2 ≠ g6 := Nat.ne_of_lt (Nat.lt_of_lt_of_le q2.lt hg6)
  have bhbw_6 := Nat.le_trans hbw.size hg6
  have bhso_6 := Nat.le_trans hso.size hg6
  replace q1 := q1.below hb6 q1.lt
  replace q2 := q2.below hb6 q2.lt
  replace hbw := Below.on hbw hb6 hbw.size
  replace hso := Below.on hso hb6 hso.size
  clear hb6 hg6 hl6
  refine EL.store rfl rfl q6 sz_129 rfl rfl rfl rfl ?_
  intro w7 hq7 hg7
  replace q1 := q1.grown hg7 (fun h => n1_6 (Option.some.inj h))
  replace q2 := q2.grown hg7 (fun h => n2_6 (Option.some.inj h))
  replace hbw := below_store hbw hg7 bhbw_6
  replace hso := below_store hso hg7 bhso_6
  replace q6 := hq7
  clear hg7 hq7
  refine EL.val (x_assign rfl) rfl ?_
  refine EL.nil ?_
  refine EX.seq ?_
  refine EC.seq ?_
  refine EC.seq ?_
  refine EC.region ?_
  refine EL.val (x_move rfl) rfl ?_
  refine EL.val (x_neq rfl rfl (by first | assumption | exact decide_eq_true (by omega))) rfl ?_
  refine EL.nil ?_
  refine EX.seq ?_
  refine EC.yes rfl ?_
  refine EC.seq ?_
  refine EC.region ?_
  refine EL.val (bd_23_) rfl ?_
  refine EL.val (x_move rfl) rfl ?_
  refine EL.store rfl rfl q2 sz_23 rfl rfl rfl rfl ?_
  intro w8 hq8 hg8
  replace q1 := q1.grown hg8 (fun h => n1_2 (Option.some.inj h))
  replace q6 := q6.grown hg8 (fun h => n2_6.symm (Option.some.inj h))
  replace hbw := below_store hbw hg8 bhbw_2
  clear hso
  replace q2 := hq8
  clear hg8 hq8
  refine EL.val (x_assign rfl) rfl ?_
  refine EL.nil ?_
  refine EX.seq ?_
  refine EC.ret ?_
  refine EX.seq_ret ?_
  exact EX.done (resct rfl rfl rfl (lv_23 (q2.at rfl) (q2.at rfl))) ⟨rfl, hbw⟩

theorem dep_range (r : River) (sides : List (List Bd)) (v u s : Value) (vs ss : List Value) (w : World) (B : Nat) (hr : RdRiver w B v u r vs) (hs : RdSides w B s sides ss) (hB : B ≤ w.heap.size) (hl : r.reaches.length ≤ 1048576) (hl2 : r.shoals.length ≤ 1048576) (hcv : CurvesB r.reaches) (hl3 : sides.length ≤ 1048576) (hsb : SidesB sides) (p t : Int) (he : startErr r sides = 0) (hp : inB 0 (placesOf r.reaches - 1) p = true) (ht : inB 0 (((sides.getD 0 []).length : Nat) - 1 : Int) t = false) :
    Calls Try.prog 33 #[.agg #[v, u], s, .int .i64 p, .int .i64 t] w fun e w' => e = .returned (.tuple #[.agg #[.int .i64 0, .int .i64 0], .int .i64 3]) ∧ Below w.heap.size w w' := by
  obtain ⟨A_, c_, rfl, _⟩ := hr.reaches.shape
  obtain ⟨A_', c_', rfl, _⟩ := hr.shoals.shape
  have hok := (startErr_ok he).1
  have hbw := Below.refl w.heap.size w
  refine EC.enter 38 Try.func33 rfl rfl rfl ?_
  refine EC.seq ?_
  refine EC.region ?_
  refine EL.newP (bx_47 rfl) rfl ?_
  intro g1 w1 q1 hb1 hg1 hl1
  have bhbw_1 := Nat.le_trans hbw.size hg1
  replace hbw := Below.on hbw hb1 hbw.size
  clear hb1 hg1 hl1
  refine EL.newP al_23 rfl ?_
  intro g2 w2 q2 hb2 hg2 hl2
  have n1_2 : g1 ≠ g2 := Nat.ne_of_lt (Nat.lt_of_lt_of_le q1.lt hg2)
  have bhbw_2 := Nat.le_trans hbw.size hg2
  replace q1 := q1.below hb2 q1.lt
  replace hbw := Below.on hbw hb2 hbw.size
  clear hb2 hg2 hl2
  refine EL.val (x_assign rfl) rfl ?_
  refine EL.nil ?_
  refine EX.seq ?_
  refine EC.seq ?_
  refine EC.region ?_
  refine EL.val (ld_47 rfl (q1.at (j := 0) rfl) (q1.at (j := 1) rfl)) rfl ?_
  refine EL.val (x_move rfl) rfl ?_
  have lo_1 := q1.lt
  have lo_2 := q2.lt
  refine EL.call (cl_73 rfl rfl) rfl (open_ok r sides _ _ _ vs ss _ B (hr.below (hbw.mono hB)) (hs.below (hbw.mono hB)) (Nat.le_trans hB hbw.size) hl hl2 hcv hl3 hsb he) ?_
  rintro e w3 ⟨⟨g, vf, fs, rfl, hge, hst, hrow⟩, hc3⟩
  refine ⟨_, rfl, ?_⟩
  replace q1 := q1.below hc3 q1.lt
  replace q2 := q2.below hc3 q2.lt
  replace hbw := Below.on hbw hc3 hbw.size
  have hso := Below.refl w3.heap.size w3
  clear hc3
  refine EL.val (x_move rfl) rfl ?_
  refine EL.val (x_extract rfl rfl) rfl ?_
  refine EL.val (x_extract rfl rfl) rfl ?_
  refine EL.val (x_assign rfl) rfl ?_
  refine EL.val (x_assign rfl) rfl ?_
  refine EL.nil ?_
  refine EX.seq ?_
  refine EC.seq ?_
  refine EC.seq ?_
  refine EC.region ?_
  refine EL.val (x_move rfl) rfl ?_
  refine EL.val (x_neq rfl rfl (by first | assumption | exact decide_eq_false (by omega))) rfl ?_
  refine EL.nil ?_
  refine EX.seq ?_
  refine EC.no rfl ?_
  refine EC.skip ?_
  refine EX.seq ?_
  refine EC.seq ?_
  refine EC.region ?_
  refine EL.val (x_move rfl) rfl ?_
  refine EL.val (x_move rfl) rfl ?_
  refine EL.val (x_move rfl) rfl ?_
  have lp_1 := q1.lt
  have lp_2 := q2.lt
  refine EL.call (cl_74 rfl rfl rfl) rfl (loc_range (hst.below hso) hso.size hok _ _ hp ht) ?_
  rintro e w4 ⟨⟨A1, n1, c1, A, n, c, rfl, ho⟩, hc4⟩
  refine ⟨_, rfl, ?_⟩
  replace q1 := q1.below hc4 q1.lt
  replace q2 := q2.below hc4 q2.lt
  replace hbw := Below.on hbw hc4 hbw.size
  replace hso := Below.on hso hc4 hso.size
  clear hc4
  have hlo := Below.refl w4.heap.size w4
  refine EL.val (x_move rfl) rfl ?_
  refine EL.val (x_extract rfl rfl) rfl ?_
  refine EL.val (x_extract rfl rfl) rfl ?_
  refine EL.newP al_129 rfl ?_
  intro g5 w5 q5 hb5 hg5 hl5
  have n1_5 : g1 ≠ g5 := Nat.ne_of_lt (Nat.lt_of_lt_of_le q1.lt hg5)
  have n2_5 : g2 ≠ g5 := Nat.ne_of_lt (Nat.lt_of_lt_of_le q2.lt hg5)
  have bhbw_5 := Nat.le_trans hbw.size hg5
  have bhso_5 := Nat.le_trans hso.size hg5
  have bhlo_5 := Nat.le_trans hlo.size hg5
  replace q1 := q1.below hb5 q1.lt
  replace q2 := q2.below hb5 q2.lt
  replace hbw := Below.on hbw hb5 hbw.size
  replace hso := Below.on hso hb5 hso.size
  replace hlo := Below.on hlo hb5 hlo.size
  clear hb5 hg5 hl5
  refine EL.store rfl rfl q5 sz_129 rfl rfl rfl rfl ?_
  intro w6 hq6 hg6
  replace q1 := q1.grown hg6 (fun h => n1_5 (Option.some.inj h))
  replace q2 := q2.grown hg6 (fun h => n2_5 (Option.some.inj h))
  replace hbw := below_store hbw hg6 bhbw_5
  replace hso := below_store hso hg6 bhso_5
  replace hlo := below_store hlo hg6 bhlo_5
  replace q5 := hq6
  clear hg6 hq6
  refine EL.val (x_assign rfl) rfl ?_
  refine EL.nil ?_
  refine EX.seq ?_
  refine EC.seq ?_
  refine EC.seq ?_
  refine EC.region ?_
  refine EL.val (x_move rfl) rfl ?_
  refine EL.val (x_neq rfl rfl (by first | assumption | exact decide_eq_true (by omega))) rfl ?_
  refine EL.nil ?_
  refine EX.seq ?_
  refine EC.yes rfl ?_
  refine EC.seq ?_
  refine EC.region ?_
  refine EL.val (bd_23_) rfl ?_
  refine EL.val (x_move rfl) rfl ?_
  refine EL.store rfl rfl q2 sz_23 rfl rfl rfl rfl ?_
  intro w7 hq7 hg7
  replace q1 := q1.grown hg7 (fun h => n1_2 (Option.some.inj h))
  replace q5 := q5.grown hg7 (fun h => n2_5.symm (Option.some.inj h))
  replace hbw := below_store hbw hg7 bhbw_2
  clear hso
  clear hlo
  replace q2 := hq7
  clear hg7 hq7
  refine EL.val (x_assign rfl) rfl ?_
  refine EL.nil ?_
  refine EX.seq ?_
  refine EC.ret ?_
  refine EX.seq_ret ?_
  exact EX.done (resct rfl rfl rfl (lv_23 (q2.at rfl) (q2.at rfl))) ⟨rfl, hbw⟩

theorem dep_ok (r : River) (sides : List (List Bd)) (v u s : Value) (vs ss : List Value) (w : World) (B : Nat) (hr : RdRiver w B v u r vs) (hs : RdSides w B s sides ss) (hB : B ≤ w.heap.size) (hl : r.reaches.length ≤ 1048576) (hl2 : r.shoals.length ≤ 1048576) (hcv : CurvesB r.reaches) (hl3 : sides.length ≤ 1048576) (hsb : SidesB sides) (p t : Int) (he : startErr r sides = 0) (hp : inB 0 (placesOf r.reaches - 1) p = true) (ht : inB 0 (((sides.getD 0 []).length : Nat) - 1 : Int) t = true) :
    Calls Try.prog 33 #[.agg #[v, u], s, .int .i64 p, .int .i64 t] w fun e w' => e = .returned (.tuple #[.agg #[.int .i64 (depthAt r sides p t).lo, .int .i64 (depthAt r sides p t).hi], .int .i64 0]) ∧ Below w.heap.size w w' := by
  obtain ⟨A_, c_, rfl, _⟩ := hr.reaches.shape
  obtain ⟨A_', c_', rfl, _⟩ := hr.shoals.shape
  have hok := (startErr_ok he).1
  have hbw := Below.refl w.heap.size w
  refine EC.enter 38 Try.func33 rfl rfl rfl ?_
  refine EC.seq ?_
  refine EC.region ?_
  refine EL.newP (bx_47 rfl) rfl ?_
  intro g1 w1 q1 hb1 hg1 hl1
  have bhbw_1 := Nat.le_trans hbw.size hg1
  replace hbw := Below.on hbw hb1 hbw.size
  clear hb1 hg1 hl1
  refine EL.newP al_23 rfl ?_
  intro g2 w2 q2 hb2 hg2 hl2
  have n1_2 : g1 ≠ g2 := Nat.ne_of_lt (Nat.lt_of_lt_of_le q1.lt hg2)
  have bhbw_2 := Nat.le_trans hbw.size hg2
  replace q1 := q1.below hb2 q1.lt
  replace hbw := Below.on hbw hb2 hbw.size
  clear hb2 hg2 hl2
  refine EL.val (x_assign rfl) rfl ?_
  refine EL.nil ?_
  refine EX.seq ?_
  refine EC.seq ?_
  refine EC.region ?_
  refine EL.val (ld_47 rfl (q1.at (j := 0) rfl) (q1.at (j := 1) rfl)) rfl ?_
  refine EL.val (x_move rfl) rfl ?_
  have lo_1 := q1.lt
  have lo_2 := q2.lt
  refine EL.call (cl_73 rfl rfl) rfl (open_ok r sides _ _ _ vs ss _ B (hr.below (hbw.mono hB)) (hs.below (hbw.mono hB)) (Nat.le_trans hB hbw.size) hl hl2 hcv hl3 hsb he) ?_
  rintro e w3 ⟨⟨g, vf, fs, rfl, hge, hst, hrow⟩, hc3⟩
  refine ⟨_, rfl, ?_⟩
  replace q1 := q1.below hc3 q1.lt
  replace q2 := q2.below hc3 q2.lt
  replace hbw := Below.on hbw hc3 hbw.size
  have hso := Below.refl w3.heap.size w3
  clear hc3
  refine EL.val (x_move rfl) rfl ?_
  refine EL.val (x_extract rfl rfl) rfl ?_
  refine EL.val (x_extract rfl rfl) rfl ?_
  refine EL.val (x_assign rfl) rfl ?_
  refine EL.val (x_assign rfl) rfl ?_
  refine EL.nil ?_
  refine EX.seq ?_
  refine EC.seq ?_
  refine EC.seq ?_
  refine EC.region ?_
  refine EL.val (x_move rfl) rfl ?_
  refine EL.val (x_neq rfl rfl (by first | assumption | exact decide_eq_false (by omega))) rfl ?_
  refine EL.nil ?_
  refine EX.seq ?_
  refine EC.no rfl ?_
  refine EC.skip ?_
  refine EX.seq ?_
  refine EC.seq ?_
  refine EC.region ?_
  refine EL.val (x_move rfl) rfl ?_
  refine EL.val (x_move rfl) rfl ?_
  refine EL.val (x_move rfl) rfl ?_
  have lp_1 := q1.lt
  have lp_2 := q2.lt
  refine EL.call (cl_74 rfl rfl rfl) rfl (loc_ok (hst.below hso) hso.size hok _ _ hp ht) ?_
  rintro e w4 ⟨⟨A1, n1, c1, A, n, c, rfl, ho⟩, hc4⟩
  refine ⟨_, rfl, ?_⟩
  replace q1 := q1.below hc4 q1.lt
  replace q2 := q2.below hc4 q2.lt
  replace hbw := Below.on hbw hc4 hbw.size
  replace hso := Below.on hso hc4 hso.size
  clear hc4
  have hlo := Below.refl w4.heap.size w4
  refine EL.val (x_move rfl) rfl ?_
  refine EL.val (x_extract rfl rfl) rfl ?_
  refine EL.val (x_extract rfl rfl) rfl ?_
  refine EL.newP al_129 rfl ?_
  intro g5 w5 q5 hb5 hg5 hl5
  have n1_5 : g1 ≠ g5 := Nat.ne_of_lt (Nat.lt_of_lt_of_le q1.lt hg5)
  have n2_5 : g2 ≠ g5 := Nat.ne_of_lt (Nat.lt_of_lt_of_le q2.lt hg5)
  have bhbw_5 := Nat.le_trans hbw.size hg5
  have bhso_5 := Nat.le_trans hso.size hg5
  have bhlo_5 := Nat.le_trans hlo.size hg5
  replace q1 := q1.below hb5 q1.lt
  replace q2 := q2.below hb5 q2.lt
  replace hbw := Below.on hbw hb5 hbw.size
  replace hso := Below.on hso hb5 hso.size
  replace hlo := Below.on hlo hb5 hlo.size
  clear hb5 hg5 hl5
  refine EL.store rfl rfl q5 sz_129 rfl rfl rfl rfl ?_
  intro w6 hq6 hg6
  replace q1 := q1.grown hg6 (fun h => n1_5 (Option.some.inj h))
  replace q2 := q2.grown hg6 (fun h => n2_5 (Option.some.inj h))
  replace hbw := below_store hbw hg6 bhbw_5
  replace hso := below_store hso hg6 bhso_5
  replace hlo := below_store hlo hg6 bhlo_5
  replace q5 := hq6
  clear hg6 hq6
  refine EL.val (x_assign rfl) rfl ?_
  refine EL.nil ?_
  refine EX.seq ?_
  refine EC.seq ?_
  refine EC.seq ?_
  refine EC.region ?_
  refine EL.val (x_move rfl) rfl ?_
  refine EL.val (x_neq rfl rfl (by first | assumption | exact decide_eq_false (by omega))) rfl ?_
  refine EL.nil ?_
  refine EX.seq ?_
  refine EC.no rfl ?_
  refine EC.skip ?_
  refine EX.seq ?_
  refine EC.seq ?_
  refine EC.region ?_
  refine EL.val (x_move rfl) rfl ?_
  refine EL.val (ld_129 rfl (q5.at (j := 0) rfl) (q5.at (j := 1) rfl) (q5.at (j := 2) rfl) (q5.at (j := 3) rfl) (q5.at (j := 4) rfl) (q5.at (j := 5) rfl) (q5.at (j := 6) rfl) (q5.at (j := 7) rfl) (q5.at (j := 8) rfl) (q5.at (j := 9) rfl) (q5.at (j := 10) rfl)) rfl ?_
  refine EL.val (x_move rfl) rfl ?_
  refine EL.call (cl_75 rfl rfl rfl) rfl (depth_fit (hst.below hso) hso.size (ho.below hlo) hlo.size hok hp ht) ?_
  rintro e w7 ⟨rfl, hc7⟩
  refine ⟨_, rfl, ?_⟩
  replace q1 := q1.below hc7 q1.lt
  replace q2 := q2.below hc7 q2.lt
  replace q5 := q5.below hc7 q5.lt
  replace hbw := Below.on hbw hc7 hbw.size
  replace hso := Below.on hso hc7 hso.size
  replace hlo := Below.on hlo hc7 hlo.size
  clear hc7
  refine EL.store rfl rfl q2 sz_23 rfl rfl rfl rfl ?_
  intro w8 hq8 hg8
  replace q1 := q1.grown hg8 (fun h => n1_2 (Option.some.inj h))
  replace q5 := q5.grown hg8 (fun h => n2_5.symm (Option.some.inj h))
  replace hbw := below_store hbw hg8 bhbw_2
  clear hso
  clear hlo
  replace q2 := hq8
  clear hg8 hq8
  refine EL.val (x_assign rfl) rfl ?_
  refine EL.nil ?_
  refine EX.seq ?_
  refine EC.ret ?_
  exact EX.done (resct rfl rfl rfl (lv_23 (q2.at rfl) (q2.at rfl))) ⟨rfl, hbw⟩
end Go.Proofs.Ytncnlhkmdljgpaa
