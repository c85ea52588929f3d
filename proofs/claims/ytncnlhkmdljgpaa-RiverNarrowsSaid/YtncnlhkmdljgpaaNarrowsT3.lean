/- W34: what RiverNarrowsProof needs of them (merged by trimpack.py). -/
import Derived.Test.YtncnlhkmdljgpaaNarrowsT2
set_option linter.unusedVariables false
set_option linter.unusedSimpArgs false
namespace Go.Proofs.Ytncnlhkmdljgpaa
open Go Go.RowKit
theorem agree_of {σ : Sg} {t : Nat} {a b : Int} (h : a = b) (hs : σ t = some (.int .i64 a)) : σ t = some (.int .i64 b) := by rw [hs, h]
theorem row_again {w : World} {base n cr g gO m c i : Nat} {ss : List Value} {l0 : List (List Bd)} {row : List Bd} (h : OwnSides w base (.slice (some ⟨gO, 0, none⟩) m c) (l0.set i row) ss) (hi : i < l0.length) (hn : row.length = n) (h0 : 0 < n) (er : ss.getD i undef = .slice (some ⟨g, 0, none⟩) n cr) :
    w.cell? ⟨gO, 0 + i, none⟩ = some (.slice (some ⟨g, 0, none⟩) n cr) ∧ w.ownsRow base 23 2 (.slice (some ⟨g, 0, none⟩) n cr) n (bdsC row) := by
  subst hn
  obtain ⟨g', b, off, cr', e1, e2, h1, h2⟩ := row_of (s := undef) (ll := []) h hi h0
  rw [er] at e1
  injection e1 with e1 e3 e4
  subst e4
  injection e1 with e1
  injection e1 with e1
  subst e1
  injection e2 with e2
  injection e2 with e2 e5
  subst e2
  subst e5
  exact ⟨h1, h2⟩
theorem row_first {w : World} {base i : Nat} {ss : List Value} {l : List (List Bd)} {s : Value} (h : OwnSides w base s l ss) (hi : i < l.length) (h0 : 0 < (l.getD i []).length) : ∃ g cr, ss.getD i undef = .slice (some ⟨g, 0, none⟩) (l.getD i []).length cr := by
  have hsr := Rows.each h i (by rw [rowsB_len]; exact hi)
  have e8 : (rowsB l).getD i (0, []) = ((l.getD i []).length, bdsC (l.getD i [])) := by simp [rowsB, hi]
  rw [e8] at hsr
  simp only at hsr
  obtain ⟨Ar, cr, er, _⟩ := (Rd.of_own hsr).shape
  rw [er] at hsr
  obtain ⟨gR, rfl⟩ := own_slice hsr h0
  exact ⟨gR, cr, er⟩
theorem own_grown {w w' : World} {base e e' size size' n n' base' : Nat} {v u : Value} {xs ys : List Value} (h : w.ownsRow base e size v n xs) (hu : w.ownsRow base' e' size' u n' ys) (hT : Nat.beq e' e = false) (hg : w.grownBy w' u.ownBlock) : w'.ownsRow base e size v n xs := by
  refine own_apart h hg fun g h1 h2 => ?_
  obtain ⟨_, ⟨rfl, _⟩ | ⟨k, cap, cur, rfl, _, hk, _⟩⟩ := hu
  · cases h1
  · obtain ⟨_, ⟨rfl, _⟩ | ⟨k2, cap2, cur2, rfl, _, hk2, _⟩⟩ := h
    · cases h2
    · have e1 : k = g := by simpa [Value.ownBlock] using h1
      have e2 : k2 = g := by simpa [Value.ownBlock] using h2
      subst e1
      subst e2
      rw [hk] at hk2
      injection hk2 with hk2
      injection hk2 with _ h3
      exact Nat.ne_of_beq_eq_false hT h3
theorem Rows.grown2 {w w' : World} {base e osize n tb size e' size' n' base' : Nat} {v u : Value} {outer fs ys : List Value} {F : List (Nat × List Value)} (h : Rows w base e osize v n outer tb size fs F) (hu : w.ownsRow base' e' size' u n' ys) (hT : Nat.beq e' e = false) (hT2 : Nat.beq e' tb = false) (hg : w.grownBy w' u.ownBlock) : Rows w' base e osize v n outer tb size fs F :=
  ⟨own_grown h.own hu hT hg, h.len, fun i hi => own_grown (h.each i hi) hu hT2 hg, h.apart⟩
theorem blk_grown {w w' : World} {g T e' size' n' base' : Nat} {u : Value} {ys : List Value} {cs : Array Value} (h : Blk w g T cs) (hu : w.ownsRow base' e' size' u n' ys) (hT : Nat.beq e' T = false) (hg : w.grownBy w' u.ownBlock) : Blk w' g T cs := h.grown hg fun e => by
  obtain ⟨_, ⟨rfl, _⟩ | ⟨k, cap, cur, rfl, _, hk, _⟩⟩ := hu
  · cases e
  · have e1 : g = k := by simpa [Value.ownBlock] using e
    subst e1
    unfold Blk at h
    rw [hk] at h
    injection h with h
    injection h with _ h3
    exact Nat.ne_of_beq_eq_false hT h3
theorem TwoF.push {w w' : World} {base : Nat} {rv : River} {aL uL aM uM sL sM u' : Value} {vsL vsM ssL ssM : List Value} {l m : List (List Bd)} {x : Shoal} (h : TwoF w base rv aL uL aM uM vsL vsM sL sM ssL ssM l m) (hown : w'.ownsRow base 97 6 u' (rv.shoals.length + 1) (shoalsC rv.shoals ++ shoalC x)) (hg : w.grownBy w' uM.ownBlock) :
    OwnRiver w' base aL uL rv vsL ∧ OwnRiver w' base aM u' (withShoal rv x) vsM ∧ OwnSides w' base sL l ssL ∧ OwnSides w' base sM m ssM := by
  have h1 : OwnRiver w' base aL uL rv vsL := ⟨Rows.grown2 h.rL.rows h.rM.sh rfl rfl hg, own_apart h.rL.sh hg h.sh.symm⟩
  have h2 : OwnRiver w' base aM u' (withShoal rv x) vsM := ⟨Rows.grown2 h.rM.rows h.rM.sh rfl rfl hg, by
    have e : shoalsC (withShoal rv x).shoals = shoalsC rv.shoals ++ shoalC x := by simp [shoalsC, withShoal]
    rw [e, show (withShoal rv x).shoals.length = rv.shoals.length + 1 by simp [withShoal]]
    exact hown⟩
  exact ⟨h1, h2, Rows.grown2 h.fL h.rM.sh rfl rfl hg, Rows.grown2 h.fM h.rM.sh rfl rfl hg⟩
theorem dep_fit (rv : River) (sides : List (List Bd)) (v u s : Value) (vs ss : List Value) (w : World) (B : Nat) (hr : RdRiver w B v u rv vs) (hs : RdSides w B s sides ss) (hB : B ≤ w.heap.size) (f1 : rv.reaches.length ≤ 1048576) (f2 : rv.shoals.length ≤ 1048576) (f3 : CurvesB rv.reaches) (f5 : sides.length ≤ 1048576) (f4 : SidesB sides) (hst : startErr rv sides = 0) (n : Nat) (hn : (sides.getD 0 []).length = n) {p t : Int} (hp : inB 0 (placesOf rv.reaches - 1) p = true) (ht : inB 0 ((n : Nat) - 1 : Int) t = true) :
    Calls Try.prog 33 #[.agg #[v, u], s, .int .i64 p, .int .i64 t] w fun e w' => e = .returned (.tuple #[.agg #[.int .i64 (depthAt rv sides p t).lo, .int .i64 (depthAt rv sides p t).hi], .int .i64 0]) ∧ Below w.heap.size w w' := by
  subst hn
  exact dep_ok rv sides v u s vs ss w B hr hs hB f1 f2 f3 f5 f4 p t hst hp ht
theorem cld_fit (rv : River) (sides : List (List Bd)) (v u s : Value) (vs ss : List Value) (l : List Clos) (vl : Value) (w : World) (B : Nat) (hr : RdRiver w B v u rv vs) (hs : RdSides w B s sides ss) (hB : B ≤ w.heap.size) (hcl : Rd w B 6 vl l.length (closesC l)) (f1 : rv.reaches.length ≤ 1048576) (f2 : rv.shoals.length ≤ 1048576) (f3 : CurvesB rv.reaches) (f5 : sides.length ≤ 1048576) (f4 : SidesB sides) (hst : startErr rv sides = 0) (hce : closErr (placesOf rv.reaches) l = 0) (n : Nat) (hn : (sides.getD 0 []).length = n) {p t : Int} (hp : inB 0 (placesOf rv.reaches - 1) p = true) (ht : inB 0 ((n : Nat) - 1 : Int) t = true) (a b : Bool) (ha : a = mayAny (lvAt rv sides p t) (flAt rv p) p t l) (hb : b = mustAny (lvAt rv sides p t) (flAt rv p) p t l) :
    Calls Try.prog 48 #[.agg #[v, u], s, vl, .int .i64 p, .int .i64 t] w fun e w' => e = .returned (.tuple #[.bool a, .bool b, .int .i64 0]) ∧ Below w.heap.size w w' := by
  subst hn
  subst ha
  subst hb
  obtain ⟨h1, h2, h3⟩ := cld_ok hst hce hp ht
  have key := closed_any rv sides v u s vs ss l vl p t w B hr hs hB hcl f1 f2 f3 f5 f4
  rw [h1, h2, h3] at key
  exact key
theorem rd_nil {w : World} {B size : Nat} : Rd w B size (.slice none 0 0) 0 [] := ⟨by simp, _, _, rfl, Nat.le_refl _, fun h => absurd h (by omega)⟩
theorem nar_shut (p t : Int) : mayShut p t ⟨p, p, ⟨t - 3, t⟩, ⟨t + 1, t + 9⟩⟩ = true ∧ mustShut p t ⟨p, p, ⟨t - 3, t⟩, ⟨t + 1, t + 9⟩⟩ = true := by
  simp only [mayShut, mustShut, Bool.and_eq_true, inB_iff, decide_eq_true_eq]
  omega
theorem nar_one {lv : Bd} {fl p t : Int} : true = mayAny lv fl p t [⟨p, p, ⟨t - 3, t⟩, ⟨t + 1, t + 9⟩⟩] ∧ true = mustAny lv fl p t [⟨p, p, ⟨t - 3, t⟩, ⟨t + 1, t + 9⟩⟩] := by
  simp [mayAny, mustAny, (nar_shut p t).1, (nar_shut p t).2]
theorem nar_err {n p t : Int} (h1 : 0 ≤ p) (h2 : p < n) (h3 : 0 ≤ t) (h4 : t ≤ 400) : closErr n [⟨p, p, ⟨t - 3, t⟩, ⟨t + 1, t + 9⟩⟩] = 0 := by
  have : closOk n ⟨p, p, ⟨t - 3, t⟩, ⟨t + 1, t + 9⟩⟩ = true := by
    rw [closOk_iff, bdOk_iff, bdOk_iff]
    simp only
    omega
  simp [closErr, this]
theorem nar_none {n : Int} : closErr n [] = 0 := by simp [closErr]
theorem nar_chain {lv lw : Bd} {fl p t : Int} {m s a b : Bool} (h1 : lv.lo ≤ lw.lo) (h2 : lw.lo ≤ lw.hi) (h3 : lw.hi ≤ lv.hi) (hm : m = mayAny lv fl p t []) (hs : s = mustAny lv fl p t []) (ha : a = mayAny lw fl p t []) (hb : b = mustAny lw fl p t []) :
    (s = false ∧ b = false ∧ a = false ∧ m = false) ∨ (s = false ∧ b = false ∧ a = false ∧ m = true) ∨ (s = false ∧ b = false ∧ a = true ∧ m = true) ∨ (s = false ∧ b = true ∧ a = true ∧ m = true) ∨ (s = true ∧ b = true ∧ a = true ∧ m = true) := by
  simp only [mayAny, mustAny, List.any_nil, Bool.or_false] at hm hs ha hb
  subst hm hs ha hb
  simp only [decide_eq_false_iff_not, decide_eq_true_eq]
  omega
theorem take_places {r : River} (h : RiverOk r) : ∀ (i : Nat), 0 ≤ placesOf (r.reaches.take i) ∧ placesOf (r.reaches.take i) ≤ 100000 := fun i => by
  have h1 := h.some
  have hm : ∀ x ∈ r.reaches.take i, 0 ≤ x.len ∧ x.len ≤ 5000 := fun x hx => by
    obtain ⟨k, hk, e⟩ := List.getElem_of_mem (List.mem_of_mem_take hx)
    have := (h.reach k hk).len
    rw [show r.reaches.getD k reach0 = x by simp [hk, e]] at this
    omega
  refine ⟨places_nonneg _ fun x hx => (hm x hx).1, ?_⟩
  have h2 := places_le (r.reaches.take i) (m := 5000) fun x hx => (hm x hx).2
  have h3 : (r.reaches.take i).length ≤ 20 := by rw [List.length_take]; omega
  omega
theorem part_as {l : List Int} {v : Value} {i : Nat} {w : World} {y : Int} (hy : y = partI l i) (h : Calls Try.prog 22 #[v, .int .i64 (i : Nat)] w fun e w' => e = .returned (.int .u8 (partI l i)) ∧ Below w.heap.size w w') : Calls Try.prog 22 #[v, .int .i64 (i : Nat)] w fun e w' => e = .returned (.int .u8 y) ∧ Below w.heap.size w w' := by
  rw [hy]; exact h
theorem pick_as {b : Bd} {y lo : Int} {w : World} (hl : lo = pickI b y) (h : Calls Try.prog 21 #[.agg #[.int .i64 b.lo, .int .i64 b.hi], .int .u8 y] w fun e w' => e = .returned (.int .i64 (pickI b y)) ∧ Below w.heap.size w w') : Calls Try.prog 21 #[.agg #[.int .i64 b.lo, .int .i64 b.hi], .int .u8 y] w fun e w' => e = .returned (.int .i64 lo) ∧ Below w.heap.size w w' := by
  rw [hl]; exact h
theorem wrap_u8 {a : Int} (h0 : 0 ≤ a) (h1 : a ≤ 255) : IntKind.u8.wrap a = a := by
  exact IntWalk.u8_in _ ⟨h0, h1⟩
set_option maxHeartbeats 4000000 in
set_option maxRecDepth 100000 in
theorem narrows_law (rv : River) (sides : List (List Bd)) (v u s : Value) (vs ss : List Value) (bs zs es gs : List Int) (vb v2 ve vg : Value) (tx : Int) (m0 m1 m2 : Nat) (h0 : m0 ≤ 65535) (h1 : m1 ≤ 65535) (h2 : m2 ≤ 65535) (w : World) (B : Nat) (hr : RdRiver w B v u rv vs) (hs : RdSides w B s sides ss) (hB : B ≤ w.heap.size) (hw1 : Rd w B 1 vb bs.length (u8s bs)) (hw2 : Rd w B 1 v2 zs.length (u8s zs)) (hw3 : Rd w B 1 ve es.length (u8s es)) (hw4 : Rd w B 1 vg gs.length (u8s gs)) (hv1 : ∀ y ∈ bs, 0 ≤ y ∧ y ≤ 255) (hv2 : ∀ y ∈ zs, 0 ≤ y ∧ y ≤ 255) (hv3 : ∀ y ∈ es, 0 ≤ y ∧ y ≤ 255) (hv4 : ∀ y ∈ gs, 0 ≤ y ∧ y ≤ 255) (hn1 : bs.length ≤ 9223372036854775807) (hn2 : zs.length ≤ 9223372036854775807) (hn3 : es.length ≤ 9223372036854775807) (hn4 : gs.length ≤ 9223372036854775807) :
    Calls Try.prog 12 #[.agg #[v, u, s], .agg #[vb, v2, ve, vg, .int .u8 tx], .agg #[.int .u16 (m0 : Nat), .int .u16 (m1 : Nat), .int .u16 (m2 : Nat)]] w fun e w' => e = .returned (.bool true) ∧ Below w.heap.size w w' := by
  obtain ⟨A, c, rfl, _⟩ := hr.reaches.shape
  obtain ⟨A', c', rfl, _⟩ := hr.shoals.shape
  obtain ⟨D, d, rfl, _⟩ := hs.rd.shape
  have hbw := Below.refl w.heap.size w
  obtain ⟨Ab, cb, rfl, _⟩ := hw1.shape
  obtain ⟨As2, cs2, rfl, _⟩ := hw2.shape
  obtain ⟨Ae, ce, rfl, _⟩ := hw3.shape
  obtain ⟨Ag, cg, rfl, _⟩ := hw4.shape
  refine EC.enter 416 Try.func12 rfl rfl rfl ?_
  refine EC.seq ?_
  refine EC.region ?_
  refine EL.newP (bx_54 rfl) rfl ?_
  intro g1 w1 q1 hb1 hg1 hl1
  have bhbw_1 := Nat.le_trans hbw.size hg1
  replace hbw := Below.on hbw hb1 hbw.size
  clear hb1 hg1 hl1
  refine EL.newP (bx_40 rfl) rfl ?_
  intro g2 w2 q2 hb2 hg2 hl2
  have n1_2 : g1 ≠ g2 := Nat.ne_of_lt (Nat.lt_of_lt_of_le q1.lt hg2)
  have bhbw_2 := Nat.le_trans hbw.size hg2
  replace q1 := q1.below hb2 q1.lt
  replace hbw := Below.on hbw hb2 hbw.size
  clear hb2 hg2 hl2
  refine EL.newP (bx_84 rfl) rfl ?_
  intro g3 w3 q3 hb3 hg3 hl3
  have n1_3 : g1 ≠ g3 := Nat.ne_of_lt (Nat.lt_of_lt_of_le q1.lt hg3)
  have n2_3 : g2 ≠ g3 := Nat.ne_of_lt (Nat.lt_of_lt_of_le q2.lt hg3)
  have bhbw_3 := Nat.le_trans hbw.size hg3
  replace q1 := q1.below hb3 q1.lt
  replace q2 := q2.below hb3 q2.lt
  replace hbw := Below.on hbw hb3 hbw.size
  clear hb3 hg3 hl3
  refine EL.val (x_assign rfl) rfl ?_
  refine EL.nil ?_
  refine EX.seq ?_
  refine EC.seq ?_
  refine EC.seq ?_
  refine EC.region ?_
  refine EL.val (ld_54 rfl (q1.at (j := 0) rfl) (q1.at (j := 1) rfl) (q1.at (j := 2) rfl)) rfl ?_
  refine EL.call (cl_44 rfl) rfl (valid_any rv sides _ _ _ vs ss _ _ (hr.below (hbw.mono hB)) (hs.below (hbw.mono hB)) (Nat.le_trans hB hbw.size)) ?_
  rintro e w_l ⟨rfl | ⟨rfl, hfine, hst⟩, hc_⟩
  ·
    refine ⟨_, rfl, ?_⟩
    replace q1 := q1.below hc_ q1.lt
    replace q2 := q2.below hc_ q2.lt
    replace q3 := q3.below hc_ q3.lt
    replace hbw := Below.on hbw hc_ hbw.size
    clear hc_
    refine EL.val (x_not rfl) rfl ?_
    refine EL.val (x_move rfl) rfl ?_
    refine EL.skip rfl rfl rfl rfl ?_
    refine EL.skip rfl rfl rfl rfl ?_
    refine EL.skip rfl rfl rfl rfl ?_
    refine EL.skip rfl rfl rfl rfl ?_
    refine EL.skip rfl rfl rfl rfl ?_
    refine EL.val (x_pick_t rfl rfl) rfl ?_
    refine EL.nil ?_
    refine EX.seq ?_
    refine EC.yes rfl ?_
    refine EC.seq ?_
    refine EC.region ?_
    refine EL.call cl_16 rfl (known_any _) ?_
    rintro e w4 ⟨rfl, hc4⟩
    refine ⟨_, rfl, ?_⟩
    replace q1 := q1.below hc4 q1.lt
    replace q2 := q2.below hc4 q2.lt
    replace q3 := q3.below hc4 q3.lt
    replace hbw := Below.on hbw hc4 hbw.size
    clear hc4
    refine EL.val (x_assign rfl) rfl ?_
    refine EL.nil ?_
    refine EX.seq ?_
    refine EC.ret ?_
    refine EX.seq_ret ?_
    exact EX.done (res1 rfl rfl) ⟨rfl, hbw⟩
  ·
    have f1 := hfine.nreaches
    have f2 := hfine.nshoals
    have f3 := hfine.curves
    have f4 := hfine.sidesB
    have f5 := hfine.nsides
    have hS := (startErr_ok hst).2
    have hok := (startErr_ok hst).1
    have hhr := hS.hours
    have hmany := hS.many
    have hsm := hS.river.some
    have hplc := hS.river.places
    obtain ⟨bR, oR, rfl, _, _⟩ := reaches_cells hr.reaches 0 (by omega)
    obtain ⟨bS, oS, rfl, _, hsc⟩ := sides_all hs (by omega)
    have hs0 := hs.side 0 (by omega)
    obtain ⟨A0, ca0, e0, _⟩ := hs0.shape
    have c0 := hsc 0 (by omega)
    rw [e0] at c0
    refine ⟨_, rfl, ?_⟩
    replace q1 := q1.below hc_ q1.lt
    replace q2 := q2.below hc_ q2.lt
    replace q3 := q3.below hc_ q3.lt
    replace hbw := Below.on hbw hc_ hbw.size
    clear hc_
    refine EL.val (x_not rfl) rfl ?_
    refine EL.val (x_move rfl) rfl ?_
    refine EL.valg rfl rfl (fa_54_0 rfl) rfl ?_
    refine EL.valg rfl rfl (fa_47_1 rfl) rfl ?_
    refine EL.valg rfl rfl (ld_45 rfl (q1.at (j := 1) rfl)) rfl ?_
    refine EL.valg rfl rfl (ln_45 rfl) rfl ?_
    by_cases h40 : 40 ≤ rv.shoals.length
    ·
      refine EL.valg rfl rfl (x_geq rfl rfl (by first | assumption | exact decide_eq_true (by omega))) rfl ?_
      refine EL.val (x_pick_f rfl rfl) rfl ?_
      refine EL.nil ?_
      refine EX.seq ?_
      refine EC.yes rfl ?_
      refine EC.seq ?_
      refine EC.region ?_
      refine EL.call cl_16 rfl (known_any _) ?_
      rintro e w5 ⟨rfl, hc5⟩
      refine ⟨_, rfl, ?_⟩
      replace q1 := q1.below hc5 q1.lt
      replace q2 := q2.below hc5 q2.lt
      replace q3 := q3.below hc5 q3.lt
      replace hbw := Below.on hbw hc5 hbw.size
      clear hc5
      refine EL.val (x_assign rfl) rfl ?_
      refine EL.nil ?_
      refine EX.seq ?_
      refine EC.ret ?_
      refine EX.seq_ret ?_
      exact EX.done (res1 rfl rfl) ⟨rfl, hbw⟩
    ·
      refine EL.valg rfl rfl (x_geq rfl rfl (by first | assumption | exact decide_eq_false (by omega))) rfl ?_
      refine EL.val (x_pick_f rfl rfl) rfl ?_
      refine EL.nil ?_
      refine EX.seq ?_
      refine EC.no rfl ?_
      refine EC.skip ?_
      refine EX.seq ?_
      refine EC.seq ?_
      refine EC.region ?_
      refine EL.val (x_assign rfl) rfl ?_
      refine EL.nil ?_
      refine EX.seq ?_
      refine EC.seq ?_
      refine EC.seq ?_
      refine EC.region ?_
      refine EL.val (x_assign rfl) rfl ?_
      refine EL.nil ?_
      refine EX.seq ?_
      refine EC.block ?_
      refine EC.loopD [7, 8, 43, 44, 45, 46, 47, 48, 49, 50, 51, 52, 53, 54, 55, 56, 57, 58, 59] (fun x : Nat => [(7, .int .i64 (placesOf (rv.reaches.take x))), (8, .int .i64 (x : Nat))]) (fun x W => x ≤ rv.reaches.length ∧ Blk W g1 54 #[.slice (some ⟨bR, oR, none⟩) rv.reaches.length c, .slice A' rv.shoals.length c', .slice (some ⟨bS, oS, none⟩) sides.length d] ∧ Blk W g2 40 #[.slice Ab bs.length cb, .slice As2 zs.length cs2, .slice Ae es.length ce, .slice Ag gs.length cg, .int .u8 tx] ∧ Blk W g3 84 #[.int .u16 (m0 : Nat), .int .u16 (m1 : Nat), .int .u16 (m2 : Nat)] ∧ Below w.heap.size w W) (fun x => rv.reaches.length - x) 0 ⟨Nat.zero_le _, q1, q2, q3, hbw⟩ ⟨rfl, rfl, trivial⟩ ?_
      clear q1 q2 q3 hbw
      rintro i wi ⟨hi, q1, q2, q3, hbw⟩
      have hpb : 0 ≤ placesOf (rv.reaches.take i) ∧ placesOf (rv.reaches.take i) ≤ 100000 := take_places hS.river i
      by_cases hlt : i < rv.reaches.length
      ·
        obtain ⟨br_, or_, eo_, _, cc⟩ := reaches_cells hr.reaches i hlt
        injection eo_ with eo_
        injection eo_ with eo1 eo2
        subst eo1
        subst eo2
        have hln := (hS.river.reach i hlt).len
        have hps := placesOf_succ hlt
        refine EC.seq ?_
        refine EC.seq ?_
        refine EC.region ?_
        refine EL.val (x_move rfl) rfl ?_
        refine EL.val (fa_54_0 rfl) rfl ?_
        refine EL.val (fa_47_0 rfl) rfl ?_
        refine EL.val (ld_44 rfl (q1.at (j := 0) rfl)) rfl ?_
        refine EL.val (ln_44 rfl) rfl ?_
        refine EL.val (x_lss rfl rfl (by first | assumption | exact decide_eq_true (by omega))) rfl ?_
        refine EL.nil ?_
        refine EX.seq ?_
        refine EC.yes rfl ?_
        refine EC.skip ?_
        refine EX.seq ?_
        refine EC.seq ?_
        refine EC.block ?_
        refine EC.region ?_
        refine EL.val (x_move rfl) rfl ?_
        refine EL.val (fa_54_0 rfl) rfl ?_
        refine EL.val (fa_47_0 rfl) rfl ?_
        refine EL.val (ld_44 rfl (q1.at (j := 0) rfl)) rfl ?_
        refine EL.val (x_move rfl) rfl ?_
        refine EL.val (ix_44 rfl rfl hlt) rfl ?_
        refine EL.val (fa_50_0 rfl) rfl ?_
        refine EL.val (ld_3 rfl (below_load hbw cc.c0)) rfl ?_
        refine EL.val (x_add rfl rfl (by first | assumption | exact IntWalk.i64_in _ ⟨by omega, by omega⟩)) rfl ?_
        refine EL.val (x_assign rfl) rfl ?_
        refine EL.nil ?_
        refine EX.blk ?_
        refine EX.seq ?_
        refine EC.region ?_
        refine EL.val (x_move rfl) rfl ?_
        refine EL.val (x_add rfl rfl (by first | assumption | exact IntWalk.i64_in _ ⟨by omega, by omega⟩)) rfl ?_
        refine EL.val (x_assign rfl) rfl ?_
        refine EL.nil ?_
        refine EX.roundD (i + 1) ⟨agree_of hps.symm rfl, rfl, trivial⟩ (by repeat first | with_reducible exact Sub.refl _ | refine sub_past rfl ?_ | exact Sub.refl _ | refine sub_del rfl ?_ | refine sub_insL_nil ?_) ⟨hlt, q1, q2, q3, hbw⟩ (by omega)
      ·
        obtain rfl : i = rv.reaches.length := by omega
        have htl : rv.reaches.take rv.reaches.length = rv.reaches := List.take_length
        rw [htl]
        clear hpb htl
        refine EC.seq ?_
        refine EC.seq ?_
        refine EC.region ?_
        refine EL.val (x_move rfl) rfl ?_
        refine EL.val (fa_54_0 rfl) rfl ?_
        refine EL.val (fa_47_0 rfl) rfl ?_
        refine EL.val (ld_44 rfl (q1.at (j := 0) rfl)) rfl ?_
        refine EL.val (ln_44 rfl) rfl ?_
        refine EL.val (x_lss rfl rfl (by first | assumption | exact decide_eq_false (by omega))) rfl ?_
        refine EL.nil ?_
        refine EX.seq ?_
        refine EC.no rfl ?_
        refine EC.exit ?_
        refine EX.seq_exit ?_
        refine EX.seq_exit ?_
        refine EX.blk_here ?_
        refine EX.seq ?_
        refine EC.seq ?_
        obtain ⟨pp, hpp⟩ : ∃ z, (((m0 : Nat) : Int) * 7).tmod (placesOf rv.reaches) = z := ⟨_, rfl⟩
        obtain ⟨tt, htt⟩ : ∃ z, ((m1 : Nat) : Int).tmod (((sides.getD 0 []).length : Nat) : Int) = z := ⟨_, rfl⟩
        have hpp1 : 0 ≤ pp := by rw [← hpp]; exact Int.tmod_nonneg _ (by omega)
        have hpp2 : pp < placesOf rv.reaches := by rw [← hpp]; exact Int.tmod_lt_of_pos _ (by omega)
        have htt1 : 0 ≤ tt := by rw [← htt]; exact Int.tmod_nonneg _ (by omega)
        have htt2 : tt < (((sides.getD 0 []).length : Nat) : Int) := by rw [← htt]; exact Int.tmod_lt_of_pos _ (by omega)
        refine EC.regionQ (by kernel_rfl) (by kernel_rfl) ?_
        refine EQ.val (fun _ hw => (ixa_84 (k := 0) rfl rfl (by omega))) rfl ?_
        refine EQ.val (fun _ hw => (ld_83 rfl (below_load hw (q3.at (j := 0) rfl)))) rfl ?_
        refine EQ.val (fun _ hw => (cv_83_3 rfl (IntWalk.i64_in _ ⟨by omega, by omega⟩))) rfl ?_
        refine EQ.val (fun _ hw => (x_mul rfl rfl (by first | assumption | exact IntWalk.i64_in _ ⟨by omega, by omega⟩))) rfl ?_
        refine EQ.val (fun _ hw => (x_move rfl)) rfl ?_
        refine EQ.val (fun _ hw => (x_rem rfl rfl (by omega) hpp)) rfl ?_
        refine EQ.val (fun _ hw => (ixa_84 (k := 1) rfl rfl (by omega))) rfl ?_
        refine EQ.val (fun _ hw => (ld_83 rfl (below_load hw (q3.at (j := 1) rfl)))) rfl ?_
        refine EQ.val (fun _ hw => (cv_83_3 rfl (IntWalk.i64_in _ ⟨by omega, by omega⟩))) rfl ?_
        refine EQ.val (fun _ hw => (fa_54_1 rfl)) rfl ?_
        refine EQ.val (fun _ hw => (ld_52 rfl (below_load hw (q1.at (j := 2) rfl)))) rfl ?_
        refine EQ.val (fun _ hw => (ix_52 (k := 0) rfl rfl (by omega))) rfl ?_
        refine EQ.val (fun _ hw => (ld_28 rfl (below_load hw (below_load hbw c0)))) rfl ?_
        refine EQ.val (fun _ hw => (ln_28 rfl)) rfl ?_
        refine EQ.val (fun _ hw => (x_rem rfl rfl (by omega) htt)) rfl ?_
        refine EQ.val (fun _ hw => (x_assign rfl)) rfl ?_
        refine EQ.val (fun _ hw => (x_assign rfl)) rfl ?_
        refine EQ.fin (fun w6 hw_ => ?_)
        replace q1 := q1.below hw_ q1.lt
        replace q2 := q2.below hw_ q2.lt
        replace q3 := q3.below hw_ q3.lt
        replace hbw := Below.on hbw hw_ hbw.size
        clear hw_
        refine EX.seq ?_
        refine EC.seq ?_
        have szb := hbw.size
        have lt_1 := q1.lt
        have lt_2 := q2.lt
        have lt_3 := q3.lt
        refine EC.regionS [[], [0], [0, 1], [], [3], [0, 1, 2, 3, 4], [0, 1, 2, 3, 4, 5], [], [7], [0, 1, 2, 3, 4, 5, 7, 8], [], [10], [0, 1, 2, 3, 4, 5, 7, 8, 9, 10, 11], [0, 1, 2, 3, 4, 5, 7, 8, 9, 10, 11, 12], [], [], [0, 1, 2, 3, 4, 5, 6, 7, 8, 9, 10, 11, 12, 14, 15], [0, 1, 2, 3, 4, 5, 6, 7, 8, 9, 10, 11, 12, 13, 14, 15, 16]] 17 [14, 15] [16] (fun _ w_ => Below w6.heap.size w6 w_) (phiS (fun i_ r => match i_ with | 0 => r 0 = .pointer (some ⟨g1, 0, none⟩) | 1 => r 1 = .agg #[.slice (some ⟨bR, oR, none⟩) rv.reaches.length c, .slice A' rv.shoals.length c'] | 3 => r 3 = .pointer (some ⟨g1, 2, none⟩) | 4 => r 4 = .slice (some ⟨bS, oS, none⟩) sides.length d | 7 => r 7 = .pointer (some ⟨g1, 0, none⟩) | 8 => r 8 = .agg #[.slice (some ⟨bR, oR, none⟩) rv.reaches.length c, .slice A' rv.shoals.length c'] | 10 => r 10 = .pointer (some ⟨g1, 2, none⟩) | 11 => r 11 = .slice (some ⟨bS, oS, none⟩) sides.length d | _ => True) [(2, fun _ r w_ => ∃ A c B d vs, r 2 = .agg #[.slice A rv.reaches.length c, .slice B rv.shoals.length d] ∧ OwnRiver w_ w6.heap.size (.slice A rv.reaches.length c) (.slice B rv.shoals.length d) rv vs), (5, fun _ r w_ => ∃ D k ss, r 5 = .slice D sides.length k ∧ OwnSides w_ w6.heap.size (.slice D sides.length k) sides ss ∧ PW ss), (6, fun _ r w_ => ∃ A c B d D k, r 6 = .agg #[.slice A rv.reaches.length c, .slice B rv.shoals.length d, .slice D sides.length k] ∧ r 2 = .agg #[.slice A rv.reaches.length c, .slice B rv.shoals.length d] ∧ r 5 = .slice D sides.length k), (9, fun _ r w_ => ∃ A c B d vs A2 c2 B2 d2 vs2, r 9 = .agg #[.slice A rv.reaches.length c, .slice B rv.shoals.length d] ∧ OwnRiver w_ w6.heap.size (.slice A rv.reaches.length c) (.slice B rv.shoals.length d) rv vs ∧ r 2 = .agg #[.slice A2 rv.reaches.length c2, .slice B2 rv.shoals.length d2] ∧ OwnRiver w_ w6.heap.size (.slice A2 rv.reaches.length c2) (.slice B2 rv.shoals.length d2) rv vs2 ∧ Apart (.slice B2 rv.shoals.length d2) (.slice B rv.shoals.length d)), (12, fun _ r w_ => ∃ D k ss D5 k5 ss5, r 12 = .slice D sides.length k ∧ OwnSides w_ w6.heap.size (.slice D sides.length k) sides ss ∧ PW ss ∧ r 5 = .slice D5 sides.length k5 ∧ OwnSides w_ w6.heap.size (.slice D5 sides.length k5) sides ss5 ∧ PW ss5 ∧ ∀ i j, i < ss5.length → j < ss.length → Apart (ss5.getD i undef) (ss.getD j undef)), (13, fun _ r w_ => ∃ A c B d D k, r 13 = .agg #[.slice A rv.reaches.length c, .slice B rv.shoals.length d, .slice D sides.length k] ∧ r 9 = .agg #[.slice A rv.reaches.length c, .slice B rv.shoals.length d] ∧ r 12 = .slice D sides.length k), (14, fun fl r w_ => ∃ g_, r 14 = .pointer (some ⟨g_, 0, none⟩) ∧ w6.heap.size ≤ g_ ∧ (fl 16 = false → Blk w_ g_ 54 #[.slice none 0 0, .slice none 0 0, .slice none 0 0])), (15, fun _ r w_ => ∃ g_, r 15 = .pointer (some ⟨g_, 0, none⟩) ∧ w6.heap.size ≤ g_ ∧ Blk w_ g_ 54 #[.slice none 0 0, .slice none 0 0, .slice none 0 0]), (16, fun _ r w_ => ∃ g A c B d D k, r 14 = .pointer (some ⟨g, 0, none⟩) ∧ r 6 = .agg #[.slice A rv.reaches.length c, .slice B rv.shoals.length d, .slice D sides.length k] ∧ Blk w_ g 54 #[.slice A rv.reaches.length c, .slice B rv.shoals.length d, .slice D sides.length k])]) (by kernel_rfl) rfl rfl (by intro i hi; simp at hi; first | (subst hi; exact ⟨by simp, by omega⟩) | (rcases hi with rfl | rfl | rfl <;> exact ⟨by simp, by omega⟩) | (rcases hi with rfl | rfl <;> exact ⟨by simp, by omega⟩)) (base_below w6) (phiS_cons (fun _ _ _ _ hb ⟨A, c, B, d, vs, h1, h2⟩ => ⟨A, c, B, d, vs, h1, h2.below hb⟩) (phiS_cons (fun _ _ _ _ hb ⟨D, k, ss, h1, h2, h3⟩ => ⟨D, k, ss, h1, OwnSides.below h2 hb, h3⟩) (phiS_cons (fun _ _ _ _ _ h => h) (phiS_cons (fun _ _ _ _ hb ⟨A, c, B, d, vs, A2, c2, B2, d2, vs2, h1, h2, h3, h4, h5⟩ => ⟨A, c, B, d, vs, A2, c2, B2, d2, vs2, h1, h2.below hb, h3, h4.below hb, h5⟩) (phiS_cons (fun _ _ _ _ hb ⟨D, k, ss, D5, k5, ss5, h1, h2, h3, h4, h5, h6⟩ => ⟨D, k, ss, D5, k5, ss5, h1, OwnSides.below h2 hb, h3, h4, OwnSides.below h5 hb, h6⟩) (phiS_cons (fun _ _ _ _ _ h => h) (phiS_cons monoS_alloc (phiS_cons monoS_alloc0 (phiS_cons (fun _ _ _ _ hb ⟨g, A, c, B, d, D, k, h1, h2, h3⟩ => ⟨g, A, c, B, d, D, k, h1, h2, h3.below hb h3.lt⟩) (phiS_nil)))))))))) (fun i_ hi_ hs_ => ?_) (fun i_ hi_ => ?_) ?_
        · match i_, hi_ with
          | 0, _ =>
            intro val fl w1 a hb ha hd hfl
            have ha := ha.sub (Sub.ins (d := 3) (Sub.nil _) rfl)
            exact ss_val ha rfl rfl (fa_54_0 rfl) rfl rfl
          | 1, _ =>
            intro val fl w1 a hb ha hd hfl
            have e0 : val 0 = .pointer (some ⟨g1, 0, none⟩) := hd 0 (memB_mem.1 rfl)
            have ha := ha.sub (Sub.ins (d := 75) (Sub.nil _) (dep_get rfl e0))
            exact ss_val ha rfl rfl (ld_47 rfl ((q1.below hb q1.lt).at (j := 0) rfl) ((q1.below hb q1.lt).at (j := 1) rfl)) rfl rfl
          | 2, _ =>
            intro val fl w1 a hb ha hd hfl
            have e1 : val 1 = .agg #[.slice (some ⟨bR, oR, none⟩) rv.reaches.length c, .slice A' rv.shoals.length c'] := hd 1 (memB_mem.1 rfl)
            have ha := ha.sub (Sub.ins (d := 76) (Sub.nil _) (dep_get rfl e1))
            refine ss_call ha rfl rfl (cl_24 rfl) (copied_OR rv _ _ vs _ B (hr.below ((Below.on hbw hb hbw.size).mono hB)) (Nat.le_trans hB (Below.on hbw hb hbw.size).size) (by omega) (by omega) f3) rfl ?_
            rintro e w' ⟨⟨v1, u1, vs1, rfl, hcp⟩, hb'⟩
            obtain ⟨A_, c_, rfl, _⟩ := hcp.rd.reaches.shape
            obtain ⟨B_, d_, rfl, _⟩ := hcp.rd.shoals.shape
            exact ⟨_, rfl, hb', _, _, _, _, _, rfl, hcp.less hb.size⟩
          | 3, _ =>
            intro val fl w1 a hb ha hd hfl
            have ha := ha.sub (Sub.ins (d := 3) (Sub.nil _) rfl)
            exact ss_val ha rfl rfl (fa_54_1 rfl) rfl rfl
          | 4, _ =>
            intro val fl w1 a hb ha hd hfl
            have e3 : val 3 = .pointer (some ⟨g1, 2, none⟩) := hd 3 (memB_mem.1 rfl)
            have ha := ha.sub (Sub.ins (d := 78) (Sub.nil _) (dep_get rfl e3))
            exact ss_val ha rfl rfl (ld_52 rfl ((q1.below hb q1.lt).at (j := 2) rfl)) rfl rfl
          | 5, _ =>
            intro val fl w1 a hb ha hd hfl
            have e4 : val 4 = .slice (some ⟨bS, oS, none⟩) sides.length d := hd 4 (memB_mem.1 rfl)
            have ha := ha.sub (Sub.ins (d := 79) (Sub.nil _) (dep_get rfl e4))
            refine ss_call ha rfl rfl (cl_34 rfl) (forecast_PS sides _ ss _ B (hs.below ((Below.on hbw hb hbw.size).mono hB)) (Nat.le_trans hB (Below.on hbw hb hbw.size).size) (by omega) f4) rfl ?_
            rintro e w' ⟨⟨v1, ss1, rfl, hcp, hpw⟩, hb'⟩
            obtain ⟨D_, k_, rfl, _⟩ := hcp.rd.rd.shape
            exact ⟨_, rfl, hb', _, _, _, rfl, Rows.less hcp hb.size, hpw⟩
          | 6, _ =>
            intro val fl w1 a hb ha hd hfl
            obtain ⟨A2_, c2_, B2_, d2_, vs2_, e2, q2_⟩ := hd 2 (memB_mem.1 rfl)
            obtain ⟨D5_, k5_, ss5_, e5, q5_, p5_⟩ := hd 5 (memB_mem.1 rfl)
            have ha := ha.sub (Sub.ins (d := 80) (Sub.ins (d := 77) (Sub.nil _) (dep_get rfl e2)) (dep_get rfl e5))
            exact ss_val ha rfl rfl (bd_54_0_1 rfl rfl) ⟨_, _, _, _, _, _, rfl, e2, e5⟩ rfl
          | 7, _ =>
            intro val fl w1 a hb ha hd hfl
            have ha := ha.sub (Sub.ins (d := 3) (Sub.nil _) rfl)
            exact ss_val ha rfl rfl (fa_54_0 rfl) rfl rfl
          | 8, _ =>
            intro val fl w1 a hb ha hd hfl
            have e7 : val 7 = .pointer (some ⟨g1, 0, none⟩) := hd 7 (memB_mem.1 rfl)
            have ha := ha.sub (Sub.ins (d := 82) (Sub.nil _) (dep_get rfl e7))
            exact ss_val ha rfl rfl (ld_47 rfl ((q1.below hb q1.lt).at (j := 0) rfl) ((q1.below hb q1.lt).at (j := 1) rfl)) rfl rfl
          | 9, _ =>
            intro val fl w1 a hb ha hd hfl
            have e8 : val 8 = .agg #[.slice (some ⟨bR, oR, none⟩) rv.reaches.length c, .slice A' rv.shoals.length c'] := hd 8 (memB_mem.1 rfl)
            obtain ⟨A2_, c2_, B2_, d2_, vs2_, e2, q2_⟩ := hd 2 (memB_mem.1 rfl)
            have ha := ha.sub (Sub.ins (d := 83) (Sub.nil _) (dep_get rfl e8))
            refine ss_call ha rfl rfl (cl_24 rfl) (copied_OR rv _ _ vs _ B (hr.below ((Below.on hbw hb hbw.size).mono hB)) (Nat.le_trans hB (Below.on hbw hb hbw.size).size) (by omega) (by omega) f3) rfl ?_
            rintro e w' ⟨⟨v1, u1, vs1, rfl, hcp⟩, hb'⟩
            obtain ⟨A_, c_, rfl, _⟩ := hcp.rd.reaches.shape
            obtain ⟨B_, d_, rfl, _⟩ := hcp.rd.shoals.shape
            exact ⟨_, rfl, hb', _, _, _, _, _, _, _, _, _, _, rfl, hcp.less hb.size, e2, q2_.below hb', fun g h1 h2 => absurd (q2_.sh.lt g h1).2 (by have := (hcp.sh.lt g h2).1; omega)⟩
          | 10, _ =>
            intro val fl w1 a hb ha hd hfl
            have ha := ha.sub (Sub.ins (d := 3) (Sub.nil _) rfl)
            exact ss_val ha rfl rfl (fa_54_1 rfl) rfl rfl
          | 11, _ =>
            intro val fl w1 a hb ha hd hfl
            have e10 : val 10 = .pointer (some ⟨g1, 2, none⟩) := hd 10 (memB_mem.1 rfl)
            have ha := ha.sub (Sub.ins (d := 85) (Sub.nil _) (dep_get rfl e10))
            exact ss_val ha rfl rfl (ld_52 rfl ((q1.below hb q1.lt).at (j := 2) rfl)) rfl rfl
          | 12, _ =>
            intro val fl w1 a hb ha hd hfl
            have e11 : val 11 = .slice (some ⟨bS, oS, none⟩) sides.length d := hd 11 (memB_mem.1 rfl)
            obtain ⟨D5_, k5_, ss5_, e5, q5_, p5_⟩ := hd 5 (memB_mem.1 rfl)
            have ha := ha.sub (Sub.ins (d := 86) (Sub.nil _) (dep_get rfl e11))
            refine ss_call ha rfl rfl (cl_34 rfl) (forecast_PS sides _ ss _ B (hs.below ((Below.on hbw hb hbw.size).mono hB)) (Nat.le_trans hB (Below.on hbw hb hbw.size).size) (by omega) f4) rfl ?_
            rintro e w' ⟨⟨v1, ss1, rfl, hcp, hpw⟩, hb'⟩
            obtain ⟨D_, k_, rfl, _⟩ := hcp.rd.rd.shape
            exact ⟨_, rfl, hb', _, _, _, _, _, _, rfl, Rows.less hcp hb.size, hpw, e5, OwnSides.below q5_ hb', p5_, fun i j hi hj g h1 h2 => absurd ((Rows.each q5_ i (by rw [rowsB_len, ← own_len q5_]; exact hi)).lt g h1).2 (by have := ((Rows.each hcp j (by rw [rowsB_len, ← own_len hcp]; exact hj)).lt g h2).1; omega)⟩
          | 13, _ =>
            intro val fl w1 a hb ha hd hfl
            obtain ⟨A9_, c9_, B9_, d9_, vs9_, A29_, c29_, B29_, d29_, vs29_, e9, q9_, x9_, q29_, p9_⟩ := hd 9 (memB_mem.1 rfl)
            obtain ⟨D12_, k12_, ss12_, D512_, k512_, ss512_, e12, q12_, p12_, x12_, q512_, p512_, ap12_⟩ := hd 12 (memB_mem.1 rfl)
            have ha := ha.sub (Sub.ins (d := 87) (Sub.ins (d := 84) (Sub.nil _) (dep_get rfl e9)) (dep_get rfl e12))
            exact ss_val ha rfl rfl (bd_54_0_1 rfl rfl) ⟨_, _, _, _, _, _, rfl, e9, e12⟩ rfl
          | 14, _ =>
            intro val fl w1 a hb ha hd hfl
            have ha := ha.sub (Sub.nil _)
            exact ss_newP ha rfl rfl al_54 (fun g w' hq _ hge => ⟨g, rfl, Nat.le_trans hb.size hge, fun _ => hq⟩)
          | 15, _ =>
            intro val fl w1 a hb ha hd hfl
            have ha := ha.sub (Sub.nil _)
            exact ss_newP ha rfl rfl al_54 (fun g w' hq _ hge => ⟨g, rfl, Nat.le_trans hb.size hge, hq⟩)
          | 16, _ =>
            exact absurd (by simp) hs_
          | k + 17, h => exact absurd h (by omega)
        · simp only [List.mem_singleton] at hi_; subst hi_
          intro val fl w1 a hb hfi ha hd hfl
          obtain ⟨g14_, e14, hg14_, q14_⟩ := hd 14 (memB_mem.1 rfl)
          change val 14 = _ at e14
          obtain ⟨A6_, c6_, B6_, d6_, D6_, k6_, e6, x6_, y6_⟩ := hd 6 (memB_mem.1 rfl)
          have ha := ha.sub (Sub.ins (d := 81) (Sub.ins (d := 11) (Sub.nil _) (dep_get rfl e14)) (dep_get rfl e6))
          refine ts_store ha rfl rfl rfl (q14_ hfi) sz_54 rfl rfl rfl rfl ?_
          intro w' hq hgr
          refine ⟨undef, rfl, hgr.size, below_store hb hgr hg14_, ⟨g14_, _, _, _, _, _, _, e14, e6, hq⟩, fun j _ hj hn hA => ?_⟩
          exact phiS_cons_st (C := fun j => j ≠ 16 ∧ 16 ∉ clsAt [[], [0], [0, 1], [], [3], [0, 1, 2, 3, 4], [0, 1, 2, 3, 4, 5], [], [7], [0, 1, 2, 3, 4, 5, 7, 8], [], [10], [0, 1, 2, 3, 4, 5, 7, 8, 9, 10, 11], [0, 1, 2, 3, 4, 5, 7, 8, 9, 10, 11, 12], [], [], [0, 1, 2, 3, 4, 5, 6, 7, 8, 9, 10, 11, 12, 14, 15], [0, 1, 2, 3, 4, 5, 6, 7, 8, 9, 10, 11, 12, 13, 14, 15, 16]] j ∧ ∀ p ∈ [14, 15], (p = j ∨ p ∈ clsAt [[], [0], [0, 1], [], [3], [0, 1, 2, 3, 4], [0, 1, 2, 3, 4, 5], [], [7], [0, 1, 2, 3, 4, 5, 7, 8], [], [10], [0, 1, 2, 3, 4, 5, 7, 8, 9, 10, 11], [0, 1, 2, 3, 4, 5, 7, 8, 9, 10, 11, 12], [], [], [0, 1, 2, 3, 4, 5, 6, 7, 8, 9, 10, 11, 12, 14, 15], [0, 1, 2, 3, 4, 5, 6, 7, 8, 9, 10, 11, 12, 13, 14, 15, 16]] j) → ∀ q ∈ [14, 15], (q = 16 ∨ q ∈ clsAt [[], [0], [0, 1], [], [3], [0, 1, 2, 3, 4], [0, 1, 2, 3, 4, 5], [], [7], [0, 1, 2, 3, 4, 5, 7, 8], [], [10], [0, 1, 2, 3, 4, 5, 7, 8, 9, 10, 11], [0, 1, 2, 3, 4, 5, 7, 8, 9, 10, 11, 12], [], [], [0, 1, 2, 3, 4, 5, 6, 7, 8, 9, 10, 11, 12, 14, 15], [0, 1, 2, 3, 4, 5, 6, 7, 8, 9, 10, 11, 12, 13, 14, 15, 16]] 16) → p ≠ q → val p ≠ val q) (fun _ ⟨A, c, B, d, vs, h1, h2⟩ => ⟨A, c, B, d, vs, h1, h2.type (q14_ hfi) rfl rfl rfl hgr⟩) (phiS_cons_st (C := fun j => j ≠ 16 ∧ 16 ∉ clsAt [[], [0], [0, 1], [], [3], [0, 1, 2, 3, 4], [0, 1, 2, 3, 4, 5], [], [7], [0, 1, 2, 3, 4, 5, 7, 8], [], [10], [0, 1, 2, 3, 4, 5, 7, 8, 9, 10, 11], [0, 1, 2, 3, 4, 5, 7, 8, 9, 10, 11, 12], [], [], [0, 1, 2, 3, 4, 5, 6, 7, 8, 9, 10, 11, 12, 14, 15], [0, 1, 2, 3, 4, 5, 6, 7, 8, 9, 10, 11, 12, 13, 14, 15, 16]] j ∧ ∀ p ∈ [14, 15], (p = j ∨ p ∈ clsAt [[], [0], [0, 1], [], [3], [0, 1, 2, 3, 4], [0, 1, 2, 3, 4, 5], [], [7], [0, 1, 2, 3, 4, 5, 7, 8], [], [10], [0, 1, 2, 3, 4, 5, 7, 8, 9, 10, 11], [0, 1, 2, 3, 4, 5, 7, 8, 9, 10, 11, 12], [], [], [0, 1, 2, 3, 4, 5, 6, 7, 8, 9, 10, 11, 12, 14, 15], [0, 1, 2, 3, 4, 5, 6, 7, 8, 9, 10, 11, 12, 13, 14, 15, 16]] j) → ∀ q ∈ [14, 15], (q = 16 ∨ q ∈ clsAt [[], [0], [0, 1], [], [3], [0, 1, 2, 3, 4], [0, 1, 2, 3, 4, 5], [], [7], [0, 1, 2, 3, 4, 5, 7, 8], [], [10], [0, 1, 2, 3, 4, 5, 7, 8, 9, 10, 11], [0, 1, 2, 3, 4, 5, 7, 8, 9, 10, 11, 12], [], [], [0, 1, 2, 3, 4, 5, 6, 7, 8, 9, 10, 11, 12, 14, 15], [0, 1, 2, 3, 4, 5, 6, 7, 8, 9, 10, 11, 12, 13, 14, 15, 16]] 16) → p ≠ q → val p ≠ val q) (fun _ ⟨D, k, ss, h1, h2, h3⟩ => ⟨D, k, ss, h1, OwnSides.type h2 (q14_ hfi) rfl rfl hgr, h3⟩) (phiS_cons_st (C := fun j => j ≠ 16 ∧ 16 ∉ clsAt [[], [0], [0, 1], [], [3], [0, 1, 2, 3, 4], [0, 1, 2, 3, 4, 5], [], [7], [0, 1, 2, 3, 4, 5, 7, 8], [], [10], [0, 1, 2, 3, 4, 5, 7, 8, 9, 10, 11], [0, 1, 2, 3, 4, 5, 7, 8, 9, 10, 11, 12], [], [], [0, 1, 2, 3, 4, 5, 6, 7, 8, 9, 10, 11, 12, 14, 15], [0, 1, 2, 3, 4, 5, 6, 7, 8, 9, 10, 11, 12, 13, 14, 15, 16]] j ∧ ∀ p ∈ [14, 15], (p = j ∨ p ∈ clsAt [[], [0], [0, 1], [], [3], [0, 1, 2, 3, 4], [0, 1, 2, 3, 4, 5], [], [7], [0, 1, 2, 3, 4, 5, 7, 8], [], [10], [0, 1, 2, 3, 4, 5, 7, 8, 9, 10, 11], [0, 1, 2, 3, 4, 5, 7, 8, 9, 10, 11, 12], [], [], [0, 1, 2, 3, 4, 5, 6, 7, 8, 9, 10, 11, 12, 14, 15], [0, 1, 2, 3, 4, 5, 6, 7, 8, 9, 10, 11, 12, 13, 14, 15, 16]] j) → ∀ q ∈ [14, 15], (q = 16 ∨ q ∈ clsAt [[], [0], [0, 1], [], [3], [0, 1, 2, 3, 4], [0, 1, 2, 3, 4, 5], [], [7], [0, 1, 2, 3, 4, 5, 7, 8], [], [10], [0, 1, 2, 3, 4, 5, 7, 8, 9, 10, 11], [0, 1, 2, 3, 4, 5, 7, 8, 9, 10, 11, 12], [], [], [0, 1, 2, 3, 4, 5, 6, 7, 8, 9, 10, 11, 12, 14, 15], [0, 1, 2, 3, 4, 5, 6, 7, 8, 9, 10, 11, 12, 13, 14, 15, 16]] 16) → p ≠ q → val p ≠ val q) (fun _ h => h) (phiS_cons_st (C := fun j => j ≠ 16 ∧ 16 ∉ clsAt [[], [0], [0, 1], [], [3], [0, 1, 2, 3, 4], [0, 1, 2, 3, 4, 5], [], [7], [0, 1, 2, 3, 4, 5, 7, 8], [], [10], [0, 1, 2, 3, 4, 5, 7, 8, 9, 10, 11], [0, 1, 2, 3, 4, 5, 7, 8, 9, 10, 11, 12], [], [], [0, 1, 2, 3, 4, 5, 6, 7, 8, 9, 10, 11, 12, 14, 15], [0, 1, 2, 3, 4, 5, 6, 7, 8, 9, 10, 11, 12, 13, 14, 15, 16]] j ∧ ∀ p ∈ [14, 15], (p = j ∨ p ∈ clsAt [[], [0], [0, 1], [], [3], [0, 1, 2, 3, 4], [0, 1, 2, 3, 4, 5], [], [7], [0, 1, 2, 3, 4, 5, 7, 8], [], [10], [0, 1, 2, 3, 4, 5, 7, 8, 9, 10, 11], [0, 1, 2, 3, 4, 5, 7, 8, 9, 10, 11, 12], [], [], [0, 1, 2, 3, 4, 5, 6, 7, 8, 9, 10, 11, 12, 14, 15], [0, 1, 2, 3, 4, 5, 6, 7, 8, 9, 10, 11, 12, 13, 14, 15, 16]] j) → ∀ q ∈ [14, 15], (q = 16 ∨ q ∈ clsAt [[], [0], [0, 1], [], [3], [0, 1, 2, 3, 4], [0, 1, 2, 3, 4, 5], [], [7], [0, 1, 2, 3, 4, 5, 7, 8], [], [10], [0, 1, 2, 3, 4, 5, 7, 8, 9, 10, 11], [0, 1, 2, 3, 4, 5, 7, 8, 9, 10, 11, 12], [], [], [0, 1, 2, 3, 4, 5, 6, 7, 8, 9, 10, 11, 12, 14, 15], [0, 1, 2, 3, 4, 5, 6, 7, 8, 9, 10, 11, 12, 13, 14, 15, 16]] 16) → p ≠ q → val p ≠ val q) (fun _ ⟨A, c, B, d, vs, A2, c2, B2, d2, vs2, h1, h2, h3, h4, h5⟩ => ⟨A, c, B, d, vs, A2, c2, B2, d2, vs2, h1, h2.type (q14_ hfi) rfl rfl rfl hgr, h3, h4.type (q14_ hfi) rfl rfl rfl hgr, h5⟩) (phiS_cons_st (C := fun j => j ≠ 16 ∧ 16 ∉ clsAt [[], [0], [0, 1], [], [3], [0, 1, 2, 3, 4], [0, 1, 2, 3, 4, 5], [], [7], [0, 1, 2, 3, 4, 5, 7, 8], [], [10], [0, 1, 2, 3, 4, 5, 7, 8, 9, 10, 11], [0, 1, 2, 3, 4, 5, 7, 8, 9, 10, 11, 12], [], [], [0, 1, 2, 3, 4, 5, 6, 7, 8, 9, 10, 11, 12, 14, 15], [0, 1, 2, 3, 4, 5, 6, 7, 8, 9, 10, 11, 12, 13, 14, 15, 16]] j ∧ ∀ p ∈ [14, 15], (p = j ∨ p ∈ clsAt [[], [0], [0, 1], [], [3], [0, 1, 2, 3, 4], [0, 1, 2, 3, 4, 5], [], [7], [0, 1, 2, 3, 4, 5, 7, 8], [], [10], [0, 1, 2, 3, 4, 5, 7, 8, 9, 10, 11], [0, 1, 2, 3, 4, 5, 7, 8, 9, 10, 11, 12], [], [], [0, 1, 2, 3, 4, 5, 6, 7, 8, 9, 10, 11, 12, 14, 15], [0, 1, 2, 3, 4, 5, 6, 7, 8, 9, 10, 11, 12, 13, 14, 15, 16]] j) → ∀ q ∈ [14, 15], (q = 16 ∨ q ∈ clsAt [[], [0], [0, 1], [], [3], [0, 1, 2, 3, 4], [0, 1, 2, 3, 4, 5], [], [7], [0, 1, 2, 3, 4, 5, 7, 8], [], [10], [0, 1, 2, 3, 4, 5, 7, 8, 9, 10, 11], [0, 1, 2, 3, 4, 5, 7, 8, 9, 10, 11, 12], [], [], [0, 1, 2, 3, 4, 5, 6, 7, 8, 9, 10, 11, 12, 14, 15], [0, 1, 2, 3, 4, 5, 6, 7, 8, 9, 10, 11, 12, 13, 14, 15, 16]] 16) → p ≠ q → val p ≠ val q) (fun _ ⟨D, k, ss, D5, k5, ss5, h1, h2, h3, h4, h5, h6⟩ => ⟨D, k, ss, D5, k5, ss5, h1, OwnSides.type h2 (q14_ hfi) rfl rfl hgr, h3, h4, OwnSides.type h5 (q14_ hfi) rfl rfl hgr, h6⟩) (phiS_cons_st (C := fun j => j ≠ 16 ∧ 16 ∉ clsAt [[], [0], [0, 1], [], [3], [0, 1, 2, 3, 4], [0, 1, 2, 3, 4, 5], [], [7], [0, 1, 2, 3, 4, 5, 7, 8], [], [10], [0, 1, 2, 3, 4, 5, 7, 8, 9, 10, 11], [0, 1, 2, 3, 4, 5, 7, 8, 9, 10, 11, 12], [], [], [0, 1, 2, 3, 4, 5, 6, 7, 8, 9, 10, 11, 12, 14, 15], [0, 1, 2, 3, 4, 5, 6, 7, 8, 9, 10, 11, 12, 13, 14, 15, 16]] j ∧ ∀ p ∈ [14, 15], (p = j ∨ p ∈ clsAt [[], [0], [0, 1], [], [3], [0, 1, 2, 3, 4], [0, 1, 2, 3, 4, 5], [], [7], [0, 1, 2, 3, 4, 5, 7, 8], [], [10], [0, 1, 2, 3, 4, 5, 7, 8, 9, 10, 11], [0, 1, 2, 3, 4, 5, 7, 8, 9, 10, 11, 12], [], [], [0, 1, 2, 3, 4, 5, 6, 7, 8, 9, 10, 11, 12, 14, 15], [0, 1, 2, 3, 4, 5, 6, 7, 8, 9, 10, 11, 12, 13, 14, 15, 16]] j) → ∀ q ∈ [14, 15], (q = 16 ∨ q ∈ clsAt [[], [0], [0, 1], [], [3], [0, 1, 2, 3, 4], [0, 1, 2, 3, 4, 5], [], [7], [0, 1, 2, 3, 4, 5, 7, 8], [], [10], [0, 1, 2, 3, 4, 5, 7, 8, 9, 10, 11], [0, 1, 2, 3, 4, 5, 7, 8, 9, 10, 11, 12], [], [], [0, 1, 2, 3, 4, 5, 6, 7, 8, 9, 10, 11, 12, 14, 15], [0, 1, 2, 3, 4, 5, 6, 7, 8, 9, 10, 11, 12, 13, 14, 15, 16]] 16) → p ≠ q → val p ≠ val q) (fun _ h => h) (phiS_cons_st (C := fun j => j ≠ 16 ∧ 16 ∉ clsAt [[], [0], [0, 1], [], [3], [0, 1, 2, 3, 4], [0, 1, 2, 3, 4, 5], [], [7], [0, 1, 2, 3, 4, 5, 7, 8], [], [10], [0, 1, 2, 3, 4, 5, 7, 8, 9, 10, 11], [0, 1, 2, 3, 4, 5, 7, 8, 9, 10, 11, 12], [], [], [0, 1, 2, 3, 4, 5, 6, 7, 8, 9, 10, 11, 12, 14, 15], [0, 1, 2, 3, 4, 5, 6, 7, 8, 9, 10, 11, 12, 13, 14, 15, 16]] j ∧ ∀ p ∈ [14, 15], (p = j ∨ p ∈ clsAt [[], [0], [0, 1], [], [3], [0, 1, 2, 3, 4], [0, 1, 2, 3, 4, 5], [], [7], [0, 1, 2, 3, 4, 5, 7, 8], [], [10], [0, 1, 2, 3, 4, 5, 7, 8, 9, 10, 11], [0, 1, 2, 3, 4, 5, 7, 8, 9, 10, 11, 12], [], [], [0, 1, 2, 3, 4, 5, 6, 7, 8, 9, 10, 11, 12, 14, 15], [0, 1, 2, 3, 4, 5, 6, 7, 8, 9, 10, 11, 12, 13, 14, 15, 16]] j) → ∀ q ∈ [14, 15], (q = 16 ∨ q ∈ clsAt [[], [0], [0, 1], [], [3], [0, 1, 2, 3, 4], [0, 1, 2, 3, 4, 5], [], [7], [0, 1, 2, 3, 4, 5, 7, 8], [], [10], [0, 1, 2, 3, 4, 5, 7, 8, 9, 10, 11], [0, 1, 2, 3, 4, 5, 7, 8, 9, 10, 11, 12], [], [], [0, 1, 2, 3, 4, 5, 6, 7, 8, 9, 10, 11, 12, 14, 15], [0, 1, 2, 3, 4, 5, 6, 7, 8, 9, 10, 11, 12, 13, 14, 15, 16]] 16) → p ≠ q → val p ≠ val q) (fun _ ⟨g, h1, h2, _⟩ => ⟨g, h1, h2, fun h => by rw [fset_eq] at h; cases h⟩) (phiS_cons_st (C := fun j => j ≠ 16 ∧ 16 ∉ clsAt [[], [0], [0, 1], [], [3], [0, 1, 2, 3, 4], [0, 1, 2, 3, 4, 5], [], [7], [0, 1, 2, 3, 4, 5, 7, 8], [], [10], [0, 1, 2, 3, 4, 5, 7, 8, 9, 10, 11], [0, 1, 2, 3, 4, 5, 7, 8, 9, 10, 11, 12], [], [], [0, 1, 2, 3, 4, 5, 6, 7, 8, 9, 10, 11, 12, 14, 15], [0, 1, 2, 3, 4, 5, 6, 7, 8, 9, 10, 11, 12, 13, 14, 15, 16]] j ∧ ∀ p ∈ [14, 15], (p = j ∨ p ∈ clsAt [[], [0], [0, 1], [], [3], [0, 1, 2, 3, 4], [0, 1, 2, 3, 4, 5], [], [7], [0, 1, 2, 3, 4, 5, 7, 8], [], [10], [0, 1, 2, 3, 4, 5, 7, 8, 9, 10, 11], [0, 1, 2, 3, 4, 5, 7, 8, 9, 10, 11, 12], [], [], [0, 1, 2, 3, 4, 5, 6, 7, 8, 9, 10, 11, 12, 14, 15], [0, 1, 2, 3, 4, 5, 6, 7, 8, 9, 10, 11, 12, 13, 14, 15, 16]] j) → ∀ q ∈ [14, 15], (q = 16 ∨ q ∈ clsAt [[], [0], [0, 1], [], [3], [0, 1, 2, 3, 4], [0, 1, 2, 3, 4, 5], [], [7], [0, 1, 2, 3, 4, 5, 7, 8], [], [10], [0, 1, 2, 3, 4, 5, 7, 8, 9, 10, 11], [0, 1, 2, 3, 4, 5, 7, 8, 9, 10, 11, 12], [], [], [0, 1, 2, 3, 4, 5, 6, 7, 8, 9, 10, 11, 12, 14, 15], [0, 1, 2, 3, 4, 5, 6, 7, 8, 9, 10, 11, 12, 13, 14, 15, 16]] 16) → p ≠ q → val p ≠ val q) (fun hc ⟨g, h1, h2, h3⟩ => ⟨g, h1, h2, h3.grown hgr (fun h => hc.2.2 15 (by simp) (.inl rfl) 14 (by simp) (.inr (memB_mem.1 rfl)) (by simp) (by have h1' : val 15 = _ := h1; rw [h1', e14]; injection h with h; rw [h]))⟩) (phiS_cons_st (C := fun j => j ≠ 16 ∧ 16 ∉ clsAt [[], [0], [0, 1], [], [3], [0, 1, 2, 3, 4], [0, 1, 2, 3, 4, 5], [], [7], [0, 1, 2, 3, 4, 5, 7, 8], [], [10], [0, 1, 2, 3, 4, 5, 7, 8, 9, 10, 11], [0, 1, 2, 3, 4, 5, 7, 8, 9, 10, 11, 12], [], [], [0, 1, 2, 3, 4, 5, 6, 7, 8, 9, 10, 11, 12, 14, 15], [0, 1, 2, 3, 4, 5, 6, 7, 8, 9, 10, 11, 12, 13, 14, 15, 16]] j ∧ ∀ p ∈ [14, 15], (p = j ∨ p ∈ clsAt [[], [0], [0, 1], [], [3], [0, 1, 2, 3, 4], [0, 1, 2, 3, 4, 5], [], [7], [0, 1, 2, 3, 4, 5, 7, 8], [], [10], [0, 1, 2, 3, 4, 5, 7, 8, 9, 10, 11], [0, 1, 2, 3, 4, 5, 7, 8, 9, 10, 11, 12], [], [], [0, 1, 2, 3, 4, 5, 6, 7, 8, 9, 10, 11, 12, 14, 15], [0, 1, 2, 3, 4, 5, 6, 7, 8, 9, 10, 11, 12, 13, 14, 15, 16]] j) → ∀ q ∈ [14, 15], (q = 16 ∨ q ∈ clsAt [[], [0], [0, 1], [], [3], [0, 1, 2, 3, 4], [0, 1, 2, 3, 4, 5], [], [7], [0, 1, 2, 3, 4, 5, 7, 8], [], [10], [0, 1, 2, 3, 4, 5, 7, 8, 9, 10, 11], [0, 1, 2, 3, 4, 5, 7, 8, 9, 10, 11, 12], [], [], [0, 1, 2, 3, 4, 5, 6, 7, 8, 9, 10, 11, 12, 14, 15], [0, 1, 2, 3, 4, 5, 6, 7, 8, 9, 10, 11, 12, 13, 14, 15, 16]] 16) → p ≠ q → val p ≠ val q) (fun hc => absurd rfl hc.1) (fun _ _ h => h))))))))) j ⟨hj, hn, hA⟩
        · intro val fl wR9 hfl hb halc hd
          have e0 : val 0 = .pointer (some ⟨g1, 0, none⟩) := hd 0 (by omega)
          have e1 : val 1 = .agg #[.slice (some ⟨bR, oR, none⟩) rv.reaches.length c, .slice A' rv.shoals.length c'] := hd 1 (by omega)
          obtain ⟨A2_, c2_, B2_, d2_, vs2_, e2, q2_⟩ := hd 2 (by omega)
          change val 2 = _ at e2
          have e3 : val 3 = .pointer (some ⟨g1, 2, none⟩) := hd 3 (by omega)
          have e4 : val 4 = .slice (some ⟨bS, oS, none⟩) sides.length d := hd 4 (by omega)
          obtain ⟨D5_, k5_, ss5_, e5, q5_, p5_⟩ := hd 5 (by omega)
          change val 5 = _ at e5
          obtain ⟨A6_, c6_, B6_, d6_, D6_, k6_, e6, x6_, y6_⟩ := hd 6 (by omega)
          change val 6 = _ at e6
          have e7 : val 7 = .pointer (some ⟨g1, 0, none⟩) := hd 7 (by omega)
          have e8 : val 8 = .agg #[.slice (some ⟨bR, oR, none⟩) rv.reaches.length c, .slice A' rv.shoals.length c'] := hd 8 (by omega)
          obtain ⟨A9_, c9_, B9_, d9_, vs9_, A29_, c29_, B29_, d29_, vs29_, e9, q9_, x9_, q29_, p9_⟩ := hd 9 (by omega)
          change val 9 = _ at e9
          have e10 : val 10 = .pointer (some ⟨g1, 2, none⟩) := hd 10 (by omega)
          have e11 : val 11 = .slice (some ⟨bS, oS, none⟩) sides.length d := hd 11 (by omega)
          obtain ⟨D12_, k12_, ss12_, D512_, k512_, ss512_, e12, q12_, p12_, x12_, q512_, p512_, ap12_⟩ := hd 12 (by omega)
          change val 12 = _ at e12
          obtain ⟨A13_, c13_, B13_, d13_, D13_, k13_, e13, x13_, y13_⟩ := hd 13 (by omega)
          change val 13 = _ at e13
          obtain ⟨ga14_9, A16_, c16_, B16_, d16_, D16_, k16_, e14, e6x, qa14_9⟩ := hd 16 (by omega)
          change val 14 = _ at e14
          obtain ⟨ga15_9, e15, _, qa15_9⟩ := hd 15 (by omega)
          change val 15 = _ at e15
          refine EL.ends (cs := [.pointer (some ⟨g1, 0, none⟩), .agg #[.slice (some ⟨bR, oR, none⟩) rv.reaches.length c, .slice A' rv.shoals.length c'], .agg #[.slice A2_ rv.reaches.length c2_, .slice B2_ rv.shoals.length d2_], .pointer (some ⟨g1, 2, none⟩), .slice (some ⟨bS, oS, none⟩) sides.length d, .slice D5_ sides.length k5_, .agg #[.slice A6_ rv.reaches.length c6_, .slice B6_ rv.shoals.length d6_, .slice D6_ sides.length k6_], .pointer (some ⟨g1, 0, none⟩), .agg #[.slice (some ⟨bR, oR, none⟩) rv.reaches.length c, .slice A' rv.shoals.length c'], .agg #[.slice A9_ rv.reaches.length c9_, .slice B9_ rv.shoals.length d9_], .pointer (some ⟨g1, 2, none⟩), .slice (some ⟨bS, oS, none⟩) sides.length d, .slice D12_ sides.length k12_, .agg #[.slice A13_ rv.reaches.length c13_, .slice B13_ rv.shoals.length d13_, .slice D13_ sides.length k13_], .pointer (some ⟨ga14_9, 0, none⟩), .pointer (some ⟨ga15_9, 0, none⟩), val 16]) ⟨e0, e1, e2, e3, e4, e5, e6, e7, e8, e9, e10, e11, e12, e13, e14, e15, rfl, trivial⟩ rfl ?_
          replace q1 := q1.below hb q1.lt
          replace q2 := q2.below hb q2.lt
          replace q3 := q3.below hb q3.lt
          have bge7 := alc_ge halc (i := 14) rfl rfl e14
          have n1_7 : g1 ≠ ga14_9 := Nat.ne_of_lt (Nat.lt_of_lt_of_le lt_1 bge7)
          have n2_7 : g2 ≠ ga14_9 := Nat.ne_of_lt (Nat.lt_of_lt_of_le lt_2 bge7)
          have n3_7 : g3 ≠ ga14_9 := Nat.ne_of_lt (Nat.lt_of_lt_of_le lt_3 bge7)
          have bhbw_7 := Nat.le_trans hbw.size bge7
          have bge8 := alc_ge halc (i := 15) rfl rfl e15
          have n1_8 : g1 ≠ ga15_9 := Nat.ne_of_lt (Nat.lt_of_lt_of_le lt_1 bge8)
          have n2_8 : g2 ≠ ga15_9 := Nat.ne_of_lt (Nat.lt_of_lt_of_le lt_2 bge8)
          have n3_8 : g3 ≠ ga15_9 := Nat.ne_of_lt (Nat.lt_of_lt_of_le lt_3 bge8)
          have n7_8 : ga14_9 ≠ ga15_9 := alc_ne halc (i := 14) (j := 15) rfl rfl rfl rfl rfl e14 e15
          have bhbw_8 := Nat.le_trans hbw.size bge8
          replace hbw := Below.on hbw hb hbw.size
          change val 6 = _ at e6x
          have hx1 := e6.symm.trans e6x
          injection hx1 with hx1
          simp only [Array.mk.injEq, List.cons.injEq, Value.slice.injEq, and_true, true_and] at hx1
          obtain ⟨⟨rfl, rfl⟩, ⟨rfl, rfl⟩, ⟨rfl, rfl⟩⟩ := hx1
          change val 2 = _ at x6_
          change val 2 = _ at x9_
          have hx2 := x6_.symm.trans x9_
          injection hx2 with hx2
          simp only [Array.mk.injEq, List.cons.injEq, Value.slice.injEq, and_true, true_and] at hx2
          obtain ⟨⟨rfl, rfl⟩, ⟨rfl, rfl⟩⟩ := hx2
          change val 5 = _ at y6_
          change val 5 = _ at x12_
          have hx3 := y6_.symm.trans x12_
          injection hx3 with hx3 _ hx4
          subst hx3
          subst hx4
          change val 9 = _ at x13_
          have hx5 := x13_.symm.trans e9
          injection hx5 with hx5
          simp only [Array.mk.injEq, List.cons.injEq, Value.slice.injEq, and_true, true_and] at hx5
          obtain ⟨⟨rfl, rfl⟩, ⟨rfl, rfl⟩⟩ := hx5
          change val 12 = _ at y13_
          have hx6 := y13_.symm.trans e12
          injection hx6 with hx6 _ hx7
          subst hx6
          subst hx7
          obtain ⟨B0, hB0⟩ : ∃ z, z = w6.heap.size := ⟨_, rfl⟩
          rw [← hB0] at q9_ q29_ q12_ q512_
          have hwb : w.heap.size ≤ B0 := by rw [hB0]; exact szb
          obtain ⟨gaL, rfl⟩ := own_slice q29_.rows.own (by omega)
          obtain ⟨gaM, rfl⟩ := own_slice q9_.rows.own (by omega)
          obtain ⟨goL, rfl⟩ := own_slice (Rows.own q512_) (by omega)
          obtain ⟨goM, rfl⟩ := own_slice (Rows.own q12_) (by omega)
          have TF : TwoF wR9 B0 rv (.slice (some ⟨gaL, 0, none⟩) rv.reaches.length c6_) (.slice B6_ rv.shoals.length d6_) (.slice (some ⟨gaM, 0, none⟩) rv.reaches.length c13_) (.slice B13_ rv.shoals.length d13_) vs29_ vs9_ (.slice (some ⟨goL, 0, none⟩) sides.length k6_) (.slice (some ⟨goM, 0, none⟩) sides.length k13_) ss512_ ss12_ sides sides := ⟨q29_, q9_, q512_, q12_, p512_, p12_, ap12_, p9_⟩
          clear q2_ q5_ q29_ q9_ q512_ q12_ e6x x6_ x9_ y6_ x12_ x13_ y13_ p5_ p12_ p512_ ap12_ p9_
          skip
          refine EL.store rfl rfl qa15_9 sz_54 rfl rfl rfl rfl ?_
          intro w9 hq9 hg9
          replace q1 := q1.grown hg9 (fun h => n1_8 (Option.some.inj h))
          replace q2 := q2.grown hg9 (fun h => n2_8 (Option.some.inj h))
          replace q3 := q3.grown hg9 (fun h => n3_8 (Option.some.inj h))
          replace qa14_9 := qa14_9.grown hg9 (fun h => n7_8 (Option.some.inj h))
          replace TF := TF.type qa15_9 rfl rfl rfl rfl rfl hg9
          replace hbw := below_store hbw hg9 bhbw_8
          replace qa15_9 := hq9
          clear hg9 hq9
          refine EL.nil ?_
          refine EX.seq ?_
          refine EC.seq ?_
          refine EC.seq ?_
          refine EC.region ?_
          refine EL.val (x_assign rfl) rfl ?_
          refine EL.nil ?_
          refine EX.seq ?_
          refine EC.block ?_
          refine EC.loopD [13, 14, 15, 16, 17, 89, 90, 91, 92, 93, 94, 95, 96, 97, 98, 99, 100, 101, 102, 103, 104, 105, 106, 107, 108, 109, 110, 111, 112, 113, 114, 115, 116, 117, 118, 119, 120, 121, 122, 123, 124, 125, 126, 127, 128, 129, 130, 131, 132, 133, 134, 135, 136, 137, 138, 139, 140, 141, 142, 143, 144, 145, 146, 147, 148, 149, 150, 151, 152, 153, 154, 155, 156, 157, 158, 159, 160, 161, 162, 163, 164, 165, 166, 167, 168, 169, 170, 171, 172, 173, 174, 175, 176, 177, 178, 179, 180, 181, 182, 183, 184, 185, 186] (fun x : Nat => [(13, .int .i64 (x : Nat))]) (fun x W => x ≤ sides.length ∧ TwoF W B0 rv (.slice (some ⟨gaL, 0, none⟩) rv.reaches.length c6_) (.slice B6_ rv.shoals.length d6_) (.slice (some ⟨gaM, 0, none⟩) rv.reaches.length c13_) (.slice B13_ rv.shoals.length d13_) vs29_ vs9_ (.slice (some ⟨goL, 0, none⟩) sides.length k6_) (.slice (some ⟨goM, 0, none⟩) sides.length k13_) ss512_ ss12_ (upS (lessF bs zs) sides x) (upS (moreF zs) sides x) ∧ Blk W g1 54 #[.slice (some ⟨bR, oR, none⟩) rv.reaches.length c, .slice A' rv.shoals.length c', .slice (some ⟨bS, oS, none⟩) sides.length d] ∧ Blk W g2 40 #[.slice Ab bs.length cb, .slice As2 zs.length cs2, .slice Ae es.length ce, .slice Ag gs.length cg, .int .u8 tx] ∧ Blk W g3 84 #[.int .u16 (m0 : Nat), .int .u16 (m1 : Nat), .int .u16 (m2 : Nat)] ∧ Blk W ga14_9 54 #[.slice (some ⟨gaL, 0, none⟩) rv.reaches.length c6_, .slice B6_ rv.shoals.length d6_, .slice (some ⟨goL, 0, none⟩) sides.length k6_] ∧ Blk W ga15_9 54 #[.slice (some ⟨gaM, 0, none⟩) rv.reaches.length c13_, .slice B13_ rv.shoals.length d13_, .slice (some ⟨goM, 0, none⟩) sides.length k13_] ∧ Below w.heap.size w W) (fun x => sides.length - x) 0 ⟨Nat.zero_le _, TF, q1, q2, q3, qa14_9, qa15_9, hbw⟩ ⟨rfl, trivial⟩ ?_
          clear q1 q2 q3 qa14_9 qa15_9 hbw TF
          rintro i wi ⟨hi, TF, q1, q2, q3, qa14_9, qa15_9, hbw⟩
          by_cases hlt : i < sides.length
          ·
            refine EC.seq ?_
            refine EC.seq ?_
            refine EC.region ?_
            refine EL.val (x_move rfl) rfl ?_
            refine EL.val (fa_54_1 rfl) rfl ?_
            refine EL.val (ld_52 rfl (qa14_9.at (j := 2) rfl)) rfl ?_
            refine EL.val (ln_52 rfl) rfl ?_
            refine EL.val (x_lss rfl rfl (by first | assumption | exact decide_eq_true (by omega))) rfl ?_
            refine EL.nil ?_
            refine EX.seq ?_
            refine EC.yes rfl ?_
            refine EC.skip ?_
            refine EX.seq ?_
            refine EC.seq ?_
            refine EC.block ?_
            refine EC.seq ?_
            refine EC.region ?_
            refine EL.val (x_assign rfl) rfl ?_
            refine EL.nil ?_
            refine EX.seq ?_
            refine EC.block ?_
            obtain ⟨row, erow⟩ : ∃ z, z = sides.getD i [] := ⟨_, rfl⟩
            have hrl : row.length = (sides.getD 0 []).length := by rw [erow]; exact hS.same i (by omega)
            obtain ⟨ml, eml⟩ : ∃ z, z = upS (lessF bs zs) sides i := ⟨_, rfl⟩
            obtain ⟨mm, emm⟩ : ∃ z, z = upS (moreF zs) sides i := ⟨_, rfl⟩
            have hmll : ml.length = sides.length := by rw [eml]; exact upS_len sides i
            have hmml : mm.length = sides.length := by rw [emm]; exact upS_len sides i
            have hatL : ml.getD i [] = row := by rw [eml, upS_at sides (by omega), if_neg (by omega), erow]
            have hatM : mm.getD i [] = row := by rw [emm, upS_at sides (by omega), if_neg (by omega), erow]
            rw [← eml, ← emm] at TF
            obtain ⟨gL, crL, erL⟩ := row_first (i := i) TF.fL (by omega) (by rw [hatL]; omega)
            obtain ⟨gM, crM, erM⟩ := row_first (i := i) TF.fM (by omega) (by rw [hatM]; omega)
            rw [hatL] at erL
            rw [hatM] at erM
            rw [← set_same hatL (by omega), ← set_same hatM (by omega)] at TF
            refine EC.loopD [14, 15, 16, 17, 96, 97, 98, 99, 100, 101, 102, 103, 104, 105, 106, 107, 108, 109, 110, 111, 112, 113, 114, 115, 116, 117, 118, 119, 120, 121, 122, 123, 124, 125, 126, 127, 128, 129, 130, 131, 132, 133, 134, 135, 136, 137, 138, 139, 140, 141, 142, 143, 144, 145, 146, 147, 148, 149, 150, 151, 152, 153, 154, 155, 156, 157, 158, 159, 160, 161, 162, 163, 164, 165, 166, 167, 168, 169, 170, 171, 172, 173, 174, 175, 176, 177, 178, 179, 180, 181, 182, 183, 184, 185, 186] (fun x : Nat => [(14, .int .i64 (x : Nat))]) (fun x W => x ≤ row.length ∧ TwoF W B0 rv (.slice (some ⟨gaL, 0, none⟩) rv.reaches.length c6_) (.slice B6_ rv.shoals.length d6_) (.slice (some ⟨gaM, 0, none⟩) rv.reaches.length c13_) (.slice B13_ rv.shoals.length d13_) vs29_ vs9_ (.slice (some ⟨goL, 0, none⟩) sides.length k6_) (.slice (some ⟨goM, 0, none⟩) sides.length k13_) ss512_ ss12_ (ml.set i (upB ((lessF bs zs) i) row x)) (mm.set i (upB ((moreF zs) i) row x)) ∧ Blk W g1 54 #[.slice (some ⟨bR, oR, none⟩) rv.reaches.length c, .slice A' rv.shoals.length c', .slice (some ⟨bS, oS, none⟩) sides.length d] ∧ Blk W g2 40 #[.slice Ab bs.length cb, .slice As2 zs.length cs2, .slice Ae es.length ce, .slice Ag gs.length cg, .int .u8 tx] ∧ Blk W g3 84 #[.int .u16 (m0 : Nat), .int .u16 (m1 : Nat), .int .u16 (m2 : Nat)] ∧ Blk W ga14_9 54 #[.slice (some ⟨gaL, 0, none⟩) rv.reaches.length c6_, .slice B6_ rv.shoals.length d6_, .slice (some ⟨goL, 0, none⟩) sides.length k6_] ∧ Blk W ga15_9 54 #[.slice (some ⟨gaM, 0, none⟩) rv.reaches.length c13_, .slice B13_ rv.shoals.length d13_, .slice (some ⟨goM, 0, none⟩) sides.length k13_] ∧ Below w.heap.size w W) (fun x => row.length - x) 0 ⟨Nat.zero_le _, TF, q1, q2, q3, qa14_9, qa15_9, hbw⟩ ⟨rfl, trivial⟩ ?_
            clear q1 q2 q3 qa14_9 qa15_9 hbw TF
            rintro k wk ⟨hk, TF, q1, q2, q3, qa14_9, qa15_9, hbw⟩
            have blL := upB_len (f := (lessF bs zs) i) row k
            have blM := upB_len (f := (moreF zs) i) row k
            obtain ⟨rl, erl⟩ : ∃ z, z = upB (lessF bs zs i) row k := ⟨_, rfl⟩
            obtain ⟨rm, erm⟩ : ∃ z, z = upB (moreF zs i) row k := ⟨_, rfl⟩
            rw [← erl] at blL TF
            rw [← erm] at blM TF
            by_cases hkl : k < row.length
            ·
              obtain ⟨hscL, hsrL⟩ := row_again TF.fL (by omega) blL (by omega) erL
              obtain ⟨hscM, hsrM⟩ := row_again TF.fM (by omega) blM (by omega) erM
              obtain ⟨b, eb⟩ : ∃ z, z = row.getD k bd0 := ⟨_, rfl⟩
              have hbL : rl.getD k bd0 = b := by rw [erl, upB_at row (by omega), if_neg (by omega), eb]
              have hbM : rm.getD k bd0 = b := by rw [erm, upB_at row (by omega), if_neg (by omega), eb]
              have hbd := hS.side i k (by omega) (by omega)
              rw [← erow, ← eb] at hbd
              have pz := part_bd hv2 (i + k)
              have pb := part_bd hv1 (i + k)
              obtain ⟨y, ey⟩ : ∃ z, z = partI zs (i + k) := ⟨_, rfl⟩
              obtain ⟨yb, eyb⟩ : ∃ z, z = partI bs (i + k) := ⟨_, rfl⟩
              rw [← ey] at pz
              rw [← eyb] at pb
              have hnb := narB_in (y := y) (z := yb) hbd.2.1 pz pb
              have hy2 : y.tdiv 2 = y / 2 := Int.tdiv_eq_ediv_of_nonneg pz.1
              have hpk := pick_bd (b := b) (y := y.tdiv 2) hbd.2.1 (by omega) (by omega)
              simp only [narB] at hnb
              obtain ⟨lo, elo⟩ : ∃ z, z = pickI b (y.tdiv 2) := ⟨_, rfl⟩
              rw [← elo] at hnb hpk
              have hx0 : 0 ≤ (b.hi - lo) * yb := Int.mul_nonneg (by omega) (by omega)
              have hx1 : (b.hi - lo) * yb ≤ (b.hi - lo) * 255 := Int.mul_le_mul_of_nonneg_left (by omega) (by omega)
              obtain ⟨q5, eq5⟩ : ∃ z, z = ((b.hi - lo) * yb).tdiv 255 := ⟨_, rfl⟩
              rw [← eq5] at hnb
              obtain ⟨zL0, zL1⟩ := own_cells (k := k) (row := rl) (by rw [blL]; exact hsrL) (by omega)
              obtain ⟨zM0, zM1⟩ := own_cells (k := k) (row := rm) (by rw [blM]; exact hsrM) (by omega)
              rw [hbL] at zL0 zL1
              rw [hbM] at zM0 zM1
              refine EC.seq ?_
              refine EC.seq ?_
              refine EC.region ?_
              refine EL.val (x_move rfl) rfl ?_
              refine EL.val (fa_54_1 rfl) rfl ?_
              refine EL.val (ld_52 rfl (qa14_9.at (j := 2) rfl)) rfl ?_
              refine EL.val (x_move rfl) rfl ?_
              refine EL.val (ix_52 rfl rfl (by omega)) rfl ?_
              refine EL.val (ld_28 rfl hscL) rfl ?_
              refine EL.val (ln_28 rfl) rfl ?_
              refine EL.val (x_lss rfl rfl (by first | assumption | exact decide_eq_true (by omega))) rfl ?_
              refine EL.nil ?_
              refine EX.seq ?_
              refine EC.yes rfl ?_
              refine EC.skip ?_
              refine EX.seq ?_
              refine EC.seq ?_
              refine EC.block ?_
              refine EC.seq ?_
              refine EC.region ?_
              refine EL.val (fa_54_1 rfl) rfl ?_
              refine EL.val (ld_52 rfl (qa14_9.at (j := 2) rfl)) rfl ?_
              refine EL.val (x_move rfl) rfl ?_
              refine EL.val (ix_52 rfl rfl (by omega)) rfl ?_
              refine EL.val (ld_28 rfl hscL) rfl ?_
              refine EL.val (x_move rfl) rfl ?_
              refine EL.val (ix_28 rfl rfl hkl) rfl ?_
              refine EL.val (x_assign rfl) rfl ?_
              refine EL.nil ?_
              refine EX.seq ?_
              refine EC.seq ?_
              refine EC.regionQ (by kernel_rfl) (by kernel_rfl) ?_
              refine EQ.val (fun _ hw => (x_move rfl)) rfl ?_
              refine EQ.val (fun _ hw => (x_nilCheck rfl)) rfl ?_
              refine EQ.val (fun _ hw => (ld_23 rfl (below_load hw zL0) (below_load hw zL1))) rfl ?_
              refine EQ.val (fun _ hw => (fa_40_1 rfl)) rfl ?_
              refine EQ.val (fun _ hw => (ld_38 rfl (below_load hw (q2.at (j := 1) rfl)))) rfl ?_
              refine EQ.val (fun _ hw => (x_move rfl)) rfl ?_
              refine EQ.val (fun _ hw => (x_move rfl)) rfl ?_
              refine EQ.val (fun _ hw => (x_add rfl rfl (c := ((i + k : Nat) : Int)) ((IntWalk.i64_in _ ⟨by omega, by omega⟩).trans (by omega)))) rfl ?_
              refine EQ.call (fun _ _ _ ha => cl_22 rfl rfl _ ha) rfl (fun W hw => (part_as ey (part_any zs _ (i + k) W B (hw2.below ((hbw.trans (hw.mono hbw.size)).mono hB)) (by omega))).mono fun e w' h => ⟨h.1, hw.trans (h.2.mono hw.size)⟩) ?_
              refine EQ.val (fun _ hw => (x_quo (c := y.tdiv 2) rfl rfl (by decide) (wrap_u8 (by omega) (by omega)))) rfl ?_
              refine EQ.call (fun _ _ _ ha => cl_21 rfl rfl _ ha) rfl (fun W hw => (pick_as elo (pick_any b (y.tdiv 2) W (by omega) (by omega) (by omega) (by omega))).mono fun e w' h => ⟨h.1, hw.trans (h.2.mono hw.size)⟩) ?_
              refine EQ.val (fun _ hw => (x_assign rfl)) rfl ?_
              refine EQ.fin (fun w10 hw_ => ?_)
              replace q1 := q1.below hw_ q1.lt
              replace q2 := q2.below hw_ q2.lt
              replace q3 := q3.below hw_ q3.lt
              replace qa14_9 := qa14_9.below hw_ qa14_9.lt
              replace qa15_9 := qa15_9.below hw_ qa15_9.lt
              replace TF := TF.below hw_
              replace hbw := Below.on hbw hw_ hbw.size
              clear hw_
              skip
              obtain ⟨hscL, hsrL⟩ := row_again TF.fL (by omega) blL (by omega) erL
              clear zL0 zL1 zM0 zM1
              obtain ⟨zL0, zL1⟩ := own_cells (k := k) (row := rl) (by rw [blL]; exact hsrL) (by omega)
              rw [hbL] at zL0 zL1
              refine EX.seq ?_
              refine EC.seq ?_
              have lt_1 := q1.lt
              have lt_2 := q2.lt
              have lt_3 := q3.lt
              have lt_7 := qa14_9.lt
              have lt_8 := qa15_9.lt
              refine EC.regionP [[], [], [], [2], [2, 3], [2, 3, 4], [], [2, 3, 4, 5, 6], [], [8], [], [], [10, 11], [8, 9, 10, 11, 12], [8, 9, 10, 11, 12, 13], [2, 3, 4, 5, 6, 7, 8, 9, 10, 11, 12, 13, 14], [2, 3, 4, 5, 6, 7, 8, 9, 10, 11, 12, 13, 14, 15], [1, 2, 3, 4, 5, 6, 7, 8, 9, 10, 11, 12, 13, 14, 15, 16], [0, 1, 2, 3, 4, 5, 6, 7, 8, 9, 10, 11, 12, 13, 14, 15, 16, 17], [0, 1, 2, 3, 4, 5, 6, 7, 8, 9, 10, 11, 12, 13, 14, 15, 16, 17, 18], [0, 1, 2, 3, 4, 5, 6, 7, 8, 9, 10, 11, 12, 13, 14, 15, 16, 17, 18, 19]] 18 [] (phi (fun i_ r => match i_ with | 0 => r 0 = .pointer (some ⟨gL, 0 + k * 2, none⟩) | 1 => r 1 = .int .i64 lo | 2 => r 2 = .pointer (some ⟨gL, 0 + k * 2, none⟩) | 3 => r 3 = .pointer (some ⟨gL, 0 + k * 2, none⟩) | 4 => r 4 = .pointer (some ⟨gL, 0 + k * 2 + 1, none⟩) | 5 => r 5 = .int .i64 b.hi | 6 => r 6 = .int .i64 lo | 7 => r 7 = .int .i64 (b.hi - lo) | 8 => r 8 = .pointer (some ⟨g2, 0, none⟩) | 9 => r 9 = .slice Ab bs.length cb | 10 => r 10 = .int .i64 (i : Nat) | 11 => r 11 = .int .i64 (k : Nat) | 12 => r 12 = .int .i64 ((i + k) : Nat) | 13 => r 13 = .int .u8 yb | 14 => r 14 = .int .i64 yb | 15 => r 15 = .int .i64 ((b.hi - lo) * yb) | 16 => r 16 = .int .i64 q5 | 17 => r 17 = .int .i64 (lo + q5) | _ => True) []) (by kernel_rfl) rfl rfl (phi_nil) (fun i_ hi_ => ?_) ?_
              · match i_, hi_ with
                | 0, _ =>
                  intro val w1 a hb ha hd
                  have ha := ha.sub (Sub.ins (d := 15) (Sub.nil _) rfl)
                  exact hs_val ha rfl rfl (x_move rfl) rfl rfl
                | 1, _ =>
                  intro val w1 a hb ha hd
                  have ha := ha.sub (Sub.ins (d := 16) (Sub.nil _) rfl)
                  exact hs_val ha rfl rfl (x_move rfl) rfl rfl
                | 2, _ =>
                  intro val w1 a hb ha hd
                  have ha := ha.sub (Sub.ins (d := 15) (Sub.nil _) rfl)
                  exact hs_val ha rfl rfl (x_move rfl) rfl rfl
                | 3, _ =>
                  intro val w1 a hb ha hd
                  have e2 : val 2 = .pointer (some ⟨gL, 0 + k * 2, none⟩) := hd 2 (memB_mem.1 rfl)
                  have ha := ha.sub (Sub.ins (d := 126) (Sub.nil _) (dep_get rfl e2))
                  exact hs_val ha rfl rfl (x_nilCheck rfl) rfl rfl
                | 4, _ =>
                  intro val w1 a hb ha hd
                  have e3 : val 3 = .pointer (some ⟨gL, 0 + k * 2, none⟩) := hd 3 (memB_mem.1 rfl)
                  have ha := ha.sub (Sub.ins (d := 127) (Sub.nil _) (dep_get rfl e3))
                  exact hs_val ha rfl rfl (fa_23_1 rfl) rfl rfl
                | 5, _ =>
                  intro val w1 a hb ha hd
                  have e4 : val 4 = .pointer (some ⟨gL, 0 + k * 2 + 1, none⟩) := hd 4 (memB_mem.1 rfl)
                  have ha := ha.sub (Sub.ins (d := 128) (Sub.nil _) (dep_get rfl e4))
                  exact hs_val ha rfl rfl (ld_3 rfl (below_load hb zL1)) rfl rfl
                | 6, _ =>
                  intro val w1 a hb ha hd
                  have ha := ha.sub (Sub.ins (d := 16) (Sub.nil _) rfl)
                  exact hs_val ha rfl rfl (x_move rfl) rfl rfl
                | 7, _ =>
                  intro val w1 a hb ha hd
                  have e5 : val 5 = .int .i64 b.hi := hd 5 (memB_mem.1 rfl)
                  have e6 : val 6 = .int .i64 lo := hd 6 (memB_mem.1 rfl)
                  have ha := ha.sub (Sub.ins (d := 130) (Sub.ins (d := 129) (Sub.nil _) (dep_get rfl e5)) (dep_get rfl e6))
                  exact hs_val ha rfl rfl (x_sub rfl rfl (by first | assumption | exact IntWalk.i64_in _ ⟨by omega, by omega⟩)) rfl rfl
                | 8, _ =>
                  intro val w1 a hb ha hd
                  have ha := ha.sub (Sub.ins (d := 4) (Sub.nil _) rfl)
                  exact hs_val ha rfl rfl (fa_40_0 rfl) rfl rfl
                | 9, _ =>
                  intro val w1 a hb ha hd
                  have e8 : val 8 = .pointer (some ⟨g2, 0, none⟩) := hd 8 (memB_mem.1 rfl)
                  have ha := ha.sub (Sub.ins (d := 132) (Sub.nil _) (dep_get rfl e8))
                  exact hs_val ha rfl rfl (ld_38 rfl ((q2.below hb q2.lt).at (j := 0) rfl)) rfl rfl
                | 10, _ =>
                  intro val w1 a hb ha hd
                  have ha := ha.sub (Sub.ins (d := 13) (Sub.nil _) rfl)
                  exact hs_val ha rfl rfl (x_move rfl) rfl rfl
                | 11, _ =>
                  intro val w1 a hb ha hd
                  have ha := ha.sub (Sub.ins (d := 14) (Sub.nil _) rfl)
                  exact hs_val ha rfl rfl (x_move rfl) rfl rfl
                | 12, _ =>
                  intro val w1 a hb ha hd
                  have e10 : val 10 = .int .i64 (i : Nat) := hd 10 (memB_mem.1 rfl)
                  have e11 : val 11 = .int .i64 (k : Nat) := hd 11 (memB_mem.1 rfl)
                  have ha := ha.sub (Sub.ins (d := 135) (Sub.ins (d := 134) (Sub.nil _) (dep_get rfl e10)) (dep_get rfl e11))
                  exact hs_val ha rfl rfl (x_add rfl rfl (c := ((i + k : Nat) : Int)) ((IntWalk.i64_in _ ⟨by omega, by omega⟩).trans (by omega))) rfl rfl
                | 13, _ =>
                  intro val w1 a hb ha hd
                  have e9 : val 9 = .slice Ab bs.length cb := hd 9 (memB_mem.1 rfl)
                  have e12 : val 12 = .int .i64 ((i + k) : Nat) := hd 12 (memB_mem.1 rfl)
                  have ha := ha.sub (Sub.ins (d := 136) (Sub.ins (d := 133) (Sub.nil _) (dep_get rfl e9)) (dep_get rfl e12))
                  refine hs_call ha rfl rfl (cl_22 rfl rfl) (part_as eyb (part_any bs _ (i + k) w1 B (hw1.below ((Below.on hbw hb hbw.size).mono hB)) (by omega))) rfl ?_
                  rintro e w' ⟨rfl, hb'⟩
                  exact ⟨_, rfl, hb', rfl⟩
                | 14, _ =>
                  intro val w1 a hb ha hd
                  have e13 : val 13 = .int .u8 yb := hd 13 (memB_mem.1 rfl)
                  have ha := ha.sub (Sub.ins (d := 137) (Sub.nil _) (dep_get rfl e13))
                  exact hs_val ha rfl rfl (cv_5_3 rfl (IntWalk.i64_in _ ⟨by omega, by omega⟩)) rfl rfl
                | 15, _ =>
                  intro val w1 a hb ha hd
                  have e7 : val 7 = .int .i64 (b.hi - lo) := hd 7 (memB_mem.1 rfl)
                  have e14 : val 14 = .int .i64 yb := hd 14 (memB_mem.1 rfl)
                  have ha := ha.sub (Sub.ins (d := 138) (Sub.ins (d := 131) (Sub.nil _) (dep_get rfl e7)) (dep_get rfl e14))
                  exact hs_val ha rfl rfl (x_mul rfl rfl (by first | assumption | exact IntWalk.i64_in _ ⟨by omega, by omega⟩)) rfl rfl
                | 16, _ =>
                  intro val w1 a hb ha hd
                  have e15 : val 15 = .int .i64 ((b.hi - lo) * yb) := hd 15 (memB_mem.1 rfl)
                  have ha := ha.sub (Sub.ins (d := 139) (Sub.nil _) (dep_get rfl e15))
                  exact hs_val ha rfl rfl (x_quo rfl rfl (by decide) ((IntWalk.i64_in _ ⟨by rw [← eq5]; omega, by rw [← eq5]; omega⟩).trans eq5.symm)) rfl rfl
                | 17, _ =>
                  intro val w1 a hb ha hd
                  have e1 : val 1 = .int .i64 lo := hd 1 (memB_mem.1 rfl)
                  have e16 : val 16 = .int .i64 q5 := hd 16 (memB_mem.1 rfl)
                  have ha := ha.sub (Sub.ins (d := 140) (Sub.ins (d := 125) (Sub.nil _) (dep_get rfl e1)) (dep_get rfl e16))
                  exact hs_val ha rfl rfl (x_add rfl rfl (by first | assumption | exact IntWalk.i64_in _ ⟨by omega, by omega⟩)) rfl rfl
                | k + 18, h => exact absurd h (by omega)
              · intro val wR18 hb halc hd
                have e0 : val 0 = .pointer (some ⟨gL, 0 + k * 2, none⟩) := hd 0 (by omega)
                have e1 : val 1 = .int .i64 lo := hd 1 (by omega)
                have e2 : val 2 = .pointer (some ⟨gL, 0 + k * 2, none⟩) := hd 2 (by omega)
                have e3 : val 3 = .pointer (some ⟨gL, 0 + k * 2, none⟩) := hd 3 (by omega)
                have e4 : val 4 = .pointer (some ⟨gL, 0 + k * 2 + 1, none⟩) := hd 4 (by omega)
                have e5 : val 5 = .int .i64 b.hi := hd 5 (by omega)
                have e6 : val 6 = .int .i64 lo := hd 6 (by omega)
                have e7 : val 7 = .int .i64 (b.hi - lo) := hd 7 (by omega)
                have e8 : val 8 = .pointer (some ⟨g2, 0, none⟩) := hd 8 (by omega)
                have e9 : val 9 = .slice Ab bs.length cb := hd 9 (by omega)
                have e10 : val 10 = .int .i64 (i : Nat) := hd 10 (by omega)
                have e11 : val 11 = .int .i64 (k : Nat) := hd 11 (by omega)
                have e12 : val 12 = .int .i64 ((i + k) : Nat) := hd 12 (by omega)
                have e13 : val 13 = .int .u8 yb := hd 13 (by omega)
                have e14 : val 14 = .int .i64 yb := hd 14 (by omega)
                have e15 : val 15 = .int .i64 ((b.hi - lo) * yb) := hd 15 (by omega)
                have e16 : val 16 = .int .i64 q5 := hd 16 (by omega)
                have e17 : val 17 = .int .i64 (lo + q5) := hd 17 (by omega)
                refine EL.ends (cs := [.pointer (some ⟨gL, 0 + k * 2, none⟩), .int .i64 lo, .pointer (some ⟨gL, 0 + k * 2, none⟩), .pointer (some ⟨gL, 0 + k * 2, none⟩), .pointer (some ⟨gL, 0 + k * 2 + 1, none⟩), .int .i64 b.hi, .int .i64 lo, .int .i64 (b.hi - lo), .pointer (some ⟨g2, 0, none⟩), .slice Ab bs.length cb, .int .i64 (i : Nat), .int .i64 (k : Nat), .int .i64 ((i + k) : Nat), .int .u8 yb, .int .i64 yb, .int .i64 ((b.hi - lo) * yb), .int .i64 q5, .int .i64 (lo + q5)]) ⟨e0, e1, e2, e3, e4, e5, e6, e7, e8, e9, e10, e11, e12, e13, e14, e15, e16, e17, trivial⟩ rfl ?_
                replace q1 := q1.below hb q1.lt
                replace q2 := q2.below hb q2.lt
                replace q3 := q3.below hb q3.lt
                replace qa14_9 := qa14_9.below hb qa14_9.lt
                replace qa15_9 := qa15_9.below hb qa15_9.lt
                replace TF := TF.below hb
                replace hbw := Below.on hbw hb hbw.size
                clear hb
                refine EL.val (x_nilCheck rfl) rfl ?_
                refine EL.val (fa_23_1 rfl) rfl ?_
                obtain ⟨hscL, hsrL⟩ := row_again TF.fL (by omega) blL (by omega) erL
                obtain ⟨cur_, hcur_⟩ := own_blk hsrL
                have ne11_3 := row_ne2 (e := 23) hsrL q1 rfl
                have ne11_4 := row_ne2 (e := 23) hsrL q2 rfl
                have ne11_5 := row_ne2 (e := 23) hsrL q3 rfl
                have ne11_11 := row_ne2 (e := 23) hsrL qa14_9 rfl
                have ne11_12 := row_ne2 (e := 23) hsrL qa15_9 rfl
                have hbm := (hsrL.lt gL rfl).1
                refine EL.storeRow (l' := [.int .i64 (lo + q5)]) rfl rfl hsrL sz_3 rfl rfl (by rw [bdsC_len, blL]; omega) rfl ?_
                intro w11 ho2 hg11
                replace q1 := q1.grown hg11 (fun h => ne11_3 (Option.some.inj h))
                replace q2 := q2.grown hg11 (fun h => ne11_4 (Option.some.inj h))
                replace q3 := q3.grown hg11 (fun h => ne11_5 (Option.some.inj h))
                replace qa14_9 := qa14_9.grown hg11 (fun h => ne11_11 (Option.some.inj h))
                replace qa15_9 := qa15_9.grown hg11 (fun h => ne11_12 (Option.some.inj h))
                replace hbw := below_store hbw hg11 (Nat.le_trans hwb hbm)
                rw [Nat.zero_add, bd_setH _ (by omega), hbL] at ho2
                obtain ⟨rl1, erl1⟩ : ∃ z, z = rl.set k ⟨b.lo, lo + q5⟩ := ⟨_, rfl⟩
                rw [← erl1] at ho2
                have bl_rl1 : rl1.length = row.length := by rw [erl1, List.length_set]; exact blL
                replace TF := TF.setL (i := i) (row := rl1) (by rw [List.length_set]; omega) (by rw [bl_rl1]; exact erL) (by rw [bl_rl1, getD_setR (by omega), if_pos rfl]; exact blL.symm) (by rw [bl_rl1]; exact ho2) hg11 hcur_
                rw [List.set_set] at TF
                clear ho2 hcur_
                refine EL.nil ?_
                refine EX.seq ?_
                refine EC.seq ?_
                refine EC.region ?_
                refine EL.val (x_move rfl) rfl ?_
                refine EL.val (x_move rfl) rfl ?_
                refine EL.val (x_nilCheck rfl) rfl ?_
                refine EL.val (fa_23_0 rfl) rfl ?_
                have hb1 : rl1.getD k bd0 = ⟨b.lo, lo + q5⟩ := by rw [erl1, getD_setR (by omega), if_pos rfl]
                obtain ⟨hscL, hsrL⟩ := row_again TF.fL (by omega) bl_rl1 (by omega) erL
                obtain ⟨cur_, hcur_⟩ := own_blk hsrL
                have ne12_3 := row_ne2 (e := 23) hsrL q1 rfl
                have ne12_4 := row_ne2 (e := 23) hsrL q2 rfl
                have ne12_5 := row_ne2 (e := 23) hsrL q3 rfl
                have ne12_11 := row_ne2 (e := 23) hsrL qa14_9 rfl
                have ne12_12 := row_ne2 (e := 23) hsrL qa15_9 rfl
                have hbm := (hsrL.lt gL rfl).1
                refine EL.storeRow (l' := [.int .i64 lo]) rfl rfl hsrL sz_3 rfl rfl (by rw [bdsC_len, bl_rl1]; omega) rfl ?_
                intro w12 ho2 hg12
                replace q1 := q1.grown hg12 (fun h => ne12_3 (Option.some.inj h))
                replace q2 := q2.grown hg12 (fun h => ne12_4 (Option.some.inj h))
                replace q3 := q3.grown hg12 (fun h => ne12_5 (Option.some.inj h))
                replace qa14_9 := qa14_9.grown hg12 (fun h => ne12_11 (Option.some.inj h))
                replace qa15_9 := qa15_9.grown hg12 (fun h => ne12_12 (Option.some.inj h))
                replace hbw := below_store hbw hg12 (Nat.le_trans hwb hbm)
                rw [Nat.zero_add, bd_setL _ (by omega), hb1] at ho2
                obtain ⟨rl2, erl2⟩ : ∃ z, z = rl1.set k ⟨lo, lo + q5⟩ := ⟨_, rfl⟩
                rw [← erl2] at ho2
                have bl_rl2 : rl2.length = row.length := by rw [erl2, List.length_set]; exact bl_rl1
                replace TF := TF.setL (i := i) (row := rl2) (by rw [List.length_set]; omega) (by rw [bl_rl2]; exact erL) (by rw [bl_rl2, getD_setR (by omega), if_pos rfl]; exact bl_rl1.symm) (by rw [bl_rl2]; exact ho2) hg12 hcur_
                rw [List.set_set] at TF
                clear ho2 hcur_
                obtain ⟨hscM, hsrM⟩ := row_again TF.fM (by omega) blM (by omega) erM
                refine EL.nil ?_
                refine EX.seq ?_
                refine EC.seq ?_
                refine EC.region ?_
                refine EL.val (fa_54_1 rfl) rfl ?_
                refine EL.val (ld_52 rfl (qa15_9.at (j := 2) rfl)) rfl ?_
                refine EL.val (x_move rfl) rfl ?_
                refine EL.val (ix_52 rfl rfl (by omega)) rfl ?_
                refine EL.val (ld_28 rfl hscM) rfl ?_
                refine EL.val (x_move rfl) rfl ?_
                refine EL.val (ix_28 rfl rfl hkl) rfl ?_
                refine EL.val (x_assign rfl) rfl ?_
                refine EL.nil ?_
                refine EX.seq ?_
                obtain ⟨hscM, hsrM⟩ := row_again TF.fM (by omega) blM (by omega) erM
                have zz := own_cells (k := k) (row := rm) (by rw [blM]; exact hsrM) (by omega)
                rw [hbM] at zz
                obtain ⟨cur_, hcur_⟩ := own_blk hsrM
                have hbm := (hsrM.lt gM rfl).1
                have ne21_3 := row_ne2 (e := 23) hsrM q1 rfl
                have ne21_4 := row_ne2 (e := 23) hsrM q2 rfl
                have ne21_5 := row_ne2 (e := 23) hsrM q3 rfl
                have ne21_11 := row_ne2 (e := 23) hsrM qa14_9 rfl
                have ne21_12 := row_ne2 (e := 23) hsrM qa15_9 rfl
                refine EC.regionS [[], [], [], [2], [2, 3], [2, 3, 4], [], [6], [], [], [8, 9], [6, 7, 8, 9, 10], [6, 7, 8, 9, 10, 11], [2, 3, 4, 5, 6, 7, 8, 9, 10, 11, 12], [2, 3, 4, 5, 6, 7, 8, 9, 10, 11, 12, 13], [], [15], [15, 16], [15, 16, 17], [], [19], [], [], [21, 22], [6, 7, 8, 9, 10, 11, 19, 20, 21, 22, 23], [6, 7, 8, 9, 10, 11, 19, 20, 21, 22, 23, 24], [6, 7, 8, 9, 10, 11, 15, 16, 17, 18, 19, 20, 21, 22, 23, 24, 25], [6, 7, 8, 9, 10, 11, 15, 16, 17, 18, 19, 20, 21, 22, 23, 24, 25, 26], [0, 2, 3, 4, 5, 6, 7, 8, 9, 10, 11, 12, 13, 14, 15, 16, 17, 18, 19, 20, 21, 22, 23, 24], [0, 2, 3, 4, 5, 6, 7, 8, 9, 10, 11, 12, 13, 14, 15, 16, 17, 18, 19, 20, 21, 22, 23, 24, 28], [0, 2, 3, 4, 5, 6, 7, 8, 9, 10, 11, 12, 13, 14, 15, 16, 17, 18, 19, 20, 21, 22, 23, 24, 28, 29], [0, 1, 2, 3, 4, 5, 6, 7, 8, 9, 10, 11, 12, 13, 14, 15, 16, 17, 18, 19, 20, 21, 22, 23, 24, 25, 26, 27, 28, 29, 30], [0, 1, 2, 3, 4, 5, 6, 7, 8, 9, 10, 11, 12, 13, 14, 15, 16, 17, 18, 19, 20, 21, 22, 23, 24, 25, 26, 27, 28, 29, 30, 31], [0, 1, 2, 3, 4, 5, 6, 7, 8, 9, 10, 11, 12, 13, 14, 15, 16, 17, 18, 19, 20, 21, 22, 23, 24, 25, 26, 27, 28, 29, 30, 31, 32]] 31 [] [30] (fun fl w_ => w12.grownBy w_ (some gM) ∧ (fl 30 = false → w_.ownsRow B0 23 2 (.slice (some ⟨gM, 0, none⟩) row.length crM) row.length (bdsC rm))) (phiS (fun i_ r => match i_ with | 0 => r 0 = .pointer (some ⟨gM, 0 + k * 2, none⟩) | 1 => r 1 = .pointer (some ⟨gM, 0 + k * 2, none⟩) | 2 => r 2 = .pointer (some ⟨gM, 0 + k * 2, none⟩) | 3 => r 3 = .pointer (some ⟨gM, 0 + k * 2, none⟩) | 4 => r 4 = .pointer (some ⟨gM, 0 + k * 2, none⟩) | 5 => r 5 = .int .i64 b.lo | 6 => r 6 = .pointer (some ⟨g2, 1, none⟩) | 7 => r 7 = .slice As2 zs.length cs2 | 8 => r 8 = .int .i64 (i : Nat) | 9 => r 9 = .int .i64 (k : Nat) | 10 => r 10 = .int .i64 ((i + k) : Nat) | 11 => r 11 = .int .u8 y | 12 => r 12 = .int .i64 y | 13 => r 13 = .int .i64 (b.lo + y) | 14 => r 14 = .int .i64 (min 10000000000 (b.lo + y)) | 15 => r 15 = .pointer (some ⟨gM, 0 + k * 2, none⟩) | 16 => r 16 = .pointer (some ⟨gM, 0 + k * 2, none⟩) | 17 => r 17 = .pointer (some ⟨gM, 0 + k * 2 + 1, none⟩) | 18 => r 18 = .int .i64 b.hi | 19 => r 19 = .pointer (some ⟨g2, 1, none⟩) | 20 => r 20 = .slice As2 zs.length cs2 | 21 => r 21 = .int .i64 (i : Nat) | 22 => r 22 = .int .i64 (k : Nat) | 23 => r 23 = .int .i64 ((i + k) : Nat) | 24 => r 24 = .int .u8 y | 25 => r 25 = .int .i64 y | 26 => r 26 = .int .i64 (b.hi + y) | 27 => r 27 = .int .i64 (min 10000000000 (b.hi + y)) | 28 => r 28 = .pointer (some ⟨gM, 0 + k * 2, none⟩) | 29 => r 29 = .pointer (some ⟨gM, 0 + k * 2, none⟩) | _ => True) [(30, fun _ r w_ => w_.ownsRow B0 23 2 (.slice (some ⟨gM, 0, none⟩) row.length crM) row.length (bdsC (rm.set k ⟨min 10000000000 (b.lo + y), b.hi⟩)))]) (by kernel_rfl) rfl rfl (by intro i hi; simp at hi; subst hi; exact ⟨by simp, by omega⟩) (base_row hsrM) (phiS_cons (fun _ _ _ _ hb h => own_below h hb (Nat.le_refl _)) phiS_nil) (fun i_ hi_ hs_ => ?_) (fun i_ hi_ => ?_) ?_
                · match i_, hi_ with
                  | 0, _ =>
                    intro val fl w1 a hb ha hd hfl
                    obtain ⟨hgb, hg0⟩ := hb
                    have hb : Below w.heap.size w12 w1 := (Below.refl _ _).grown hgb hbw.size (fun g h => by injection h with h; subst h; exact Nat.le_trans hwb hbm)
                    have ha := ha.sub (Sub.ins (d := 17) (Sub.nil _) rfl)
                    exact ss_val ha rfl rfl (x_move rfl) rfl rfl
                  | 1, _ =>
                    intro val fl w1 a hb ha hd hfl
                    obtain ⟨hgb, hg0⟩ := hb
                    have hb : Below w.heap.size w12 w1 := (Below.refl _ _).grown hgb hbw.size (fun g h => by injection h with h; subst h; exact Nat.le_trans hwb hbm)
                    have ha := ha.sub (Sub.ins (d := 17) (Sub.nil _) rfl)
                    exact ss_val ha rfl rfl (x_move rfl) rfl rfl
                  | 2, _ =>
                    intro val fl w1 a hb ha hd hfl
                    obtain ⟨hgb, hg0⟩ := hb
                    have hb : Below w.heap.size w12 w1 := (Below.refl _ _).grown hgb hbw.size (fun g h => by injection h with h; subst h; exact Nat.le_trans hwb hbm)
                    have ha := ha.sub (Sub.ins (d := 17) (Sub.nil _) rfl)
                    exact ss_val ha rfl rfl (x_move rfl) rfl rfl
                  | 3, _ =>
                    intro val fl w1 a hb ha hd hfl
                    obtain ⟨hgb, hg0⟩ := hb
                    have hb : Below w.heap.size w12 w1 := (Below.refl _ _).grown hgb hbw.size (fun g h => by injection h with h; subst h; exact Nat.le_trans hwb hbm)
                    have e2 : val 2 = .pointer (some ⟨gM, 0 + k * 2, none⟩) := hd 2 (memB_mem.1 rfl)
                    have ha := ha.sub (Sub.ins (d := 157) (Sub.nil _) (dep_get rfl e2))
                    exact ss_val ha rfl rfl (x_nilCheck rfl) rfl rfl
                  | 4, _ =>
                    intro val fl w1 a hb ha hd hfl
                    obtain ⟨hgb, hg0⟩ := hb
                    have hb : Below w.heap.size w12 w1 := (Below.refl _ _).grown hgb hbw.size (fun g h => by injection h with h; subst h; exact Nat.le_trans hwb hbm)
                    have e3 : val 3 = .pointer (some ⟨gM, 0 + k * 2, none⟩) := hd 3 (memB_mem.1 rfl)
                    have ha := ha.sub (Sub.ins (d := 158) (Sub.nil _) (dep_get rfl e3))
                    exact ss_val ha rfl rfl (fa_23_0 rfl) rfl rfl
                  | 5, _ =>
                    intro val fl w1 a hb ha hd hfl
                    obtain ⟨hgb, hg0⟩ := hb
                    have hb : Below w.heap.size w12 w1 := (Below.refl _ _).grown hgb hbw.size (fun g h => by injection h with h; subst h; exact Nat.le_trans hwb hbm)
                    have e4 : val 4 = .pointer (some ⟨gM, 0 + k * 2, none⟩) := hd 4 (memB_mem.1 rfl)
                    have ha := ha.sub (Sub.ins (d := 159) (Sub.nil _) (dep_get rfl e4))
                    have ccM := own_cells (k := k) (row := rm) (by rw [blM]; exact hg0 (hfl 30 (by simp) (memB_mem.1 rfl))) (by omega)
                    rw [hbM] at ccM
                    exact ss_val ha rfl rfl (ld_3 rfl ccM.1) rfl rfl
                  | 6, _ =>
                    intro val fl w1 a hb ha hd hfl
                    obtain ⟨hgb, hg0⟩ := hb
                    have hb : Below w.heap.size w12 w1 := (Below.refl _ _).grown hgb hbw.size (fun g h => by injection h with h; subst h; exact Nat.le_trans hwb hbm)
                    have ha := ha.sub (Sub.ins (d := 4) (Sub.nil _) rfl)
                    exact ss_val ha rfl rfl (fa_40_1 rfl) rfl rfl
                  | 7, _ =>
                    intro val fl w1 a hb ha hd hfl
                    obtain ⟨hgb, hg0⟩ := hb
                    have hb : Below w.heap.size w12 w1 := (Below.refl _ _).grown hgb hbw.size (fun g h => by injection h with h; subst h; exact Nat.le_trans hwb hbm)
                    have e6 : val 6 = .pointer (some ⟨g2, 1, none⟩) := hd 6 (memB_mem.1 rfl)
                    have ha := ha.sub (Sub.ins (d := 161) (Sub.nil _) (dep_get rfl e6))
                    exact ss_val ha rfl rfl (ld_38 rfl ((q2.grown hgb (fun h => ne21_4 (Option.some.inj h))).at (j := 1) rfl)) rfl rfl
                  | 8, _ =>
                    intro val fl w1 a hb ha hd hfl
                    obtain ⟨hgb, hg0⟩ := hb
                    have hb : Below w.heap.size w12 w1 := (Below.refl _ _).grown hgb hbw.size (fun g h => by injection h with h; subst h; exact Nat.le_trans hwb hbm)
                    have ha := ha.sub (Sub.ins (d := 13) (Sub.nil _) rfl)
                    exact ss_val ha rfl rfl (x_move rfl) rfl rfl
                  | 9, _ =>
                    intro val fl w1 a hb ha hd hfl
                    obtain ⟨hgb, hg0⟩ := hb
                    have hb : Below w.heap.size w12 w1 := (Below.refl _ _).grown hgb hbw.size (fun g h => by injection h with h; subst h; exact Nat.le_trans hwb hbm)
                    have ha := ha.sub (Sub.ins (d := 14) (Sub.nil _) rfl)
                    exact ss_val ha rfl rfl (x_move rfl) rfl rfl
                  | 10, _ =>
                    intro val fl w1 a hb ha hd hfl
                    obtain ⟨hgb, hg0⟩ := hb
                    have hb : Below w.heap.size w12 w1 := (Below.refl _ _).grown hgb hbw.size (fun g h => by injection h with h; subst h; exact Nat.le_trans hwb hbm)
                    have e8 : val 8 = .int .i64 (i : Nat) := hd 8 (memB_mem.1 rfl)
                    have e9 : val 9 = .int .i64 (k : Nat) := hd 9 (memB_mem.1 rfl)
                    have ha := ha.sub (Sub.ins (d := 164) (Sub.ins (d := 163) (Sub.nil _) (dep_get rfl e8)) (dep_get rfl e9))
                    exact ss_val ha rfl rfl (x_add rfl rfl (c := ((i + k : Nat) : Int)) ((IntWalk.i64_in _ ⟨by omega, by omega⟩).trans (by omega))) rfl rfl
                  | 11, _ =>
                    intro val fl w1 a hb ha hd hfl
                    obtain ⟨hgb, hg0⟩ := hb
                    have hb : Below w.heap.size w12 w1 := (Below.refl _ _).grown hgb hbw.size (fun g h => by injection h with h; subst h; exact Nat.le_trans hwb hbm)
                    have e7 : val 7 = .slice As2 zs.length cs2 := hd 7 (memB_mem.1 rfl)
                    have e10 : val 10 = .int .i64 ((i + k) : Nat) := hd 10 (memB_mem.1 rfl)
                    have ha := ha.sub (Sub.ins (d := 165) (Sub.ins (d := 162) (Sub.nil _) (dep_get rfl e7)) (dep_get rfl e10))
                    refine ss_call ha rfl rfl (cl_22 rfl rfl) (part_as ey (part_any zs _ (i + k) w1 B (hw2.below ((hbw.trans hb).mono hB)) (by omega))) rfl ?_
                    rintro e w' ⟨rfl, hb'⟩
                    exact ⟨_, rfl, hb', rfl⟩
                  | 12, _ =>
                    intro val fl w1 a hb ha hd hfl
                    obtain ⟨hgb, hg0⟩ := hb
                    have hb : Below w.heap.size w12 w1 := (Below.refl _ _).grown hgb hbw.size (fun g h => by injection h with h; subst h; exact Nat.le_trans hwb hbm)
                    have e11 : val 11 = .int .u8 y := hd 11 (memB_mem.1 rfl)
                    have ha := ha.sub (Sub.ins (d := 166) (Sub.nil _) (dep_get rfl e11))
                    exact ss_val ha rfl rfl (cv_5_3 rfl (IntWalk.i64_in _ ⟨by omega, by omega⟩)) rfl rfl
                  | 13, _ =>
                    intro val fl w1 a hb ha hd hfl
                    obtain ⟨hgb, hg0⟩ := hb
                    have hb : Below w.heap.size w12 w1 := (Below.refl _ _).grown hgb hbw.size (fun g h => by injection h with h; subst h; exact Nat.le_trans hwb hbm)
                    have e5 : val 5 = .int .i64 b.lo := hd 5 (memB_mem.1 rfl)
                    have e12 : val 12 = .int .i64 y := hd 12 (memB_mem.1 rfl)
                    have ha := ha.sub (Sub.ins (d := 167) (Sub.ins (d := 160) (Sub.nil _) (dep_get rfl e5)) (dep_get rfl e12))
                    exact ss_val ha rfl rfl (x_add rfl rfl (by first | assumption | exact IntWalk.i64_in _ ⟨by omega, by omega⟩)) rfl rfl
                  | 14, _ =>
                    intro val fl w1 a hb ha hd hfl
                    obtain ⟨hgb, hg0⟩ := hb
                    have hb : Below w.heap.size w12 w1 := (Below.refl _ _).grown hgb hbw.size (fun g h => by injection h with h; subst h; exact Nat.le_trans hwb hbm)
                    have e13 : val 13 = .int .i64 (b.lo + y) := hd 13 (memB_mem.1 rfl)
                    have ha := ha.sub (Sub.ins (d := 168) (Sub.nil _) (dep_get rfl e13))
                    exact ss_val ha rfl rfl (mm_min rfl rfl rfl) rfl rfl
                  | 15, _ =>
                    intro val fl w1 a hb ha hd hfl
                    obtain ⟨hgb, hg0⟩ := hb
                    have hb : Below w.heap.size w12 w1 := (Below.refl _ _).grown hgb hbw.size (fun g h => by injection h with h; subst h; exact Nat.le_trans hwb hbm)
                    have ha := ha.sub (Sub.ins (d := 17) (Sub.nil _) rfl)
                    exact ss_val ha rfl rfl (x_move rfl) rfl rfl
                  | 16, _ =>
                    intro val fl w1 a hb ha hd hfl
                    obtain ⟨hgb, hg0⟩ := hb
                    have hb : Below w.heap.size w12 w1 := (Below.refl _ _).grown hgb hbw.size (fun g h => by injection h with h; subst h; exact Nat.le_trans hwb hbm)
                    have e15 : val 15 = .pointer (some ⟨gM, 0 + k * 2, none⟩) := hd 15 (memB_mem.1 rfl)
                    have ha := ha.sub (Sub.ins (d := 170) (Sub.nil _) (dep_get rfl e15))
                    exact ss_val ha rfl rfl (x_nilCheck rfl) rfl rfl
                  | 17, _ =>
                    intro val fl w1 a hb ha hd hfl
                    obtain ⟨hgb, hg0⟩ := hb
                    have hb : Below w.heap.size w12 w1 := (Below.refl _ _).grown hgb hbw.size (fun g h => by injection h with h; subst h; exact Nat.le_trans hwb hbm)
                    have e16 : val 16 = .pointer (some ⟨gM, 0 + k * 2, none⟩) := hd 16 (memB_mem.1 rfl)
                    have ha := ha.sub (Sub.ins (d := 171) (Sub.nil _) (dep_get rfl e16))
                    exact ss_val ha rfl rfl (fa_23_1 rfl) rfl rfl
                  | 18, _ =>
                    intro val fl w1 a hb ha hd hfl
                    obtain ⟨hgb, hg0⟩ := hb
                    have hb : Below w.heap.size w12 w1 := (Below.refl _ _).grown hgb hbw.size (fun g h => by injection h with h; subst h; exact Nat.le_trans hwb hbm)
                    have e17 : val 17 = .pointer (some ⟨gM, 0 + k * 2 + 1, none⟩) := hd 17 (memB_mem.1 rfl)
                    have ha := ha.sub (Sub.ins (d := 172) (Sub.nil _) (dep_get rfl e17))
                    have ccM := own_cells (k := k) (row := rm) (by rw [blM]; exact hg0 (hfl 30 (by simp) (memB_mem.1 rfl))) (by omega)
                    rw [hbM] at ccM
                    exact ss_val ha rfl rfl (ld_3 rfl ccM.2) rfl rfl
                  | 19, _ =>
                    intro val fl w1 a hb ha hd hfl
                    obtain ⟨hgb, hg0⟩ := hb
                    have hb : Below w.heap.size w12 w1 := (Below.refl _ _).grown hgb hbw.size (fun g h => by injection h with h; subst h; exact Nat.le_trans hwb hbm)
                    have ha := ha.sub (Sub.ins (d := 4) (Sub.nil _) rfl)
                    exact ss_val ha rfl rfl (fa_40_1 rfl) rfl rfl
                  | 20, _ =>
                    intro val fl w1 a hb ha hd hfl
                    obtain ⟨hgb, hg0⟩ := hb
                    have hb : Below w.heap.size w12 w1 := (Below.refl _ _).grown hgb hbw.size (fun g h => by injection h with h; subst h; exact Nat.le_trans hwb hbm)
                    have e19 : val 19 = .pointer (some ⟨g2, 1, none⟩) := hd 19 (memB_mem.1 rfl)
                    have ha := ha.sub (Sub.ins (d := 174) (Sub.nil _) (dep_get rfl e19))
                    exact ss_val ha rfl rfl (ld_38 rfl ((q2.grown hgb (fun h => ne21_4 (Option.some.inj h))).at (j := 1) rfl)) rfl rfl
                  | 21, _ =>
                    intro val fl w1 a hb ha hd hfl
                    obtain ⟨hgb, hg0⟩ := hb
                    have hb : Below w.heap.size w12 w1 := (Below.refl _ _).grown hgb hbw.size (fun g h => by injection h with h; subst h; exact Nat.le_trans hwb hbm)
                    have ha := ha.sub (Sub.ins (d := 13) (Sub.nil _) rfl)
                    exact ss_val ha rfl rfl (x_move rfl) rfl rfl
                  | 22, _ =>
                    intro val fl w1 a hb ha hd hfl
                    obtain ⟨hgb, hg0⟩ := hb
                    have hb : Below w.heap.size w12 w1 := (Below.refl _ _).grown hgb hbw.size (fun g h => by injection h with h; subst h; exact Nat.le_trans hwb hbm)
                    have ha := ha.sub (Sub.ins (d := 14) (Sub.nil _) rfl)
                    exact ss_val ha rfl rfl (x_move rfl) rfl rfl
                  | 23, _ =>
                    intro val fl w1 a hb ha hd hfl
                    obtain ⟨hgb, hg0⟩ := hb
                    have hb : Below w.heap.size w12 w1 := (Below.refl _ _).grown hgb hbw.size (fun g h => by injection h with h; subst h; exact Nat.le_trans hwb hbm)
                    have e21 : val 21 = .int .i64 (i : Nat) := hd 21 (memB_mem.1 rfl)
                    have e22 : val 22 = .int .i64 (k : Nat) := hd 22 (memB_mem.1 rfl)
                    have ha := ha.sub (Sub.ins (d := 177) (Sub.ins (d := 176) (Sub.nil _) (dep_get rfl e21)) (dep_get rfl e22))
                    exact ss_val ha rfl rfl (x_add rfl rfl (c := ((i + k : Nat) : Int)) ((IntWalk.i64_in _ ⟨by omega, by omega⟩).trans (by omega))) rfl rfl
                  | 24, _ =>
                    intro val fl w1 a hb ha hd hfl
                    obtain ⟨hgb, hg0⟩ := hb
                    have hb : Below w.heap.size w12 w1 := (Below.refl _ _).grown hgb hbw.size (fun g h => by injection h with h; subst h; exact Nat.le_trans hwb hbm)
                    have e20 : val 20 = .slice As2 zs.length cs2 := hd 20 (memB_mem.1 rfl)
                    have e23 : val 23 = .int .i64 ((i + k) : Nat) := hd 23 (memB_mem.1 rfl)
                    have ha := ha.sub (Sub.ins (d := 178) (Sub.ins (d := 175) (Sub.nil _) (dep_get rfl e20)) (dep_get rfl e23))
                    refine ss_call ha rfl rfl (cl_22 rfl rfl) (part_as ey (part_any zs _ (i + k) w1 B (hw2.below ((hbw.trans hb).mono hB)) (by omega))) rfl ?_
                    rintro e w' ⟨rfl, hb'⟩
                    exact ⟨_, rfl, hb', rfl⟩
                  | 25, _ =>
                    intro val fl w1 a hb ha hd hfl
                    obtain ⟨hgb, hg0⟩ := hb
                    have hb : Below w.heap.size w12 w1 := (Below.refl _ _).grown hgb hbw.size (fun g h => by injection h with h; subst h; exact Nat.le_trans hwb hbm)
                    have e24 : val 24 = .int .u8 y := hd 24 (memB_mem.1 rfl)
                    have ha := ha.sub (Sub.ins (d := 179) (Sub.nil _) (dep_get rfl e24))
                    exact ss_val ha rfl rfl (cv_5_3 rfl (IntWalk.i64_in _ ⟨by omega, by omega⟩)) rfl rfl
                  | 26, _ =>
                    intro val fl w1 a hb ha hd hfl
                    obtain ⟨hgb, hg0⟩ := hb
                    have hb : Below w.heap.size w12 w1 := (Below.refl _ _).grown hgb hbw.size (fun g h => by injection h with h; subst h; exact Nat.le_trans hwb hbm)
                    have e18 : val 18 = .int .i64 b.hi := hd 18 (memB_mem.1 rfl)
                    have e25 : val 25 = .int .i64 y := hd 25 (memB_mem.1 rfl)
                    have ha := ha.sub (Sub.ins (d := 180) (Sub.ins (d := 173) (Sub.nil _) (dep_get rfl e18)) (dep_get rfl e25))
                    exact ss_val ha rfl rfl (x_add rfl rfl (by first | assumption | exact IntWalk.i64_in _ ⟨by omega, by omega⟩)) rfl rfl
                  | 27, _ =>
                    intro val fl w1 a hb ha hd hfl
                    obtain ⟨hgb, hg0⟩ := hb
                    have hb : Below w.heap.size w12 w1 := (Below.refl _ _).grown hgb hbw.size (fun g h => by injection h with h; subst h; exact Nat.le_trans hwb hbm)
                    have e26 : val 26 = .int .i64 (b.hi + y) := hd 26 (memB_mem.1 rfl)
                    have ha := ha.sub (Sub.ins (d := 181) (Sub.nil _) (dep_get rfl e26))
                    exact ss_val ha rfl rfl (mm_min rfl rfl rfl) rfl rfl
                  | 28, _ =>
                    intro val fl w1 a hb ha hd hfl
                    obtain ⟨hgb, hg0⟩ := hb
                    have hb : Below w.heap.size w12 w1 := (Below.refl _ _).grown hgb hbw.size (fun g h => by injection h with h; subst h; exact Nat.le_trans hwb hbm)
                    have e0 : val 0 = .pointer (some ⟨gM, 0 + k * 2, none⟩) := hd 0 (memB_mem.1 rfl)
                    have ha := ha.sub (Sub.ins (d := 155) (Sub.nil _) (dep_get rfl e0))
                    exact ss_val ha rfl rfl (x_nilCheck rfl) rfl rfl
                  | 29, _ =>
                    intro val fl w1 a hb ha hd hfl
                    obtain ⟨hgb, hg0⟩ := hb
                    have hb : Below w.heap.size w12 w1 := (Below.refl _ _).grown hgb hbw.size (fun g h => by injection h with h; subst h; exact Nat.le_trans hwb hbm)
                    have e28 : val 28 = .pointer (some ⟨gM, 0 + k * 2, none⟩) := hd 28 (memB_mem.1 rfl)
                    have ha := ha.sub (Sub.ins (d := 183) (Sub.nil _) (dep_get rfl e28))
                    exact ss_val ha rfl rfl (fa_23_0 rfl) rfl rfl
                  | 30, _ =>
                    exact absurd (by simp) hs_
                  | k + 31, h => exact absurd h (by omega)
                · simp only [List.mem_singleton] at hi_; subst hi_
                  intro val fl w1 a hb hfi ha hd hfl
                  obtain ⟨hgb, hg0⟩ := hb
                  have hb : Below w.heap.size w12 w1 := (Below.refl _ _).grown hgb hbw.size (fun g h => by injection h with h; subst h; exact Nat.le_trans hwb hbm)
                  have e29 : val 29 = .pointer (some ⟨gM, 0 + k * 2, none⟩) := hd 29 (memB_mem.1 rfl)
                  have e14 : val 14 = .int .i64 (min 10000000000 (b.lo + y)) := hd 14 (memB_mem.1 rfl)
                  have ha := ha.sub (Sub.ins (d := 169) (Sub.ins (d := 184) (Sub.nil _) (dep_get rfl e29)) (dep_get rfl e14))
                  refine ts_storeRow (l' := [.int .i64 (min 10000000000 (b.lo + y))]) ha rfl rfl rfl (hg0 hfi) sz_3 rfl rfl (by rw [bdsC_len, blM]; omega) rfl ?_
                  intro w' ho2 hgr
                  rw [Nat.zero_add, bd_setL _ (by omega), hbM] at ho2
                  refine ⟨undef, rfl, hgr.size, ⟨grown_three hgb hgr, fun h => by rw [fset_eq] at h; cases h⟩, ho2, fun j _ hj hn hA => ?_⟩
                  exact phiS_cons_st (C := fun j => j ≠ 30 ∧ 30 ∉ clsAt [[], [], [], [2], [2, 3], [2, 3, 4], [], [6], [], [], [8, 9], [6, 7, 8, 9, 10], [6, 7, 8, 9, 10, 11], [2, 3, 4, 5, 6, 7, 8, 9, 10, 11, 12], [2, 3, 4, 5, 6, 7, 8, 9, 10, 11, 12, 13], [], [15], [15, 16], [15, 16, 17], [], [19], [], [], [21, 22], [6, 7, 8, 9, 10, 11, 19, 20, 21, 22, 23], [6, 7, 8, 9, 10, 11, 19, 20, 21, 22, 23, 24], [6, 7, 8, 9, 10, 11, 15, 16, 17, 18, 19, 20, 21, 22, 23, 24, 25], [6, 7, 8, 9, 10, 11, 15, 16, 17, 18, 19, 20, 21, 22, 23, 24, 25, 26], [0, 2, 3, 4, 5, 6, 7, 8, 9, 10, 11, 12, 13, 14, 15, 16, 17, 18, 19, 20, 21, 22, 23, 24], [0, 2, 3, 4, 5, 6, 7, 8, 9, 10, 11, 12, 13, 14, 15, 16, 17, 18, 19, 20, 21, 22, 23, 24, 28], [0, 2, 3, 4, 5, 6, 7, 8, 9, 10, 11, 12, 13, 14, 15, 16, 17, 18, 19, 20, 21, 22, 23, 24, 28, 29], [0, 1, 2, 3, 4, 5, 6, 7, 8, 9, 10, 11, 12, 13, 14, 15, 16, 17, 18, 19, 20, 21, 22, 23, 24, 25, 26, 27, 28, 29, 30], [0, 1, 2, 3, 4, 5, 6, 7, 8, 9, 10, 11, 12, 13, 14, 15, 16, 17, 18, 19, 20, 21, 22, 23, 24, 25, 26, 27, 28, 29, 30, 31], [0, 1, 2, 3, 4, 5, 6, 7, 8, 9, 10, 11, 12, 13, 14, 15, 16, 17, 18, 19, 20, 21, 22, 23, 24, 25, 26, 27, 28, 29, 30, 31, 32]] j) (fun hc => absurd rfl hc.1) (fun _ _ h => h) j ⟨hj, hn⟩
                · intro val fl wR21 hfl hb halc hd
                  obtain ⟨hgb, _⟩ := hb
                  have ho2 := hd 30 (by omega)
                  change World.ownsRow wR21 B0 23 2 (.slice (some ⟨gM, 0, none⟩) row.length crM) row.length (bdsC (rm.set k ⟨min 10000000000 (b.lo + y), b.hi⟩)) at ho2
                  have e0 : val 0 = .pointer (some ⟨gM, 0 + k * 2, none⟩) := hd 0 (by omega)
                  have e1 : val 1 = .pointer (some ⟨gM, 0 + k * 2, none⟩) := hd 1 (by omega)
                  have e2 : val 2 = .pointer (some ⟨gM, 0 + k * 2, none⟩) := hd 2 (by omega)
                  have e3 : val 3 = .pointer (some ⟨gM, 0 + k * 2, none⟩) := hd 3 (by omega)
                  have e4 : val 4 = .pointer (some ⟨gM, 0 + k * 2, none⟩) := hd 4 (by omega)
                  have e5 : val 5 = .int .i64 b.lo := hd 5 (by omega)
                  have e6 : val 6 = .pointer (some ⟨g2, 1, none⟩) := hd 6 (by omega)
                  have e7 : val 7 = .slice As2 zs.length cs2 := hd 7 (by omega)
                  have e8 : val 8 = .int .i64 (i : Nat) := hd 8 (by omega)
                  have e9 : val 9 = .int .i64 (k : Nat) := hd 9 (by omega)
                  have e10 : val 10 = .int .i64 ((i + k) : Nat) := hd 10 (by omega)
                  have e11 : val 11 = .int .u8 y := hd 11 (by omega)
                  have e12 : val 12 = .int .i64 y := hd 12 (by omega)
                  have e13 : val 13 = .int .i64 (b.lo + y) := hd 13 (by omega)
                  have e14 : val 14 = .int .i64 (min 10000000000 (b.lo + y)) := hd 14 (by omega)
                  have e15 : val 15 = .pointer (some ⟨gM, 0 + k * 2, none⟩) := hd 15 (by omega)
                  have e16 : val 16 = .pointer (some ⟨gM, 0 + k * 2, none⟩) := hd 16 (by omega)
                  have e17 : val 17 = .pointer (some ⟨gM, 0 + k * 2 + 1, none⟩) := hd 17 (by omega)
                  have e18 : val 18 = .int .i64 b.hi := hd 18 (by omega)
                  have e19 : val 19 = .pointer (some ⟨g2, 1, none⟩) := hd 19 (by omega)
                  have e20 : val 20 = .slice As2 zs.length cs2 := hd 20 (by omega)
                  have e21 : val 21 = .int .i64 (i : Nat) := hd 21 (by omega)
                  have e22 : val 22 = .int .i64 (k : Nat) := hd 22 (by omega)
                  have e23 : val 23 = .int .i64 ((i + k) : Nat) := hd 23 (by omega)
                  have e24 : val 24 = .int .u8 y := hd 24 (by omega)
                  have e25 : val 25 = .int .i64 y := hd 25 (by omega)
                  have e26 : val 26 = .int .i64 (b.hi + y) := hd 26 (by omega)
                  have e27 : val 27 = .int .i64 (min 10000000000 (b.hi + y)) := hd 27 (by omega)
                  have e28 : val 28 = .pointer (some ⟨gM, 0 + k * 2, none⟩) := hd 28 (by omega)
                  have e29 : val 29 = .pointer (some ⟨gM, 0 + k * 2, none⟩) := hd 29 (by omega)
                  refine EL.ends (cs := [.pointer (some ⟨gM, 0 + k * 2, none⟩), .pointer (some ⟨gM, 0 + k * 2, none⟩), .pointer (some ⟨gM, 0 + k * 2, none⟩), .pointer (some ⟨gM, 0 + k * 2, none⟩), .pointer (some ⟨gM, 0 + k * 2, none⟩), .int .i64 b.lo, .pointer (some ⟨g2, 1, none⟩), .slice As2 zs.length cs2, .int .i64 (i : Nat), .int .i64 (k : Nat), .int .i64 ((i + k) : Nat), .int .u8 y, .int .i64 y, .int .i64 (b.lo + y), .int .i64 (min 10000000000 (b.lo + y)), .pointer (some ⟨gM, 0 + k * 2, none⟩), .pointer (some ⟨gM, 0 + k * 2, none⟩), .pointer (some ⟨gM, 0 + k * 2 + 1, none⟩), .int .i64 b.hi, .pointer (some ⟨g2, 1, none⟩), .slice As2 zs.length cs2, .int .i64 (i : Nat), .int .i64 (k : Nat), .int .i64 ((i + k) : Nat), .int .u8 y, .int .i64 y, .int .i64 (b.hi + y), .int .i64 (min 10000000000 (b.hi + y)), .pointer (some ⟨gM, 0 + k * 2, none⟩), .pointer (some ⟨gM, 0 + k * 2, none⟩), val 30]) ⟨e0, e1, e2, e3, e4, e5, e6, e7, e8, e9, e10, e11, e12, e13, e14, e15, e16, e17, e18, e19, e20, e21, e22, e23, e24, e25, e26, e27, e28, e29, rfl, trivial⟩ rfl ?_
                  replace q1 := q1.grown hgb (fun h => ne21_3 (Option.some.inj h))
                  replace q2 := q2.grown hgb (fun h => ne21_4 (Option.some.inj h))
                  replace q3 := q3.grown hgb (fun h => ne21_5 (Option.some.inj h))
                  replace qa14_9 := qa14_9.grown hgb (fun h => ne21_11 (Option.some.inj h))
                  replace qa15_9 := qa15_9.grown hgb (fun h => ne21_12 (Option.some.inj h))
                  replace hbw := below_store hbw hgb (Nat.le_trans hwb hbm)
                  obtain ⟨rm1, erm1⟩ : ∃ z, z = rm.set k ⟨min 10000000000 (b.lo + y), b.hi⟩ := ⟨_, rfl⟩
                  rw [← erm1] at ho2
                  have bl_rm1 : rm1.length = row.length := by rw [erm1, List.length_set]; exact blM
                  replace TF := TF.setM (i := i) (row := rm1) (by rw [List.length_set]; omega) (by rw [bl_rm1]; exact erM) (by rw [bl_rm1, getD_setR (by omega), if_pos rfl]; exact blM.symm) (by rw [bl_rm1]; exact ho2) hgb hcur_
                  rw [List.set_set] at TF
                  clear ho2 hcur_
                  refine EL.val (x_nilCheck rfl) rfl ?_
                  refine EL.val (fa_23_1 rfl) rfl ?_
                  have hb3 : rm1.getD k bd0 = ⟨min 10000000000 (b.lo + y), b.hi⟩ := by rw [erm1, getD_setR (by omega), if_pos rfl]
                  obtain ⟨hscM, hsrM⟩ := row_again TF.fM (by omega) bl_rm1 (by omega) erM
                  obtain ⟨cur_, hcur_⟩ := own_blk hsrM
                  have ne13_3 := row_ne2 (e := 23) hsrM q1 rfl
                  have ne13_4 := row_ne2 (e := 23) hsrM q2 rfl
                  have ne13_5 := row_ne2 (e := 23) hsrM q3 rfl
                  have ne13_11 := row_ne2 (e := 23) hsrM qa14_9 rfl
                  have ne13_12 := row_ne2 (e := 23) hsrM qa15_9 rfl
                  have hbm := (hsrM.lt gM rfl).1
                  refine EL.storeRow (l' := [.int .i64 (min 10000000000 (b.hi + y))]) rfl rfl hsrM sz_3 rfl rfl (by rw [bdsC_len, bl_rm1]; omega) rfl ?_
                  intro w13 ho2 hg13
                  replace q1 := q1.grown hg13 (fun h => ne13_3 (Option.some.inj h))
                  replace q2 := q2.grown hg13 (fun h => ne13_4 (Option.some.inj h))
                  replace q3 := q3.grown hg13 (fun h => ne13_5 (Option.some.inj h))
                  replace qa14_9 := qa14_9.grown hg13 (fun h => ne13_11 (Option.some.inj h))
                  replace qa15_9 := qa15_9.grown hg13 (fun h => ne13_12 (Option.some.inj h))
                  replace hbw := below_store hbw hg13 (Nat.le_trans hwb hbm)
                  rw [Nat.zero_add, bd_setH _ (by omega), hb3] at ho2
                  obtain ⟨rm2, erm2⟩ : ∃ z, z = rm1.set k ⟨min 10000000000 (b.lo + y), min 10000000000 (b.hi + y)⟩ := ⟨_, rfl⟩
                  rw [← erm2] at ho2
                  have bl_rm2 : rm2.length = row.length := by rw [erm2, List.length_set]; exact bl_rm1
                  replace TF := TF.setM (i := i) (row := rm2) (by rw [List.length_set]; omega) (by rw [bl_rm2]; exact erM) (by rw [bl_rm2, getD_setR (by omega), if_pos rfl]; exact bl_rm1.symm) (by rw [bl_rm2]; exact ho2) hg13 hcur_
                  rw [List.set_set] at TF
                  clear ho2 hcur_
                  refine EL.nil ?_
                  refine EX.blk ?_
                  refine EX.seq ?_
                  refine EC.region ?_
                  refine EL.val (x_move rfl) rfl ?_
                  refine EL.val (x_add rfl rfl (by first | assumption | exact IntWalk.i64_in _ ⟨by omega, by omega⟩)) rfl ?_
                  refine EL.val (x_assign rfl) rfl ?_
                  refine EL.nil ?_
                  have hfL : rl2 = upB (lessF bs zs i) row (k + 1) := by rw [erl2, erl1, List.set_set, upB, ← erl, ← eb, lessF, narB, ← ey, ← eyb, ← elo, ← eq5]
                  have hfM : rm2 = upB (moreF zs i) row (k + 1) := by rw [erm2, erm1, List.set_set, upB, ← erm, ← eb, moreF, incB, ← ey]
                  rw [hfL, hfM] at TF
                  refine EX.roundD (k + 1) ⟨rfl, trivial⟩ (by repeat first | with_reducible exact Sub.refl _ | refine sub_past rfl ?_ | exact Sub.refl _ | refine sub_del rfl ?_ | refine sub_insL_nil ?_) ⟨hkl, TF, q1, q2, q3, qa14_9, qa15_9, hbw⟩ (by omega)
            ·
              obtain rfl : k = row.length := by omega
              obtain ⟨hscL, hsrL⟩ := row_again TF.fL (by omega) blL (by omega) erL
              have hsL : ml.set i rl = upS (lessF bs zs) sides (i + 1) := by rw [upS, ← eml, ← erow, erl]
              have hsM : mm.set i rm = upS (moreF zs) sides (i + 1) := by rw [upS, ← emm, ← erow, erm]
              rw [hsL, hsM] at TF
              refine EC.seq ?_
              refine EC.seq ?_
              refine EC.region ?_
              refine EL.val (x_move rfl) rfl ?_
              refine EL.val (fa_54_1 rfl) rfl ?_
              refine EL.val (ld_52 rfl (qa14_9.at (j := 2) rfl)) rfl ?_
              refine EL.val (x_move rfl) rfl ?_
              refine EL.val (ix_52 rfl rfl (by omega)) rfl ?_
              refine EL.val (ld_28 rfl hscL) rfl ?_
              refine EL.val (ln_28 rfl) rfl ?_
              refine EL.val (x_lss rfl rfl (by first | assumption | exact decide_eq_false (by omega))) rfl ?_
              refine EL.nil ?_
              refine EX.seq ?_
              refine EC.no rfl ?_
              refine EC.exit ?_
              refine EX.seq_exit ?_
              refine EX.seq_exit ?_
              refine EX.blk_here ?_
              refine EX.blk ?_
              refine EX.seq ?_
              refine EC.region ?_
              refine EL.val (x_move rfl) rfl ?_
              refine EL.val (x_add rfl rfl (by first | assumption | exact IntWalk.i64_in _ ⟨by omega, by omega⟩)) rfl ?_
              refine EL.val (x_assign rfl) rfl ?_
              refine EL.nil ?_
              refine EX.roundD (i + 1) ⟨rfl, trivial⟩ (by repeat first | with_reducible exact Sub.refl _ | refine sub_past rfl ?_ | exact Sub.refl _ | refine sub_del rfl ?_ | refine sub_insL_nil ?_) ⟨hlt, TF, q1, q2, q3, qa14_9, qa15_9, hbw⟩ (by omega)
          ·
            obtain rfl : i = sides.length := by omega
            refine EC.seq ?_
            refine EC.seq ?_
            refine EC.region ?_
            refine EL.val (x_move rfl) rfl ?_
            refine EL.val (fa_54_1 rfl) rfl ?_
            refine EL.val (ld_52 rfl (qa14_9.at (j := 2) rfl)) rfl ?_
            refine EL.val (ln_52 rfl) rfl ?_
            refine EL.val (x_lss rfl rfl (by first | assumption | exact decide_eq_false (by omega))) rfl ?_
            refine EL.nil ?_
            refine EX.seq ?_
            refine EC.no rfl ?_
            refine EC.exit ?_
            refine EX.seq_exit ?_
            refine EX.seq_exit ?_
            refine EX.blk_here ?_
            refine EX.seq ?_
            refine EC.seq ?_
            obtain ⟨q9, hq9⟩ : ∃ z, ((m2 : Nat) : Int).tmod 900 = z := ⟨_, rfl⟩
            have hq91 : 0 ≤ q9 := by rw [← hq9]; exact Int.tmod_nonneg _ (by omega)
            have hq92 : q9 < 900 := by rw [← hq9]; exact Int.tmod_lt_of_pos _ (by omega)
            obtain ⟨x0, ex0⟩ : ∃ x : Shoal, x = ⟨pp, ⟨q9, 900⟩, 0, ⟨0, 0⟩⟩ := ⟨_, rfl⟩
            have hxb : shoalB (placesOf rv.reaches) x0 = true := by
              rw [ex0]
              simp only [shoalB, Bool.and_eq_true, inB_iff, bdOk_iff]
              omega
            have hN := nar_all (bs := bs) (zs := zs) (x := x0) hst hv1 hv2 f4 (by omega) hxb hpp1 hpp2 htt1 htt2
            obtain ⟨sl, esl⟩ : ∃ z, z = upS (lessF bs zs) sides sides.length := ⟨_, rfl⟩
            obtain ⟨sm, esm⟩ : ∃ z, z = upS (moreF zs) sides sides.length := ⟨_, rfl⟩
            rw [← esl, ← esm] at hN TF
            have nl := hN.nl
            have nm := hN.nm
            have d1 := hN.d1
            have d2 := hN.d2
            have d3 := hN.d3
            have d4 := hN.d4
            have d5 := hN.d5
            have d6 := hN.d6
            have d7 := hN.d7
            have d8 := hN.d8
            have hws : (withShoal rv x0).shoals.length = rv.shoals.length + 1 := by simp [withShoal]
            have hwr : (withShoal rv x0).reaches.length = rv.reaches.length := rfl
            have hwp : placesOf (withShoal rv x0).reaches = placesOf rv.reaches := rfl
            clear esl esm
            have lt_1 := q1.lt
            have lt_2 := q2.lt
            have lt_3 := q3.lt
            have lt_7 := qa14_9.lt
            have lt_8 := qa15_9.lt
            refine EC.regionS [[], [0], [0, 1], [], [3], [0, 1, 2, 3, 4], [], [], [0, 1, 2, 3, 4, 5, 6, 7], [0, 1, 2, 3, 4, 5, 6, 7, 8], [0, 1, 2, 3, 4, 5, 6, 7, 8, 9], [0, 1, 2, 3, 4, 5, 6, 7, 8, 9], [], [0, 1, 2, 3, 4, 5, 6, 7, 8, 9, 10, 12], [0, 1, 2, 3, 4, 5, 6, 7, 8, 9, 10, 11, 12, 13]] 14 [12] [13] (fun _ w_ => Below wi.heap.size wi w_) (phiS (fun i_ r => match i_ with | 0 => r 0 = .pointer (some ⟨g1, 0, none⟩) | 1 => r 1 = .agg #[.slice (some ⟨bR, oR, none⟩) rv.reaches.length c, .slice A' rv.shoals.length c'] | 3 => r 3 = .pointer (some ⟨g1, 2, none⟩) | 4 => r 4 = .slice (some ⟨bS, oS, none⟩) sides.length d | 6 => r 6 = .int .i64 pp | 7 => r 7 = .int .i64 tt | 8 => r 8 = .tuple #[.agg #[.int .i64 (depthAt rv sides pp tt).lo, .int .i64 (depthAt rv sides pp tt).hi], .int .i64 0] | 9 => r 9 = .tuple #[.agg #[.int .i64 (depthAt rv sides pp tt).lo, .int .i64 (depthAt rv sides pp tt).hi], .int .i64 0] | 10 => r 10 = .agg #[.int .i64 (depthAt rv sides pp tt).lo, .int .i64 (depthAt rv sides pp tt).hi] | 11 => r 11 = .int .i64 0 | _ => True) [(2, fun fl r w_ => fl 13 = false → (∃ a b vs, r 2 = .agg #[a, b] ∧ RdRiver w_ w_.heap.size a b rv vs)), (5, fun fl r w_ => fl 13 = false → (∃ v ss, r 5 = v ∧ RdSides w_ w_.heap.size v sides ss)), (12, fun fl r w_ => ∃ g_, r 12 = .pointer (some ⟨g_, 0, none⟩) ∧ wi.heap.size ≤ g_ ∧ (fl 13 = false → Blk w_ g_ 23 #[.int .i64 0, .int .i64 0])), (13, fun _ r w_ => ∃ g_, r 12 = .pointer (some ⟨g_, 0, none⟩) ∧ Blk w_ g_ 23 #[.int .i64 (depthAt rv sides pp tt).lo, .int .i64 (depthAt rv sides pp tt).hi])]) (by kernel_rfl) rfl rfl (by intro i hi; simp at hi; first | (subst hi; exact ⟨by simp, by omega⟩) | (rcases hi with rfl | rfl | rfl <;> exact ⟨by simp, by omega⟩) | (rcases hi with rfl | rfl <;> exact ⟨by simp, by omega⟩)) (base_below wi) (phiS_cons (monoS_till mono_riv) (phiS_cons (monoS_till mono_sid) (phiS_cons monoS_alloc (phiS_cons monoS_store (phiS_nil))))) (fun i_ hi_ hs_ => ?_) (fun i_ hi_ => ?_) ?_
            · match i_, hi_ with
              | 0, _ =>
                intro val fl w1 a hb ha hd hfl
                have ha := ha.sub (Sub.ins (d := 3) (Sub.nil _) rfl)
                exact ss_val ha rfl rfl (fa_54_0 rfl) rfl rfl
              | 1, _ =>
                intro val fl w1 a hb ha hd hfl
                have e0 : val 0 = .pointer (some ⟨g1, 0, none⟩) := hd 0 (memB_mem.1 rfl)
                have ha := ha.sub (Sub.ins (d := 188) (Sub.nil _) (dep_get rfl e0))
                exact ss_val ha rfl rfl (ld_47 rfl ((q1.below hb q1.lt).at (j := 0) rfl) ((q1.below hb q1.lt).at (j := 1) rfl)) rfl rfl
              | 2, _ =>
                intro val fl w1 a hb ha hd hfl
                have e1 : val 1 = .agg #[.slice (some ⟨bR, oR, none⟩) rv.reaches.length c, .slice A' rv.shoals.length c'] := hd 1 (memB_mem.1 rfl)
                have ha := ha.sub (Sub.ins (d := 189) (Sub.nil _) (dep_get rfl e1))
                refine ss_call ha rfl rfl (cl_24 rfl) (copied_any rv _ _ _ _ _ (hr.below ((Below.on hbw hb hbw.size).mono hB)) (Nat.le_trans hB (Below.on hbw hb hbw.size).size) (by omega) (by omega) f3) rfl ?_
                rintro e w' ⟨⟨v1, u1, vs1, rfl, hcp⟩, hb'⟩
                exact ⟨_, rfl, hb', fun _ => ⟨_, _, _, rfl, hcp⟩⟩
              | 3, _ =>
                intro val fl w1 a hb ha hd hfl
                have ha := ha.sub (Sub.ins (d := 3) (Sub.nil _) rfl)
                exact ss_val ha rfl rfl (fa_54_1 rfl) rfl rfl
              | 4, _ =>
                intro val fl w1 a hb ha hd hfl
                have e3 : val 3 = .pointer (some ⟨g1, 2, none⟩) := hd 3 (memB_mem.1 rfl)
                have ha := ha.sub (Sub.ins (d := 191) (Sub.nil _) (dep_get rfl e3))
                exact ss_val ha rfl rfl (ld_52 rfl ((q1.below hb q1.lt).at (j := 2) rfl)) rfl rfl
              | 5, _ =>
                intro val fl w1 a hb ha hd hfl
                have e4 : val 4 = .slice (some ⟨bS, oS, none⟩) sides.length d := hd 4 (memB_mem.1 rfl)
                have ha := ha.sub (Sub.ins (d := 192) (Sub.nil _) (dep_get rfl e4))
                refine ss_call ha rfl rfl (cl_34 rfl) (forecast_any sides _ _ _ _ (hs.below ((Below.on hbw hb hbw.size).mono hB)) (Nat.le_trans hB (Below.on hbw hb hbw.size).size) (by omega) f4) rfl ?_
                rintro e w' ⟨⟨v1, ss1, rfl, hcp⟩, hb'⟩
                exact ⟨_, rfl, hb', fun _ => ⟨_, _, rfl, hcp⟩⟩
              | 6, _ =>
                intro val fl w1 a hb ha hd hfl
                have ha := ha.sub (Sub.ins (d := 9) (Sub.nil _) rfl)
                exact ss_val ha rfl rfl (x_move rfl) rfl rfl
              | 7, _ =>
                intro val fl w1 a hb ha hd hfl
                have ha := ha.sub (Sub.ins (d := 10) (Sub.nil _) rfl)
                exact ss_val ha rfl rfl (x_move rfl) rfl rfl
              | 8, _ =>
                intro val fl w1 a hb ha hd hfl
                obtain ⟨a2_, b2_, vs2_, e2, q2_⟩ := hd 2 (memB_mem.1 rfl) (hfl 13 (by simp) (memB_mem.1 rfl))
                obtain ⟨v5_, ss5_, e5, q5_⟩ := hd 5 (memB_mem.1 rfl) (hfl 13 (by simp) (memB_mem.1 rfl))
                have e6 : val 6 = .int .i64 pp := hd 6 (memB_mem.1 rfl)
                have e7 : val 7 = .int .i64 tt := hd 7 (memB_mem.1 rfl)
                have ha := ha.sub (Sub.ins (d := 195) (Sub.ins (d := 194) (Sub.ins (d := 193) (Sub.ins (d := 190) (Sub.nil _) (dep_get rfl e2)) (dep_get rfl e5)) (dep_get rfl e6)) (dep_get rfl e7))
                refine ss_call ha rfl rfl (cl_33 rfl rfl rfl rfl) (dep_fit rv sides _ _ _ _ _ _ w1.heap.size q2_ q5_ (Nat.le_refl _) (by omega) (by omega) f3 (by omega) f4 hst (sides.getD 0 []).length rfl (inB_iff.2 (by omega)) (inB_iff.2 (by omega))) rfl ?_
                rintro e w' ⟨rfl, hb'⟩
                exact ⟨_, rfl, hb', rfl⟩
              | 9, _ =>
                intro val fl w1 a hb ha hd hfl
                have e8 : val 8 = .tuple #[.agg #[.int .i64 (depthAt rv sides pp tt).lo, .int .i64 (depthAt rv sides pp tt).hi], .int .i64 0] := hd 8 (memB_mem.1 rfl)
                have ha := ha.sub (Sub.ins (d := 196) (Sub.nil _) (dep_get rfl e8))
                exact ss_val ha rfl rfl (x_move rfl) rfl rfl
              | 10, _ =>
                intro val fl w1 a hb ha hd hfl
                have e9 : val 9 = .tuple #[.agg #[.int .i64 (depthAt rv sides pp tt).lo, .int .i64 (depthAt rv sides pp tt).hi], .int .i64 0] := hd 9 (memB_mem.1 rfl)
                have ha := ha.sub (Sub.ins (d := 187) (Sub.nil _) (dep_get rfl e9))
                exact ss_val ha rfl rfl (x_extract rfl rfl) rfl rfl
              | 11, _ =>
                intro val fl w1 a hb ha hd hfl
                have e9 : val 9 = .tuple #[.agg #[.int .i64 (depthAt rv sides pp tt).lo, .int .i64 (depthAt rv sides pp tt).hi], .int .i64 0] := hd 9 (memB_mem.1 rfl)
                have ha := ha.sub (Sub.ins (d := 187) (Sub.nil _) (dep_get rfl e9))
                exact ss_val ha rfl rfl (x_extract rfl rfl) rfl rfl
              | 12, _ =>
                intro val fl w1 a hb ha hd hfl
                have ha := ha.sub (Sub.nil _)
                exact ss_newP ha rfl rfl al_23 (fun g w' hq _ hge => ⟨g, rfl, Nat.le_trans hb.size hge, fun _ => hq⟩)
              | 13, _ =>
                exact absurd (by simp) hs_
              | k + 14, h => exact absurd h (by omega)
            · simp only [List.mem_singleton] at hi_; subst hi_
              intro val fl w1 a hb hfi ha hd hfl
              obtain ⟨g12_, e12, hg12_, q12_⟩ := hd 12 (memB_mem.1 rfl)
              change val 12 = _ at e12
              have e10 : val 10 = .agg #[.int .i64 (depthAt rv sides pp tt).lo, .int .i64 (depthAt rv sides pp tt).hi] := hd 10 (memB_mem.1 rfl)
              have ha := ha.sub (Sub.ins (d := 197) (Sub.ins (d := 18) (Sub.nil _) (dep_get rfl e12)) (dep_get rfl e10))
              refine ts_store ha rfl rfl rfl (q12_ hfi) sz_23 rfl rfl rfl rfl ?_
              intro w' hq hgr
              refine ⟨undef, rfl, hgr.size, below_store hb hgr hg12_, ⟨g12_, e12, hq⟩, fun j _ hj hn hA => ?_⟩
              exact phiS_cons_st (C := fun j => j ≠ 13 ∧ 13 ∉ clsAt [[], [0], [0, 1], [], [3], [0, 1, 2, 3, 4], [], [], [0, 1, 2, 3, 4, 5, 6, 7], [0, 1, 2, 3, 4, 5, 6, 7, 8], [0, 1, 2, 3, 4, 5, 6, 7, 8, 9], [0, 1, 2, 3, 4, 5, 6, 7, 8, 9], [], [0, 1, 2, 3, 4, 5, 6, 7, 8, 9, 10, 12], [0, 1, 2, 3, 4, 5, 6, 7, 8, 9, 10, 11, 12, 13]] j ∧ ∀ p ∈ [12], (p = j ∨ p ∈ clsAt [[], [0], [0, 1], [], [3], [0, 1, 2, 3, 4], [], [], [0, 1, 2, 3, 4, 5, 6, 7], [0, 1, 2, 3, 4, 5, 6, 7, 8], [0, 1, 2, 3, 4, 5, 6, 7, 8, 9], [0, 1, 2, 3, 4, 5, 6, 7, 8, 9], [], [0, 1, 2, 3, 4, 5, 6, 7, 8, 9, 10, 12], [0, 1, 2, 3, 4, 5, 6, 7, 8, 9, 10, 11, 12, 13]] j) → ∀ q ∈ [12], (q = 13 ∨ q ∈ clsAt [[], [0], [0, 1], [], [3], [0, 1, 2, 3, 4], [], [], [0, 1, 2, 3, 4, 5, 6, 7], [0, 1, 2, 3, 4, 5, 6, 7, 8], [0, 1, 2, 3, 4, 5, 6, 7, 8, 9], [0, 1, 2, 3, 4, 5, 6, 7, 8, 9], [], [0, 1, 2, 3, 4, 5, 6, 7, 8, 9, 10, 12], [0, 1, 2, 3, 4, 5, 6, 7, 8, 9, 10, 11, 12, 13]] 13) → p ≠ q → val p ≠ val q) (fun _ _ h => by rw [fset_eq] at h; cases h) (phiS_cons_st (C := fun j => j ≠ 13 ∧ 13 ∉ clsAt [[], [0], [0, 1], [], [3], [0, 1, 2, 3, 4], [], [], [0, 1, 2, 3, 4, 5, 6, 7], [0, 1, 2, 3, 4, 5, 6, 7, 8], [0, 1, 2, 3, 4, 5, 6, 7, 8, 9], [0, 1, 2, 3, 4, 5, 6, 7, 8, 9], [], [0, 1, 2, 3, 4, 5, 6, 7, 8, 9, 10, 12], [0, 1, 2, 3, 4, 5, 6, 7, 8, 9, 10, 11, 12, 13]] j ∧ ∀ p ∈ [12], (p = j ∨ p ∈ clsAt [[], [0], [0, 1], [], [3], [0, 1, 2, 3, 4], [], [], [0, 1, 2, 3, 4, 5, 6, 7], [0, 1, 2, 3, 4, 5, 6, 7, 8], [0, 1, 2, 3, 4, 5, 6, 7, 8, 9], [0, 1, 2, 3, 4, 5, 6, 7, 8, 9], [], [0, 1, 2, 3, 4, 5, 6, 7, 8, 9, 10, 12], [0, 1, 2, 3, 4, 5, 6, 7, 8, 9, 10, 11, 12, 13]] j) → ∀ q ∈ [12], (q = 13 ∨ q ∈ clsAt [[], [0], [0, 1], [], [3], [0, 1, 2, 3, 4], [], [], [0, 1, 2, 3, 4, 5, 6, 7], [0, 1, 2, 3, 4, 5, 6, 7, 8], [0, 1, 2, 3, 4, 5, 6, 7, 8, 9], [0, 1, 2, 3, 4, 5, 6, 7, 8, 9], [], [0, 1, 2, 3, 4, 5, 6, 7, 8, 9, 10, 12], [0, 1, 2, 3, 4, 5, 6, 7, 8, 9, 10, 11, 12, 13]] 13) → p ≠ q → val p ≠ val q) (fun _ _ h => by rw [fset_eq] at h; cases h) (phiS_cons_st (C := fun j => j ≠ 13 ∧ 13 ∉ clsAt [[], [0], [0, 1], [], [3], [0, 1, 2, 3, 4], [], [], [0, 1, 2, 3, 4, 5, 6, 7], [0, 1, 2, 3, 4, 5, 6, 7, 8], [0, 1, 2, 3, 4, 5, 6, 7, 8, 9], [0, 1, 2, 3, 4, 5, 6, 7, 8, 9], [], [0, 1, 2, 3, 4, 5, 6, 7, 8, 9, 10, 12], [0, 1, 2, 3, 4, 5, 6, 7, 8, 9, 10, 11, 12, 13]] j ∧ ∀ p ∈ [12], (p = j ∨ p ∈ clsAt [[], [0], [0, 1], [], [3], [0, 1, 2, 3, 4], [], [], [0, 1, 2, 3, 4, 5, 6, 7], [0, 1, 2, 3, 4, 5, 6, 7, 8], [0, 1, 2, 3, 4, 5, 6, 7, 8, 9], [0, 1, 2, 3, 4, 5, 6, 7, 8, 9], [], [0, 1, 2, 3, 4, 5, 6, 7, 8, 9, 10, 12], [0, 1, 2, 3, 4, 5, 6, 7, 8, 9, 10, 11, 12, 13]] j) → ∀ q ∈ [12], (q = 13 ∨ q ∈ clsAt [[], [0], [0, 1], [], [3], [0, 1, 2, 3, 4], [], [], [0, 1, 2, 3, 4, 5, 6, 7], [0, 1, 2, 3, 4, 5, 6, 7, 8], [0, 1, 2, 3, 4, 5, 6, 7, 8, 9], [0, 1, 2, 3, 4, 5, 6, 7, 8, 9], [], [0, 1, 2, 3, 4, 5, 6, 7, 8, 9, 10, 12], [0, 1, 2, 3, 4, 5, 6, 7, 8, 9, 10, 11, 12, 13]] 13) → p ≠ q → val p ≠ val q) (fun _ ⟨g, h1, h2, _⟩ => ⟨g, h1, h2, fun h => by rw [fset_eq] at h; cases h⟩) (phiS_cons_st (C := fun j => j ≠ 13 ∧ 13 ∉ clsAt [[], [0], [0, 1], [], [3], [0, 1, 2, 3, 4], [], [], [0, 1, 2, 3, 4, 5, 6, 7], [0, 1, 2, 3, 4, 5, 6, 7, 8], [0, 1, 2, 3, 4, 5, 6, 7, 8, 9], [0, 1, 2, 3, 4, 5, 6, 7, 8, 9], [], [0, 1, 2, 3, 4, 5, 6, 7, 8, 9, 10, 12], [0, 1, 2, 3, 4, 5, 6, 7, 8, 9, 10, 11, 12, 13]] j ∧ ∀ p ∈ [12], (p = j ∨ p ∈ clsAt [[], [0], [0, 1], [], [3], [0, 1, 2, 3, 4], [], [], [0, 1, 2, 3, 4, 5, 6, 7], [0, 1, 2, 3, 4, 5, 6, 7, 8], [0, 1, 2, 3, 4, 5, 6, 7, 8, 9], [0, 1, 2, 3, 4, 5, 6, 7, 8, 9], [], [0, 1, 2, 3, 4, 5, 6, 7, 8, 9, 10, 12], [0, 1, 2, 3, 4, 5, 6, 7, 8, 9, 10, 11, 12, 13]] j) → ∀ q ∈ [12], (q = 13 ∨ q ∈ clsAt [[], [0], [0, 1], [], [3], [0, 1, 2, 3, 4], [], [], [0, 1, 2, 3, 4, 5, 6, 7], [0, 1, 2, 3, 4, 5, 6, 7, 8], [0, 1, 2, 3, 4, 5, 6, 7, 8, 9], [0, 1, 2, 3, 4, 5, 6, 7, 8, 9], [], [0, 1, 2, 3, 4, 5, 6, 7, 8, 9, 10, 12], [0, 1, 2, 3, 4, 5, 6, 7, 8, 9, 10, 11, 12, 13]] 13) → p ≠ q → val p ≠ val q) (fun hc => absurd rfl hc.1) (fun _ _ h => h)))) j ⟨hj, hn, hA⟩
            · intro val fl wR22 hfl hb halc hd
              have e0 : val 0 = .pointer (some ⟨g1, 0, none⟩) := hd 0 (by omega)
              have e1 : val 1 = .agg #[.slice (some ⟨bR, oR, none⟩) rv.reaches.length c, .slice A' rv.shoals.length c'] := hd 1 (by omega)
              have e3 : val 3 = .pointer (some ⟨g1, 2, none⟩) := hd 3 (by omega)
              have e4 : val 4 = .slice (some ⟨bS, oS, none⟩) sides.length d := hd 4 (by omega)
              have e6 : val 6 = .int .i64 pp := hd 6 (by omega)
              have e7 : val 7 = .int .i64 tt := hd 7 (by omega)
              have e8 : val 8 = .tuple #[.agg #[.int .i64 (depthAt rv sides pp tt).lo, .int .i64 (depthAt rv sides pp tt).hi], .int .i64 0] := hd 8 (by omega)
              have e9 : val 9 = .tuple #[.agg #[.int .i64 (depthAt rv sides pp tt).lo, .int .i64 (depthAt rv sides pp tt).hi], .int .i64 0] := hd 9 (by omega)
              have e10 : val 10 = .agg #[.int .i64 (depthAt rv sides pp tt).lo, .int .i64 (depthAt rv sides pp tt).hi] := hd 10 (by omega)
              have e11 : val 11 = .int .i64 0 := hd 11 (by omega)
              obtain ⟨ga12_22, e12, qa12_22⟩ := hd 13 (by omega)
              change val 12 = _ at e12
              refine EL.ends (cs := [.pointer (some ⟨g1, 0, none⟩), .agg #[.slice (some ⟨bR, oR, none⟩) rv.reaches.length c, .slice A' rv.shoals.length c'], val 2, .pointer (some ⟨g1, 2, none⟩), .slice (some ⟨bS, oS, none⟩) sides.length d, val 5, .int .i64 pp, .int .i64 tt, .tuple #[.agg #[.int .i64 (depthAt rv sides pp tt).lo, .int .i64 (depthAt rv sides pp tt).hi], .int .i64 0], .tuple #[.agg #[.int .i64 (depthAt rv sides pp tt).lo, .int .i64 (depthAt rv sides pp tt).hi], .int .i64 0], .agg #[.int .i64 (depthAt rv sides pp tt).lo, .int .i64 (depthAt rv sides pp tt).hi], .int .i64 0, .pointer (some ⟨ga12_22, 0, none⟩), val 13]) ⟨e0, e1, rfl, e3, e4, rfl, e6, e7, e8, e9, e10, e11, e12, rfl, trivial⟩ rfl ?_
              replace q1 := q1.below hb q1.lt
              replace q2 := q2.below hb q2.lt
              replace q3 := q3.below hb q3.lt
              replace qa14_9 := qa14_9.below hb qa14_9.lt
              replace qa15_9 := qa15_9.below hb qa15_9.lt
              replace TF := TF.below hb
              have bge14 := alc_ge halc (i := 12) rfl rfl e12
              have n1_14 : g1 ≠ ga12_22 := Nat.ne_of_lt (Nat.lt_of_lt_of_le lt_1 bge14)
              have n2_14 : g2 ≠ ga12_22 := Nat.ne_of_lt (Nat.lt_of_lt_of_le lt_2 bge14)
              have n3_14 : g3 ≠ ga12_22 := Nat.ne_of_lt (Nat.lt_of_lt_of_le lt_3 bge14)
              have n7_14 : ga14_9 ≠ ga12_22 := Nat.ne_of_lt (Nat.lt_of_lt_of_le lt_7 bge14)
              have n8_14 : ga15_9 ≠ ga12_22 := Nat.ne_of_lt (Nat.lt_of_lt_of_le lt_8 bge14)
              have bhbw_14 := Nat.le_trans hbw.size bge14
              replace hbw := Below.on hbw hb hbw.size
              refine EL.val (x_assign rfl) rfl ?_
              refine EL.nil ?_
              refine EX.seq ?_
              refine EC.seq ?_
              have lt_1 := q1.lt
              have lt_2 := q2.lt
              have lt_3 := q3.lt
              have lt_7 := qa14_9.lt
              have lt_8 := qa15_9.lt
              have lt_14 := qa12_22.lt
              refine EC.regionS [[], [0], [0, 1], [], [3], [0, 1, 2, 3, 4], [], [], [0, 1, 2, 3, 4, 5, 6, 7], [0, 1, 2, 3, 4, 5, 6, 7, 8], [0, 1, 2, 3, 4, 5, 6, 7, 8, 9], [0, 1, 2, 3, 4, 5, 6, 7, 8, 9], [], [0, 1, 2, 3, 4, 5, 6, 7, 8, 9, 10, 12], [0, 1, 2, 3, 4, 5, 6, 7, 8, 9, 10, 11, 12, 13]] 14 [12] [13] (fun _ w_ => Below wR22.heap.size wR22 w_) (phiS (fun i_ r => match i_ with | 0 => r 0 = .pointer (some ⟨ga14_9, 0, none⟩) | 1 => r 1 = .agg #[.slice (some ⟨gaL, 0, none⟩) rv.reaches.length c6_, .slice B6_ rv.shoals.length d6_] | 3 => r 3 = .pointer (some ⟨ga14_9, 2, none⟩) | 4 => r 4 = .slice (some ⟨goL, 0, none⟩) sides.length k6_ | 6 => r 6 = .int .i64 pp | 7 => r 7 = .int .i64 tt | 8 => r 8 = .tuple #[.agg #[.int .i64 (depthAt rv sl pp tt).lo, .int .i64 (depthAt rv sl pp tt).hi], .int .i64 0] | 9 => r 9 = .tuple #[.agg #[.int .i64 (depthAt rv sl pp tt).lo, .int .i64 (depthAt rv sl pp tt).hi], .int .i64 0] | 10 => r 10 = .agg #[.int .i64 (depthAt rv sl pp tt).lo, .int .i64 (depthAt rv sl pp tt).hi] | 11 => r 11 = .int .i64 0 | _ => True) [(2, fun fl r w_ => fl 13 = false → (∃ a b vs, r 2 = .agg #[a, b] ∧ RdRiver w_ w_.heap.size a b rv vs)), (5, fun fl r w_ => fl 13 = false → (∃ v ss, r 5 = v ∧ RdSides w_ w_.heap.size v sl ss)), (12, fun fl r w_ => ∃ g_, r 12 = .pointer (some ⟨g_, 0, none⟩) ∧ wR22.heap.size ≤ g_ ∧ (fl 13 = false → Blk w_ g_ 23 #[.int .i64 0, .int .i64 0])), (13, fun _ r w_ => ∃ g_, r 12 = .pointer (some ⟨g_, 0, none⟩) ∧ Blk w_ g_ 23 #[.int .i64 (depthAt rv sl pp tt).lo, .int .i64 (depthAt rv sl pp tt).hi])]) (by kernel_rfl) rfl rfl (by intro i hi; simp at hi; first | (subst hi; exact ⟨by simp, by omega⟩) | (rcases hi with rfl | rfl | rfl <;> exact ⟨by simp, by omega⟩) | (rcases hi with rfl | rfl <;> exact ⟨by simp, by omega⟩)) (base_below wR22) (phiS_cons (monoS_till mono_riv) (phiS_cons (monoS_till mono_sid) (phiS_cons monoS_alloc (phiS_cons monoS_store (phiS_nil))))) (fun i_ hi_ hs_ => ?_) (fun i_ hi_ => ?_) ?_
              · match i_, hi_ with
                | 0, _ =>
                  intro val fl w1 a hb ha hd hfl
                  have ha := ha.sub (Sub.ins (d := 11) (Sub.nil _) rfl)
                  exact ss_val ha rfl rfl (fa_54_0 rfl) rfl rfl
                | 1, _ =>
                  intro val fl w1 a hb ha hd hfl
                  have e0 : val 0 = .pointer (some ⟨ga14_9, 0, none⟩) := hd 0 (memB_mem.1 rfl)
                  have ha := ha.sub (Sub.ins (d := 200) (Sub.nil _) (dep_get rfl e0))
                  exact ss_val ha rfl rfl (ld_47 rfl ((qa14_9.below hb qa14_9.lt).at (j := 0) rfl) ((qa14_9.below hb qa14_9.lt).at (j := 1) rfl)) rfl rfl
                | 2, _ =>
                  intro val fl w1 a hb ha hd hfl
                  have e1 : val 1 = .agg #[.slice (some ⟨gaL, 0, none⟩) rv.reaches.length c6_, .slice B6_ rv.shoals.length d6_] := hd 1 (memB_mem.1 rfl)
                  have ha := ha.sub (Sub.ins (d := 201) (Sub.nil _) (dep_get rfl e1))
                  refine ss_call ha rfl rfl (cl_24 rfl) (copied_any rv _ _ _ _ _ (TF.rL.rd.below hb) hb.size (by omega) (by omega) f3) rfl ?_
                  rintro e w' ⟨⟨v1, u1, vs1, rfl, hcp⟩, hb'⟩
                  exact ⟨_, rfl, hb', fun _ => ⟨_, _, _, rfl, hcp⟩⟩
                | 3, _ =>
                  intro val fl w1 a hb ha hd hfl
                  have ha := ha.sub (Sub.ins (d := 11) (Sub.nil _) rfl)
                  exact ss_val ha rfl rfl (fa_54_1 rfl) rfl rfl
                | 4, _ =>
                  intro val fl w1 a hb ha hd hfl
                  have e3 : val 3 = .pointer (some ⟨ga14_9, 2, none⟩) := hd 3 (memB_mem.1 rfl)
                  have ha := ha.sub (Sub.ins (d := 203) (Sub.nil _) (dep_get rfl e3))
                  exact ss_val ha rfl rfl (ld_52 rfl ((qa14_9.below hb qa14_9.lt).at (j := 2) rfl)) rfl rfl
                | 5, _ =>
                  intro val fl w1 a hb ha hd hfl
                  have e4 : val 4 = .slice (some ⟨goL, 0, none⟩) sides.length k6_ := hd 4 (memB_mem.1 rfl)
                  have ha := ha.sub (Sub.ins (d := 204) (Sub.nil _) (dep_get rfl e4))
                  refine ss_call ha rfl rfl (cl_34 rfl) (forecast_any sl _ _ _ _ (RdSides.below (OwnSides.rd TF.fL) hb) hb.size (by omega) hN.bl) rfl ?_
                  rintro e w' ⟨⟨v1, ss1, rfl, hcp⟩, hb'⟩
                  exact ⟨_, rfl, hb', fun _ => ⟨_, _, rfl, hcp⟩⟩
                | 6, _ =>
                  intro val fl w1 a hb ha hd hfl
                  have ha := ha.sub (Sub.ins (d := 9) (Sub.nil _) rfl)
                  exact ss_val ha rfl rfl (x_move rfl) rfl rfl
                | 7, _ =>
                  intro val fl w1 a hb ha hd hfl
                  have ha := ha.sub (Sub.ins (d := 10) (Sub.nil _) rfl)
                  exact ss_val ha rfl rfl (x_move rfl) rfl rfl
                | 8, _ =>
                  intro val fl w1 a hb ha hd hfl
                  obtain ⟨a2_, b2_, vs2_, e2, q2_⟩ := hd 2 (memB_mem.1 rfl) (hfl 13 (by simp) (memB_mem.1 rfl))
                  obtain ⟨v5_, ss5_, e5, q5_⟩ := hd 5 (memB_mem.1 rfl) (hfl 13 (by simp) (memB_mem.1 rfl))
                  have e6 : val 6 = .int .i64 pp := hd 6 (memB_mem.1 rfl)
                  have e7 : val 7 = .int .i64 tt := hd 7 (memB_mem.1 rfl)
                  have ha := ha.sub (Sub.ins (d := 207) (Sub.ins (d := 206) (Sub.ins (d := 205) (Sub.ins (d := 202) (Sub.nil _) (dep_get rfl e2)) (dep_get rfl e5)) (dep_get rfl e6)) (dep_get rfl e7))
                  refine ss_call ha rfl rfl (cl_33 rfl rfl rfl rfl) (dep_fit rv sl _ _ _ _ _ _ w1.heap.size q2_ q5_ (Nat.le_refl _) (by omega) (by omega) f3 (by omega) hN.bl hN.el (sides.getD 0 []).length hN.hl (inB_iff.2 (by omega)) (inB_iff.2 (by omega))) rfl ?_
                  rintro e w' ⟨rfl, hb'⟩
                  exact ⟨_, rfl, hb', rfl⟩
                | 9, _ =>
                  intro val fl w1 a hb ha hd hfl
                  have e8 : val 8 = .tuple #[.agg #[.int .i64 (depthAt rv sl pp tt).lo, .int .i64 (depthAt rv sl pp tt).hi], .int .i64 0] := hd 8 (memB_mem.1 rfl)
                  have ha := ha.sub (Sub.ins (d := 208) (Sub.nil _) (dep_get rfl e8))
                  exact ss_val ha rfl rfl (x_move rfl) rfl rfl
                | 10, _ =>
                  intro val fl w1 a hb ha hd hfl
                  have e9 : val 9 = .tuple #[.agg #[.int .i64 (depthAt rv sl pp tt).lo, .int .i64 (depthAt rv sl pp tt).hi], .int .i64 0] := hd 9 (memB_mem.1 rfl)
                  have ha := ha.sub (Sub.ins (d := 199) (Sub.nil _) (dep_get rfl e9))
                  exact ss_val ha rfl rfl (x_extract rfl rfl) rfl rfl
                | 11, _ =>
                  intro val fl w1 a hb ha hd hfl
                  have e9 : val 9 = .tuple #[.agg #[.int .i64 (depthAt rv sl pp tt).lo, .int .i64 (depthAt rv sl pp tt).hi], .int .i64 0] := hd 9 (memB_mem.1 rfl)
                  have ha := ha.sub (Sub.ins (d := 199) (Sub.nil _) (dep_get rfl e9))
                  exact ss_val ha rfl rfl (x_extract rfl rfl) rfl rfl
                | 12, _ =>
                  intro val fl w1 a hb ha hd hfl
                  have ha := ha.sub (Sub.nil _)
                  exact ss_newP ha rfl rfl al_23 (fun g w' hq _ hge => ⟨g, rfl, Nat.le_trans hb.size hge, fun _ => hq⟩)
                | 13, _ =>
                  exact absurd (by simp) hs_
                | k + 14, h => exact absurd h (by omega)
              · simp only [List.mem_singleton] at hi_; subst hi_
                intro val fl w1 a hb hfi ha hd hfl
                obtain ⟨g12_, e12, hg12_, q12_⟩ := hd 12 (memB_mem.1 rfl)
                change val 12 = _ at e12
                have e10 : val 10 = .agg #[.int .i64 (depthAt rv sl pp tt).lo, .int .i64 (depthAt rv sl pp tt).hi] := hd 10 (memB_mem.1 rfl)
                have ha := ha.sub (Sub.ins (d := 209) (Sub.ins (d := 20) (Sub.nil _) (dep_get rfl e12)) (dep_get rfl e10))
                refine ts_store ha rfl rfl rfl (q12_ hfi) sz_23 rfl rfl rfl rfl ?_
                intro w' hq hgr
                refine ⟨undef, rfl, hgr.size, below_store hb hgr hg12_, ⟨g12_, e12, hq⟩, fun j _ hj hn hA => ?_⟩
                exact phiS_cons_st (C := fun j => j ≠ 13 ∧ 13 ∉ clsAt [[], [0], [0, 1], [], [3], [0, 1, 2, 3, 4], [], [], [0, 1, 2, 3, 4, 5, 6, 7], [0, 1, 2, 3, 4, 5, 6, 7, 8], [0, 1, 2, 3, 4, 5, 6, 7, 8, 9], [0, 1, 2, 3, 4, 5, 6, 7, 8, 9], [], [0, 1, 2, 3, 4, 5, 6, 7, 8, 9, 10, 12], [0, 1, 2, 3, 4, 5, 6, 7, 8, 9, 10, 11, 12, 13]] j ∧ ∀ p ∈ [12], (p = j ∨ p ∈ clsAt [[], [0], [0, 1], [], [3], [0, 1, 2, 3, 4], [], [], [0, 1, 2, 3, 4, 5, 6, 7], [0, 1, 2, 3, 4, 5, 6, 7, 8], [0, 1, 2, 3, 4, 5, 6, 7, 8, 9], [0, 1, 2, 3, 4, 5, 6, 7, 8, 9], [], [0, 1, 2, 3, 4, 5, 6, 7, 8, 9, 10, 12], [0, 1, 2, 3, 4, 5, 6, 7, 8, 9, 10, 11, 12, 13]] j) → ∀ q ∈ [12], (q = 13 ∨ q ∈ clsAt [[], [0], [0, 1], [], [3], [0, 1, 2, 3, 4], [], [], [0, 1, 2, 3, 4, 5, 6, 7], [0, 1, 2, 3, 4, 5, 6, 7, 8], [0, 1, 2, 3, 4, 5, 6, 7, 8, 9], [0, 1, 2, 3, 4, 5, 6, 7, 8, 9], [], [0, 1, 2, 3, 4, 5, 6, 7, 8, 9, 10, 12], [0, 1, 2, 3, 4, 5, 6, 7, 8, 9, 10, 11, 12, 13]] 13) → p ≠ q → val p ≠ val q) (fun _ _ h => by rw [fset_eq] at h; cases h) (phiS_cons_st (C := fun j => j ≠ 13 ∧ 13 ∉ clsAt [[], [0], [0, 1], [], [3], [0, 1, 2, 3, 4], [], [], [0, 1, 2, 3, 4, 5, 6, 7], [0, 1, 2, 3, 4, 5, 6, 7, 8], [0, 1, 2, 3, 4, 5, 6, 7, 8, 9], [0, 1, 2, 3, 4, 5, 6, 7, 8, 9], [], [0, 1, 2, 3, 4, 5, 6, 7, 8, 9, 10, 12], [0, 1, 2, 3, 4, 5, 6, 7, 8, 9, 10, 11, 12, 13]] j ∧ ∀ p ∈ [12], (p = j ∨ p ∈ clsAt [[], [0], [0, 1], [], [3], [0, 1, 2, 3, 4], [], [], [0, 1, 2, 3, 4, 5, 6, 7], [0, 1, 2, 3, 4, 5, 6, 7, 8], [0, 1, 2, 3, 4, 5, 6, 7, 8, 9], [0, 1, 2, 3, 4, 5, 6, 7, 8, 9], [], [0, 1, 2, 3, 4, 5, 6, 7, 8, 9, 10, 12], [0, 1, 2, 3, 4, 5, 6, 7, 8, 9, 10, 11, 12, 13]] j) → ∀ q ∈ [12], (q = 13 ∨ q ∈ clsAt [[], [0], [0, 1], [], [3], [0, 1, 2, 3, 4], [], [], [0, 1, 2, 3, 4, 5, 6, 7], [0, 1, 2, 3, 4, 5, 6, 7, 8], [0, 1, 2, 3, 4, 5, 6, 7, 8, 9], [0, 1, 2, 3, 4, 5, 6, 7, 8, 9], [], [0, 1, 2, 3, 4, 5, 6, 7, 8, 9, 10, 12], [0, 1, 2, 3, 4, 5, 6, 7, 8, 9, 10, 11, 12, 13]] 13) → p ≠ q → val p ≠ val q) (fun _ _ h => by rw [fset_eq] at h; cases h) (phiS_cons_st (C := fun j => j ≠ 13 ∧ 13 ∉ clsAt [[], [0], [0, 1], [], [3], [0, 1, 2, 3, 4], [], [], [0, 1, 2, 3, 4, 5, 6, 7], [0, 1, 2, 3, 4, 5, 6, 7, 8], [0, 1, 2, 3, 4, 5, 6, 7, 8, 9], [0, 1, 2, 3, 4, 5, 6, 7, 8, 9], [], [0, 1, 2, 3, 4, 5, 6, 7, 8, 9, 10, 12], [0, 1, 2, 3, 4, 5, 6, 7, 8, 9, 10, 11, 12, 13]] j ∧ ∀ p ∈ [12], (p = j ∨ p ∈ clsAt [[], [0], [0, 1], [], [3], [0, 1, 2, 3, 4], [], [], [0, 1, 2, 3, 4, 5, 6, 7], [0, 1, 2, 3, 4, 5, 6, 7, 8], [0, 1, 2, 3, 4, 5, 6, 7, 8, 9], [0, 1, 2, 3, 4, 5, 6, 7, 8, 9], [], [0, 1, 2, 3, 4, 5, 6, 7, 8, 9, 10, 12], [0, 1, 2, 3, 4, 5, 6, 7, 8, 9, 10, 11, 12, 13]] j) → ∀ q ∈ [12], (q = 13 ∨ q ∈ clsAt [[], [0], [0, 1], [], [3], [0, 1, 2, 3, 4], [], [], [0, 1, 2, 3, 4, 5, 6, 7], [0, 1, 2, 3, 4, 5, 6, 7, 8], [0, 1, 2, 3, 4, 5, 6, 7, 8, 9], [0, 1, 2, 3, 4, 5, 6, 7, 8, 9], [], [0, 1, 2, 3, 4, 5, 6, 7, 8, 9, 10, 12], [0, 1, 2, 3, 4, 5, 6, 7, 8, 9, 10, 11, 12, 13]] 13) → p ≠ q → val p ≠ val q) (fun _ ⟨g, h1, h2, _⟩ => ⟨g, h1, h2, fun h => by rw [fset_eq] at h; cases h⟩) (phiS_cons_st (C := fun j => j ≠ 13 ∧ 13 ∉ clsAt [[], [0], [0, 1], [], [3], [0, 1, 2, 3, 4], [], [], [0, 1, 2, 3, 4, 5, 6, 7], [0, 1, 2, 3, 4, 5, 6, 7, 8], [0, 1, 2, 3, 4, 5, 6, 7, 8, 9], [0, 1, 2, 3, 4, 5, 6, 7, 8, 9], [], [0, 1, 2, 3, 4, 5, 6, 7, 8, 9, 10, 12], [0, 1, 2, 3, 4, 5, 6, 7, 8, 9, 10, 11, 12, 13]] j ∧ ∀ p ∈ [12], (p = j ∨ p ∈ clsAt [[], [0], [0, 1], [], [3], [0, 1, 2, 3, 4], [], [], [0, 1, 2, 3, 4, 5, 6, 7], [0, 1, 2, 3, 4, 5, 6, 7, 8], [0, 1, 2, 3, 4, 5, 6, 7, 8, 9], [0, 1, 2, 3, 4, 5, 6, 7, 8, 9], [], [0, 1, 2, 3, 4, 5, 6, 7, 8, 9, 10, 12], [0, 1, 2, 3, 4, 5, 6, 7, 8, 9, 10, 11, 12, 13]] j) → ∀ q ∈ [12], (q = 13 ∨ q ∈ clsAt [[], [0], [0, 1], [], [3], [0, 1, 2, 3, 4], [], [], [0, 1, 2, 3, 4, 5, 6, 7], [0, 1, 2, 3, 4, 5, 6, 7, 8], [0, 1, 2, 3, 4, 5, 6, 7, 8, 9], [0, 1, 2, 3, 4, 5, 6, 7, 8, 9], [], [0, 1, 2, 3, 4, 5, 6, 7, 8, 9, 10, 12], [0, 1, 2, 3, 4, 5, 6, 7, 8, 9, 10, 11, 12, 13]] 13) → p ≠ q → val p ≠ val q) (fun hc => absurd rfl hc.1) (fun _ _ h => h)))) j ⟨hj, hn, hA⟩
              · intro val fl wR23 hfl hb halc hd
                have e0 : val 0 = .pointer (some ⟨ga14_9, 0, none⟩) := hd 0 (by omega)
                have e1 : val 1 = .agg #[.slice (some ⟨gaL, 0, none⟩) rv.reaches.length c6_, .slice B6_ rv.shoals.length d6_] := hd 1 (by omega)
                have e3 : val 3 = .pointer (some ⟨ga14_9, 2, none⟩) := hd 3 (by omega)
                have e4 : val 4 = .slice (some ⟨goL, 0, none⟩) sides.length k6_ := hd 4 (by omega)
                have e6 : val 6 = .int .i64 pp := hd 6 (by omega)
                have e7 : val 7 = .int .i64 tt := hd 7 (by omega)
                have e8 : val 8 = .tuple #[.agg #[.int .i64 (depthAt rv sl pp tt).lo, .int .i64 (depthAt rv sl pp tt).hi], .int .i64 0] := hd 8 (by omega)
                have e9 : val 9 = .tuple #[.agg #[.int .i64 (depthAt rv sl pp tt).lo, .int .i64 (depthAt rv sl pp tt).hi], .int .i64 0] := hd 9 (by omega)
                have e10 : val 10 = .agg #[.int .i64 (depthAt rv sl pp tt).lo, .int .i64 (depthAt rv sl pp tt).hi] := hd 10 (by omega)
                have e11 : val 11 = .int .i64 0 := hd 11 (by omega)
                obtain ⟨ga12_23, e12, qa12_23⟩ := hd 13 (by omega)
                change val 12 = _ at e12
                refine EL.ends (cs := [.pointer (some ⟨ga14_9, 0, none⟩), .agg #[.slice (some ⟨gaL, 0, none⟩) rv.reaches.length c6_, .slice B6_ rv.shoals.length d6_], val 2, .pointer (some ⟨ga14_9, 2, none⟩), .slice (some ⟨goL, 0, none⟩) sides.length k6_, val 5, .int .i64 pp, .int .i64 tt, .tuple #[.agg #[.int .i64 (depthAt rv sl pp tt).lo, .int .i64 (depthAt rv sl pp tt).hi], .int .i64 0], .tuple #[.agg #[.int .i64 (depthAt rv sl pp tt).lo, .int .i64 (depthAt rv sl pp tt).hi], .int .i64 0], .agg #[.int .i64 (depthAt rv sl pp tt).lo, .int .i64 (depthAt rv sl pp tt).hi], .int .i64 0, .pointer (some ⟨ga12_23, 0, none⟩), val 13]) ⟨e0, e1, rfl, e3, e4, rfl, e6, e7, e8, e9, e10, e11, e12, rfl, trivial⟩ rfl ?_
                replace q1 := q1.below hb q1.lt
                replace q2 := q2.below hb q2.lt
                replace q3 := q3.below hb q3.lt
                replace qa14_9 := qa14_9.below hb qa14_9.lt
                replace qa15_9 := qa15_9.below hb qa15_9.lt
                replace qa12_22 := qa12_22.below hb qa12_22.lt
                replace TF := TF.below hb
                have bge15 := alc_ge halc (i := 12) rfl rfl e12
                have n1_15 : g1 ≠ ga12_23 := Nat.ne_of_lt (Nat.lt_of_lt_of_le lt_1 bge15)
                have n2_15 : g2 ≠ ga12_23 := Nat.ne_of_lt (Nat.lt_of_lt_of_le lt_2 bge15)
                have n3_15 : g3 ≠ ga12_23 := Nat.ne_of_lt (Nat.lt_of_lt_of_le lt_3 bge15)
                have n7_15 : ga14_9 ≠ ga12_23 := Nat.ne_of_lt (Nat.lt_of_lt_of_le lt_7 bge15)
                have n8_15 : ga15_9 ≠ ga12_23 := Nat.ne_of_lt (Nat.lt_of_lt_of_le lt_8 bge15)
                have n14_15 : ga12_22 ≠ ga12_23 := Nat.ne_of_lt (Nat.lt_of_lt_of_le lt_14 bge15)
                have bhbw_15 := Nat.le_trans hbw.size bge15
                replace hbw := Below.on hbw hb hbw.size
                refine EL.val (x_assign rfl) rfl ?_
                refine EL.nil ?_
                refine EX.seq ?_
                refine EC.seq ?_
                have lt_1 := q1.lt
                have lt_2 := q2.lt
                have lt_3 := q3.lt
                have lt_7 := qa14_9.lt
                have lt_8 := qa15_9.lt
                have lt_14 := qa12_22.lt
                have lt_15 := qa12_23.lt
                refine EC.regionS [[], [0], [0, 1], [], [3], [0, 1, 2, 3, 4], [], [], [0, 1, 2, 3, 4, 5, 6, 7], [0, 1, 2, 3, 4, 5, 6, 7, 8], [0, 1, 2, 3, 4, 5, 6, 7, 8, 9], [0, 1, 2, 3, 4, 5, 6, 7, 8, 9], [], [0, 1, 2, 3, 4, 5, 6, 7, 8, 9, 10, 12], [0, 1, 2, 3, 4, 5, 6, 7, 8, 9, 10, 11, 12, 13]] 14 [12] [13] (fun _ w_ => Below wR23.heap.size wR23 w_) (phiS (fun i_ r => match i_ with | 0 => r 0 = .pointer (some ⟨ga15_9, 0, none⟩) | 1 => r 1 = .agg #[.slice (some ⟨gaM, 0, none⟩) rv.reaches.length c13_, .slice B13_ rv.shoals.length d13_] | 3 => r 3 = .pointer (some ⟨ga15_9, 2, none⟩) | 4 => r 4 = .slice (some ⟨goM, 0, none⟩) sides.length k13_ | 6 => r 6 = .int .i64 pp | 7 => r 7 = .int .i64 tt | 8 => r 8 = .tuple #[.agg #[.int .i64 (depthAt rv sm pp tt).lo, .int .i64 (depthAt rv sm pp tt).hi], .int .i64 0] | 9 => r 9 = .tuple #[.agg #[.int .i64 (depthAt rv sm pp tt).lo, .int .i64 (depthAt rv sm pp tt).hi], .int .i64 0] | 10 => r 10 = .agg #[.int .i64 (depthAt rv sm pp tt).lo, .int .i64 (depthAt rv sm pp tt).hi] | 11 => r 11 = .int .i64 0 | _ => True) [(2, fun fl r w_ => fl 13 = false → (∃ a b vs, r 2 = .agg #[a, b] ∧ RdRiver w_ w_.heap.size a b rv vs)), (5, fun fl r w_ => fl 13 = false → (∃ v ss, r 5 = v ∧ RdSides w_ w_.heap.size v sm ss)), (12, fun fl r w_ => ∃ g_, r 12 = .pointer (some ⟨g_, 0, none⟩) ∧ wR23.heap.size ≤ g_ ∧ (fl 13 = false → Blk w_ g_ 23 #[.int .i64 0, .int .i64 0])), (13, fun _ r w_ => ∃ g_, r 12 = .pointer (some ⟨g_, 0, none⟩) ∧ Blk w_ g_ 23 #[.int .i64 (depthAt rv sm pp tt).lo, .int .i64 (depthAt rv sm pp tt).hi])]) (by kernel_rfl) rfl rfl (by intro i hi; simp at hi; first | (subst hi; exact ⟨by simp, by omega⟩) | (rcases hi with rfl | rfl | rfl <;> exact ⟨by simp, by omega⟩) | (rcases hi with rfl | rfl <;> exact ⟨by simp, by omega⟩)) (base_below wR23) (phiS_cons (monoS_till mono_riv) (phiS_cons (monoS_till mono_sid) (phiS_cons monoS_alloc (phiS_cons monoS_store (phiS_nil))))) (fun i_ hi_ hs_ => ?_) (fun i_ hi_ => ?_) ?_
                · match i_, hi_ with
                  | 0, _ =>
                    intro val fl w1 a hb ha hd hfl
                    have ha := ha.sub (Sub.ins (d := 12) (Sub.nil _) rfl)
                    exact ss_val ha rfl rfl (fa_54_0 rfl) rfl rfl
                  | 1, _ =>
                    intro val fl w1 a hb ha hd hfl
                    have e0 : val 0 = .pointer (some ⟨ga15_9, 0, none⟩) := hd 0 (memB_mem.1 rfl)
                    have ha := ha.sub (Sub.ins (d := 212) (Sub.nil _) (dep_get rfl e0))
                    exact ss_val ha rfl rfl (ld_47 rfl ((qa15_9.below hb qa15_9.lt).at (j := 0) rfl) ((qa15_9.below hb qa15_9.lt).at (j := 1) rfl)) rfl rfl
                  | 2, _ =>
                    intro val fl w1 a hb ha hd hfl
                    have e1 : val 1 = .agg #[.slice (some ⟨gaM, 0, none⟩) rv.reaches.length c13_, .slice B13_ rv.shoals.length d13_] := hd 1 (memB_mem.1 rfl)
                    have ha := ha.sub (Sub.ins (d := 213) (Sub.nil _) (dep_get rfl e1))
                    refine ss_call ha rfl rfl (cl_24 rfl) (copied_any rv _ _ _ _ _ (TF.rM.rd.below hb) hb.size (by omega) (by omega) f3) rfl ?_
                    rintro e w' ⟨⟨v1, u1, vs1, rfl, hcp⟩, hb'⟩
                    exact ⟨_, rfl, hb', fun _ => ⟨_, _, _, rfl, hcp⟩⟩
                  | 3, _ =>
                    intro val fl w1 a hb ha hd hfl
                    have ha := ha.sub (Sub.ins (d := 12) (Sub.nil _) rfl)
                    exact ss_val ha rfl rfl (fa_54_1 rfl) rfl rfl
                  | 4, _ =>
                    intro val fl w1 a hb ha hd hfl
                    have e3 : val 3 = .pointer (some ⟨ga15_9, 2, none⟩) := hd 3 (memB_mem.1 rfl)
                    have ha := ha.sub (Sub.ins (d := 215) (Sub.nil _) (dep_get rfl e3))
                    exact ss_val ha rfl rfl (ld_52 rfl ((qa15_9.below hb qa15_9.lt).at (j := 2) rfl)) rfl rfl
                  | 5, _ =>
                    intro val fl w1 a hb ha hd hfl
                    have e4 : val 4 = .slice (some ⟨goM, 0, none⟩) sides.length k13_ := hd 4 (memB_mem.1 rfl)
                    have ha := ha.sub (Sub.ins (d := 216) (Sub.nil _) (dep_get rfl e4))
                    refine ss_call ha rfl rfl (cl_34 rfl) (forecast_any sm _ _ _ _ (RdSides.below (OwnSides.rd TF.fM) hb) hb.size (by omega) hN.bm) rfl ?_
                    rintro e w' ⟨⟨v1, ss1, rfl, hcp⟩, hb'⟩
                    exact ⟨_, rfl, hb', fun _ => ⟨_, _, rfl, hcp⟩⟩
                  | 6, _ =>
                    intro val fl w1 a hb ha hd hfl
                    have ha := ha.sub (Sub.ins (d := 9) (Sub.nil _) rfl)
                    exact ss_val ha rfl rfl (x_move rfl) rfl rfl
                  | 7, _ =>
                    intro val fl w1 a hb ha hd hfl
                    have ha := ha.sub (Sub.ins (d := 10) (Sub.nil _) rfl)
                    exact ss_val ha rfl rfl (x_move rfl) rfl rfl
                  | 8, _ =>
                    intro val fl w1 a hb ha hd hfl
                    obtain ⟨a2_, b2_, vs2_, e2, q2_⟩ := hd 2 (memB_mem.1 rfl) (hfl 13 (by simp) (memB_mem.1 rfl))
                    obtain ⟨v5_, ss5_, e5, q5_⟩ := hd 5 (memB_mem.1 rfl) (hfl 13 (by simp) (memB_mem.1 rfl))
                    have e6 : val 6 = .int .i64 pp := hd 6 (memB_mem.1 rfl)
                    have e7 : val 7 = .int .i64 tt := hd 7 (memB_mem.1 rfl)
                    have ha := ha.sub (Sub.ins (d := 219) (Sub.ins (d := 218) (Sub.ins (d := 217) (Sub.ins (d := 214) (Sub.nil _) (dep_get rfl e2)) (dep_get rfl e5)) (dep_get rfl e6)) (dep_get rfl e7))
                    refine ss_call ha rfl rfl (cl_33 rfl rfl rfl rfl) (dep_fit rv sm _ _ _ _ _ _ w1.heap.size q2_ q5_ (Nat.le_refl _) (by omega) (by omega) f3 (by omega) hN.bm hN.em (sides.getD 0 []).length hN.hm (inB_iff.2 (by omega)) (inB_iff.2 (by omega))) rfl ?_
                    rintro e w' ⟨rfl, hb'⟩
                    exact ⟨_, rfl, hb', rfl⟩
                  | 9, _ =>
                    intro val fl w1 a hb ha hd hfl
                    have e8 : val 8 = .tuple #[.agg #[.int .i64 (depthAt rv sm pp tt).lo, .int .i64 (depthAt rv sm pp tt).hi], .int .i64 0] := hd 8 (memB_mem.1 rfl)
                    have ha := ha.sub (Sub.ins (d := 220) (Sub.nil _) (dep_get rfl e8))
                    exact ss_val ha rfl rfl (x_move rfl) rfl rfl
                  | 10, _ =>
                    intro val fl w1 a hb ha hd hfl
                    have e9 : val 9 = .tuple #[.agg #[.int .i64 (depthAt rv sm pp tt).lo, .int .i64 (depthAt rv sm pp tt).hi], .int .i64 0] := hd 9 (memB_mem.1 rfl)
                    have ha := ha.sub (Sub.ins (d := 211) (Sub.nil _) (dep_get rfl e9))
                    exact ss_val ha rfl rfl (x_extract rfl rfl) rfl rfl
                  | 11, _ =>
                    intro val fl w1 a hb ha hd hfl
                    have e9 : val 9 = .tuple #[.agg #[.int .i64 (depthAt rv sm pp tt).lo, .int .i64 (depthAt rv sm pp tt).hi], .int .i64 0] := hd 9 (memB_mem.1 rfl)
                    have ha := ha.sub (Sub.ins (d := 211) (Sub.nil _) (dep_get rfl e9))
                    exact ss_val ha rfl rfl (x_extract rfl rfl) rfl rfl
                  | 12, _ =>
                    intro val fl w1 a hb ha hd hfl
                    have ha := ha.sub (Sub.nil _)
                    exact ss_newP ha rfl rfl al_23 (fun g w' hq _ hge => ⟨g, rfl, Nat.le_trans hb.size hge, fun _ => hq⟩)
                  | 13, _ =>
                    exact absurd (by simp) hs_
                  | k + 14, h => exact absurd h (by omega)
                · simp only [List.mem_singleton] at hi_; subst hi_
                  intro val fl w1 a hb hfi ha hd hfl
                  obtain ⟨g12_, e12, hg12_, q12_⟩ := hd 12 (memB_mem.1 rfl)
                  change val 12 = _ at e12
                  have e10 : val 10 = .agg #[.int .i64 (depthAt rv sm pp tt).lo, .int .i64 (depthAt rv sm pp tt).hi] := hd 10 (memB_mem.1 rfl)
                  have ha := ha.sub (Sub.ins (d := 221) (Sub.ins (d := 22) (Sub.nil _) (dep_get rfl e12)) (dep_get rfl e10))
                  refine ts_store ha rfl rfl rfl (q12_ hfi) sz_23 rfl rfl rfl rfl ?_
                  intro w' hq hgr
                  refine ⟨undef, rfl, hgr.size, below_store hb hgr hg12_, ⟨g12_, e12, hq⟩, fun j _ hj hn hA => ?_⟩
                  exact phiS_cons_st (C := fun j => j ≠ 13 ∧ 13 ∉ clsAt [[], [0], [0, 1], [], [3], [0, 1, 2, 3, 4], [], [], [0, 1, 2, 3, 4, 5, 6, 7], [0, 1, 2, 3, 4, 5, 6, 7, 8], [0, 1, 2, 3, 4, 5, 6, 7, 8, 9], [0, 1, 2, 3, 4, 5, 6, 7, 8, 9], [], [0, 1, 2, 3, 4, 5, 6, 7, 8, 9, 10, 12], [0, 1, 2, 3, 4, 5, 6, 7, 8, 9, 10, 11, 12, 13]] j ∧ ∀ p ∈ [12], (p = j ∨ p ∈ clsAt [[], [0], [0, 1], [], [3], [0, 1, 2, 3, 4], [], [], [0, 1, 2, 3, 4, 5, 6, 7], [0, 1, 2, 3, 4, 5, 6, 7, 8], [0, 1, 2, 3, 4, 5, 6, 7, 8, 9], [0, 1, 2, 3, 4, 5, 6, 7, 8, 9], [], [0, 1, 2, 3, 4, 5, 6, 7, 8, 9, 10, 12], [0, 1, 2, 3, 4, 5, 6, 7, 8, 9, 10, 11, 12, 13]] j) → ∀ q ∈ [12], (q = 13 ∨ q ∈ clsAt [[], [0], [0, 1], [], [3], [0, 1, 2, 3, 4], [], [], [0, 1, 2, 3, 4, 5, 6, 7], [0, 1, 2, 3, 4, 5, 6, 7, 8], [0, 1, 2, 3, 4, 5, 6, 7, 8, 9], [0, 1, 2, 3, 4, 5, 6, 7, 8, 9], [], [0, 1, 2, 3, 4, 5, 6, 7, 8, 9, 10, 12], [0, 1, 2, 3, 4, 5, 6, 7, 8, 9, 10, 11, 12, 13]] 13) → p ≠ q → val p ≠ val q) (fun _ _ h => by rw [fset_eq] at h; cases h) (phiS_cons_st (C := fun j => j ≠ 13 ∧ 13 ∉ clsAt [[], [0], [0, 1], [], [3], [0, 1, 2, 3, 4], [], [], [0, 1, 2, 3, 4, 5, 6, 7], [0, 1, 2, 3, 4, 5, 6, 7, 8], [0, 1, 2, 3, 4, 5, 6, 7, 8, 9], [0, 1, 2, 3, 4, 5, 6, 7, 8, 9], [], [0, 1, 2, 3, 4, 5, 6, 7, 8, 9, 10, 12], [0, 1, 2, 3, 4, 5, 6, 7, 8, 9, 10, 11, 12, 13]] j ∧ ∀ p ∈ [12], (p = j ∨ p ∈ clsAt [[], [0], [0, 1], [], [3], [0, 1, 2, 3, 4], [], [], [0, 1, 2, 3, 4, 5, 6, 7], [0, 1, 2, 3, 4, 5, 6, 7, 8], [0, 1, 2, 3, 4, 5, 6, 7, 8, 9], [0, 1, 2, 3, 4, 5, 6, 7, 8, 9], [], [0, 1, 2, 3, 4, 5, 6, 7, 8, 9, 10, 12], [0, 1, 2, 3, 4, 5, 6, 7, 8, 9, 10, 11, 12, 13]] j) → ∀ q ∈ [12], (q = 13 ∨ q ∈ clsAt [[], [0], [0, 1], [], [3], [0, 1, 2, 3, 4], [], [], [0, 1, 2, 3, 4, 5, 6, 7], [0, 1, 2, 3, 4, 5, 6, 7, 8], [0, 1, 2, 3, 4, 5, 6, 7, 8, 9], [0, 1, 2, 3, 4, 5, 6, 7, 8, 9], [], [0, 1, 2, 3, 4, 5, 6, 7, 8, 9, 10, 12], [0, 1, 2, 3, 4, 5, 6, 7, 8, 9, 10, 11, 12, 13]] 13) → p ≠ q → val p ≠ val q) (fun _ _ h => by rw [fset_eq] at h; cases h) (phiS_cons_st (C := fun j => j ≠ 13 ∧ 13 ∉ clsAt [[], [0], [0, 1], [], [3], [0, 1, 2, 3, 4], [], [], [0, 1, 2, 3, 4, 5, 6, 7], [0, 1, 2, 3, 4, 5, 6, 7, 8], [0, 1, 2, 3, 4, 5, 6, 7, 8, 9], [0, 1, 2, 3, 4, 5, 6, 7, 8, 9], [], [0, 1, 2, 3, 4, 5, 6, 7, 8, 9, 10, 12], [0, 1, 2, 3, 4, 5, 6, 7, 8, 9, 10, 11, 12, 13]] j ∧ ∀ p ∈ [12], (p = j ∨ p ∈ clsAt [[], [0], [0, 1], [], [3], [0, 1, 2, 3, 4], [], [], [0, 1, 2, 3, 4, 5, 6, 7], [0, 1, 2, 3, 4, 5, 6, 7, 8], [0, 1, 2, 3, 4, 5, 6, 7, 8, 9], [0, 1, 2, 3, 4, 5, 6, 7, 8, 9], [], [0, 1, 2, 3, 4, 5, 6, 7, 8, 9, 10, 12], [0, 1, 2, 3, 4, 5, 6, 7, 8, 9, 10, 11, 12, 13]] j) → ∀ q ∈ [12], (q = 13 ∨ q ∈ clsAt [[], [0], [0, 1], [], [3], [0, 1, 2, 3, 4], [], [], [0, 1, 2, 3, 4, 5, 6, 7], [0, 1, 2, 3, 4, 5, 6, 7, 8], [0, 1, 2, 3, 4, 5, 6, 7, 8, 9], [0, 1, 2, 3, 4, 5, 6, 7, 8, 9], [], [0, 1, 2, 3, 4, 5, 6, 7, 8, 9, 10, 12], [0, 1, 2, 3, 4, 5, 6, 7, 8, 9, 10, 11, 12, 13]] 13) → p ≠ q → val p ≠ val q) (fun _ ⟨g, h1, h2, _⟩ => ⟨g, h1, h2, fun h => by rw [fset_eq] at h; cases h⟩) (phiS_cons_st (C := fun j => j ≠ 13 ∧ 13 ∉ clsAt [[], [0], [0, 1], [], [3], [0, 1, 2, 3, 4], [], [], [0, 1, 2, 3, 4, 5, 6, 7], [0, 1, 2, 3, 4, 5, 6, 7, 8], [0, 1, 2, 3, 4, 5, 6, 7, 8, 9], [0, 1, 2, 3, 4, 5, 6, 7, 8, 9], [], [0, 1, 2, 3, 4, 5, 6, 7, 8, 9, 10, 12], [0, 1, 2, 3, 4, 5, 6, 7, 8, 9, 10, 11, 12, 13]] j ∧ ∀ p ∈ [12], (p = j ∨ p ∈ clsAt [[], [0], [0, 1], [], [3], [0, 1, 2, 3, 4], [], [], [0, 1, 2, 3, 4, 5, 6, 7], [0, 1, 2, 3, 4, 5, 6, 7, 8], [0, 1, 2, 3, 4, 5, 6, 7, 8, 9], [0, 1, 2, 3, 4, 5, 6, 7, 8, 9], [], [0, 1, 2, 3, 4, 5, 6, 7, 8, 9, 10, 12], [0, 1, 2, 3, 4, 5, 6, 7, 8, 9, 10, 11, 12, 13]] j) → ∀ q ∈ [12], (q = 13 ∨ q ∈ clsAt [[], [0], [0, 1], [], [3], [0, 1, 2, 3, 4], [], [], [0, 1, 2, 3, 4, 5, 6, 7], [0, 1, 2, 3, 4, 5, 6, 7, 8], [0, 1, 2, 3, 4, 5, 6, 7, 8, 9], [0, 1, 2, 3, 4, 5, 6, 7, 8, 9], [], [0, 1, 2, 3, 4, 5, 6, 7, 8, 9, 10, 12], [0, 1, 2, 3, 4, 5, 6, 7, 8, 9, 10, 11, 12, 13]] 13) → p ≠ q → val p ≠ val q) (fun hc => absurd rfl hc.1) (fun _ _ h => h)))) j ⟨hj, hn, hA⟩
                · intro val fl wR24 hfl hb halc hd
                  have e0 : val 0 = .pointer (some ⟨ga15_9, 0, none⟩) := hd 0 (by omega)
                  have e1 : val 1 = .agg #[.slice (some ⟨gaM, 0, none⟩) rv.reaches.length c13_, .slice B13_ rv.shoals.length d13_] := hd 1 (by omega)
                  have e3 : val 3 = .pointer (some ⟨ga15_9, 2, none⟩) := hd 3 (by omega)
                  have e4 : val 4 = .slice (some ⟨goM, 0, none⟩) sides.length k13_ := hd 4 (by omega)
                  have e6 : val 6 = .int .i64 pp := hd 6 (by omega)
                  have e7 : val 7 = .int .i64 tt := hd 7 (by omega)
                  have e8 : val 8 = .tuple #[.agg #[.int .i64 (depthAt rv sm pp tt).lo, .int .i64 (depthAt rv sm pp tt).hi], .int .i64 0] := hd 8 (by omega)
                  have e9 : val 9 = .tuple #[.agg #[.int .i64 (depthAt rv sm pp tt).lo, .int .i64 (depthAt rv sm pp tt).hi], .int .i64 0] := hd 9 (by omega)
                  have e10 : val 10 = .agg #[.int .i64 (depthAt rv sm pp tt).lo, .int .i64 (depthAt rv sm pp tt).hi] := hd 10 (by omega)
                  have e11 : val 11 = .int .i64 0 := hd 11 (by omega)
                  obtain ⟨ga12_24, e12, qa12_24⟩ := hd 13 (by omega)
                  change val 12 = _ at e12
                  refine EL.ends (cs := [.pointer (some ⟨ga15_9, 0, none⟩), .agg #[.slice (some ⟨gaM, 0, none⟩) rv.reaches.length c13_, .slice B13_ rv.shoals.length d13_], val 2, .pointer (some ⟨ga15_9, 2, none⟩), .slice (some ⟨goM, 0, none⟩) sides.length k13_, val 5, .int .i64 pp, .int .i64 tt, .tuple #[.agg #[.int .i64 (depthAt rv sm pp tt).lo, .int .i64 (depthAt rv sm pp tt).hi], .int .i64 0], .tuple #[.agg #[.int .i64 (depthAt rv sm pp tt).lo, .int .i64 (depthAt rv sm pp tt).hi], .int .i64 0], .agg #[.int .i64 (depthAt rv sm pp tt).lo, .int .i64 (depthAt rv sm pp tt).hi], .int .i64 0, .pointer (some ⟨ga12_24, 0, none⟩), val 13]) ⟨e0, e1, rfl, e3, e4, rfl, e6, e7, e8, e9, e10, e11, e12, rfl, trivial⟩ rfl ?_
                  replace q1 := q1.below hb q1.lt
                  replace q2 := q2.below hb q2.lt
                  replace q3 := q3.below hb q3.lt
                  replace qa14_9 := qa14_9.below hb qa14_9.lt
                  replace qa15_9 := qa15_9.below hb qa15_9.lt
                  replace qa12_22 := qa12_22.below hb qa12_22.lt
                  replace qa12_23 := qa12_23.below hb qa12_23.lt
                  replace TF := TF.below hb
                  have bge16 := alc_ge halc (i := 12) rfl rfl e12
                  have n1_16 : g1 ≠ ga12_24 := Nat.ne_of_lt (Nat.lt_of_lt_of_le lt_1 bge16)
                  have n2_16 : g2 ≠ ga12_24 := Nat.ne_of_lt (Nat.lt_of_lt_of_le lt_2 bge16)
                  have n3_16 : g3 ≠ ga12_24 := Nat.ne_of_lt (Nat.lt_of_lt_of_le lt_3 bge16)
                  have n7_16 : ga14_9 ≠ ga12_24 := Nat.ne_of_lt (Nat.lt_of_lt_of_le lt_7 bge16)
                  have n8_16 : ga15_9 ≠ ga12_24 := Nat.ne_of_lt (Nat.lt_of_lt_of_le lt_8 bge16)
                  have n14_16 : ga12_22 ≠ ga12_24 := Nat.ne_of_lt (Nat.lt_of_lt_of_le lt_14 bge16)
                  have n15_16 : ga12_23 ≠ ga12_24 := Nat.ne_of_lt (Nat.lt_of_lt_of_le lt_15 bge16)
                  have bhbw_16 := Nat.le_trans hbw.size bge16
                  replace hbw := Below.on hbw hb hbw.size
                  refine EL.val (x_assign rfl) rfl ?_
                  refine EL.nil ?_
                  refine EX.seq ?_
                  refine EC.seq ?_
                  refine EC.region ?_
                  refine EL.val (fa_54_0 rfl) rfl ?_
                  refine EL.val (fa_47_1 rfl) rfl ?_
                  refine EL.val (ld_45 rfl (qa15_9.at (j := 1) rfl)) rfl ?_
                  refine EL.val (x_move rfl) rfl ?_
                  refine EL.val (ixa_84 (k := 2) rfl rfl (by omega)) rfl ?_
                  refine EL.val (ld_83 rfl (q3.at (j := 2) rfl)) rfl ?_
                  refine EL.val (cv_83_3 rfl (IntWalk.i64_in _ ⟨by omega, by omega⟩)) rfl ?_
                  refine EL.val (x_rem rfl rfl (by decide) hq9) rfl ?_
                  refine EL.val (bd_23_0_1 rfl rfl) rfl ?_
                  refine EL.val (bd_97_0_1 rfl rfl) rfl ?_
                  refine EL.newS (bs_45_1 rfl) rfl ?_
                  intro g17 w17 q17 hb17 hg17 hl17
                  have n1_17 : g1 ≠ g17 := Nat.ne_of_lt (Nat.lt_of_lt_of_le q1.lt hg17)
                  have n2_17 : g2 ≠ g17 := Nat.ne_of_lt (Nat.lt_of_lt_of_le q2.lt hg17)
                  have n3_17 : g3 ≠ g17 := Nat.ne_of_lt (Nat.lt_of_lt_of_le q3.lt hg17)
                  have n7_17 : ga14_9 ≠ g17 := Nat.ne_of_lt (Nat.lt_of_lt_of_le qa14_9.lt hg17)
                  have n8_17 : ga15_9 ≠ g17 := Nat.ne_of_lt (Nat.lt_of_lt_of_le qa15_9.lt hg17)
                  have n14_17 : ga12_22 ≠ g17 := Nat.ne_of_lt (Nat.lt_of_lt_of_le qa12_22.lt hg17)
                  have n15_17 : ga12_23 ≠ g17 := Nat.ne_of_lt (Nat.lt_of_lt_of_le qa12_23.lt hg17)
                  have n16_17 : ga12_24 ≠ g17 := Nat.ne_of_lt (Nat.lt_of_lt_of_le qa12_24.lt hg17)
                  have bhbw_17 := Nat.le_trans hbw.size hg17
                  replace q1 := q1.below hb17 q1.lt
                  replace q2 := q2.below hb17 q2.lt
                  replace q3 := q3.below hb17 q3.lt
                  replace qa14_9 := qa14_9.below hb17 qa14_9.lt
                  replace qa15_9 := qa15_9.below hb17 qa15_9.lt
                  replace qa12_22 := qa12_22.below hb17 qa12_22.lt
                  replace qa12_23 := qa12_23.below hb17 qa12_23.lt
                  replace qa12_24 := qa12_24.below hb17 qa12_24.lt
                  replace TF := TF.below hb17
                  replace hbw := Below.on hbw hb17 hbw.size
                  clear hb17 hg17 hl17
                  have hlt_ := TF.rL.rows.own.lt gaL rfl
                  refine EL.push shoal_elem rfl rfl TF.rM.sh (rd_one (l := [.int .i64 pp, .int .i64 q9, .int .i64 900, .int .i64 0, .int .i64 0, .int .i64 0]) q17 rfl) (fun u hu => by simp only [List.mem_cons, List.not_mem_nil, or_false] at hu; rcases hu with rfl | rfl | rfl | rfl | rfl | rfl <;> rfl) (by omega) rfl (by omega) rfl ?_
                  intro u2 wP hoP hgrP hbP _
                  replace q1 := blk_grown q1 TF.rM.sh rfl hgrP
                  replace q2 := blk_grown q2 TF.rM.sh rfl hgrP
                  replace q3 := blk_grown q3 TF.rM.sh rfl hgrP
                  replace qa14_9 := blk_grown qa14_9 TF.rM.sh rfl hgrP
                  replace qa15_9 := blk_grown qa15_9 TF.rM.sh rfl hgrP
                  replace qa12_22 := blk_grown qa12_22 TF.rM.sh rfl hgrP
                  replace qa12_23 := blk_grown qa12_23 TF.rM.sh rfl hgrP
                  replace qa12_24 := blk_grown qa12_24 TF.rM.sh rfl hgrP
                  replace hbw := hbw.trans (hbP.mono hwb)
                  have hoP2 : wP.ownsRow B0 97 6 u2 (rv.shoals.length + 1) (shoalsC rv.shoals ++ shoalC x0) := by rw [ex0]; exact hoP
                  obtain ⟨RL, RM, SL_, SM_⟩ := TF.push hoP2 hgrP
                  obtain ⟨AP, cP, rfl, _⟩ := (Rd.of_own hoP).shape
                  clear hoP hoP2 hbP hgrP TF hlt_
                  refine EL.val (fa_54_0 rfl) rfl ?_
                  refine EL.val (fa_47_1 rfl) rfl ?_
                  refine EL.store rfl rfl qa15_9 sz_45 rfl rfl rfl rfl ?_
                  intro w18 hq18 hg18
                  replace q1 := q1.grown hg18 (fun h => n1_8 (Option.some.inj h))
                  replace q2 := q2.grown hg18 (fun h => n2_8 (Option.some.inj h))
                  replace q3 := q3.grown hg18 (fun h => n3_8 (Option.some.inj h))
                  replace qa14_9 := qa14_9.grown hg18 (fun h => n7_8 (Option.some.inj h))
                  replace qa12_22 := qa12_22.grown hg18 (fun h => n8_14.symm (Option.some.inj h))
                  replace qa12_23 := qa12_23.grown hg18 (fun h => n8_15.symm (Option.some.inj h))
                  replace qa12_24 := qa12_24.grown hg18 (fun h => n8_16.symm (Option.some.inj h))
                  replace RL := RL.type qa15_9 rfl rfl rfl hg18
                  replace RM := RM.type qa15_9 rfl rfl rfl hg18
                  replace SL_ := OwnSides.type SL_ qa15_9 rfl rfl hg18
                  replace SM_ := OwnSides.type SM_ qa15_9 rfl rfl hg18
                  replace hbw := below_store hbw hg18 bhbw_8
                  replace qa15_9 := hq18
                  clear hg18 hq18
                  refine EL.nil ?_
                  refine EX.seq ?_
                  refine EC.seq ?_
                  have lt_1 := q1.lt
                  have lt_2 := q2.lt
                  have lt_3 := q3.lt
                  have lt_7 := qa14_9.lt
                  have lt_8 := qa15_9.lt
                  have lt_14 := qa12_22.lt
                  have lt_15 := qa12_23.lt
                  have lt_16 := qa12_24.lt
                  refine EC.regionS [[], [0], [0, 1], [], [3], [0, 1, 2, 3, 4], [], [], [0, 1, 2, 3, 4, 5, 6, 7], [0, 1, 2, 3, 4, 5, 6, 7, 8], [0, 1, 2, 3, 4, 5, 6, 7, 8, 9], [0, 1, 2, 3, 4, 5, 6, 7, 8, 9], [], [0, 1, 2, 3, 4, 5, 6, 7, 8, 9, 10, 12], [0, 1, 2, 3, 4, 5, 6, 7, 8, 9, 10, 11, 12, 13]] 14 [12] [13] (fun _ w_ => Below w18.heap.size w18 w_) (phiS (fun i_ r => match i_ with | 0 => r 0 = .pointer (some ⟨ga15_9, 0, none⟩) | 1 => r 1 = .agg #[.slice (some ⟨gaM, 0, none⟩) rv.reaches.length c13_, .slice AP (rv.shoals.length + 1) cP] | 3 => r 3 = .pointer (some ⟨ga15_9, 2, none⟩) | 4 => r 4 = .slice (some ⟨goM, 0, none⟩) sides.length k13_ | 6 => r 6 = .int .i64 pp | 7 => r 7 = .int .i64 tt | 8 => r 8 = .tuple #[.agg #[.int .i64 (depthAt (withShoal rv x0) sm pp tt).lo, .int .i64 (depthAt (withShoal rv x0) sm pp tt).hi], .int .i64 0] | 9 => r 9 = .tuple #[.agg #[.int .i64 (depthAt (withShoal rv x0) sm pp tt).lo, .int .i64 (depthAt (withShoal rv x0) sm pp tt).hi], .int .i64 0] | 10 => r 10 = .agg #[.int .i64 (depthAt (withShoal rv x0) sm pp tt).lo, .int .i64 (depthAt (withShoal rv x0) sm pp tt).hi] | 11 => r 11 = .int .i64 0 | _ => True) [(2, fun fl r w_ => fl 13 = false → (∃ a b vs, r 2 = .agg #[a, b] ∧ RdRiver w_ w_.heap.size a b (withShoal rv x0) vs)), (5, fun fl r w_ => fl 13 = false → (∃ v ss, r 5 = v ∧ RdSides w_ w_.heap.size v sm ss)), (12, fun fl r w_ => ∃ g_, r 12 = .pointer (some ⟨g_, 0, none⟩) ∧ w18.heap.size ≤ g_ ∧ (fl 13 = false → Blk w_ g_ 23 #[.int .i64 0, .int .i64 0])), (13, fun _ r w_ => ∃ g_, r 12 = .pointer (some ⟨g_, 0, none⟩) ∧ Blk w_ g_ 23 #[.int .i64 (depthAt (withShoal rv x0) sm pp tt).lo, .int .i64 (depthAt (withShoal rv x0) sm pp tt).hi])]) (by kernel_rfl) rfl rfl (by intro i hi; simp at hi; first | (subst hi; exact ⟨by simp, by omega⟩) | (rcases hi with rfl | rfl | rfl <;> exact ⟨by simp, by omega⟩) | (rcases hi with rfl | rfl <;> exact ⟨by simp, by omega⟩)) (base_below w18) (phiS_cons (monoS_till mono_riv) (phiS_cons (monoS_till mono_sid) (phiS_cons monoS_alloc (phiS_cons monoS_store (phiS_nil))))) (fun i_ hi_ hs_ => ?_) (fun i_ hi_ => ?_) ?_
                  · match i_, hi_ with
                    | 0, _ =>
                      intro val fl w1 a hb ha hd hfl
                      have ha := ha.sub (Sub.ins (d := 12) (Sub.nil _) rfl)
                      exact ss_val ha rfl rfl (fa_54_0 rfl) rfl rfl
                    | 1, _ =>
                      intro val fl w1 a hb ha hd hfl
                      have e0 : val 0 = .pointer (some ⟨ga15_9, 0, none⟩) := hd 0 (memB_mem.1 rfl)
                      have ha := ha.sub (Sub.ins (d := 238) (Sub.nil _) (dep_get rfl e0))
                      exact ss_val ha rfl rfl (ld_47 rfl ((qa15_9.below hb qa15_9.lt).at (j := 0) rfl) ((qa15_9.below hb qa15_9.lt).at (j := 1) rfl)) rfl rfl
                    | 2, _ =>
                      intro val fl w1 a hb ha hd hfl
                      have e1 : val 1 = .agg #[.slice (some ⟨gaM, 0, none⟩) rv.reaches.length c13_, .slice AP (rv.shoals.length + 1) cP] := hd 1 (memB_mem.1 rfl)
                      have ha := ha.sub (Sub.ins (d := 239) (Sub.nil _) (dep_get rfl e1))
                      refine ss_call ha rfl rfl (cl_24 rfl) (copied_any (withShoal rv x0) _ _ _ _ _ (RM.rd.below hb) hb.size (by omega) (by omega) f3) rfl ?_
                      rintro e w' ⟨⟨v1, u1, vs1, rfl, hcp⟩, hb'⟩
                      exact ⟨_, rfl, hb', fun _ => ⟨_, _, _, rfl, hcp⟩⟩
                    | 3, _ =>
                      intro val fl w1 a hb ha hd hfl
                      have ha := ha.sub (Sub.ins (d := 12) (Sub.nil _) rfl)
                      exact ss_val ha rfl rfl (fa_54_1 rfl) rfl rfl
                    | 4, _ =>
                      intro val fl w1 a hb ha hd hfl
                      have e3 : val 3 = .pointer (some ⟨ga15_9, 2, none⟩) := hd 3 (memB_mem.1 rfl)
                      have ha := ha.sub (Sub.ins (d := 241) (Sub.nil _) (dep_get rfl e3))
                      exact ss_val ha rfl rfl (ld_52 rfl ((qa15_9.below hb qa15_9.lt).at (j := 2) rfl)) rfl rfl
                    | 5, _ =>
                      intro val fl w1 a hb ha hd hfl
                      have e4 : val 4 = .slice (some ⟨goM, 0, none⟩) sides.length k13_ := hd 4 (memB_mem.1 rfl)
                      have ha := ha.sub (Sub.ins (d := 242) (Sub.nil _) (dep_get rfl e4))
                      refine ss_call ha rfl rfl (cl_34 rfl) (forecast_any sm _ _ _ _ (RdSides.below (OwnSides.rd SM_) hb) hb.size (by omega) hN.bm) rfl ?_
                      rintro e w' ⟨⟨v1, ss1, rfl, hcp⟩, hb'⟩
                      exact ⟨_, rfl, hb', fun _ => ⟨_, _, rfl, hcp⟩⟩
                    | 6, _ =>
                      intro val fl w1 a hb ha hd hfl
                      have ha := ha.sub (Sub.ins (d := 9) (Sub.nil _) rfl)
                      exact ss_val ha rfl rfl (x_move rfl) rfl rfl
                    | 7, _ =>
                      intro val fl w1 a hb ha hd hfl
                      have ha := ha.sub (Sub.ins (d := 10) (Sub.nil _) rfl)
                      exact ss_val ha rfl rfl (x_move rfl) rfl rfl
                    | 8, _ =>
                      intro val fl w1 a hb ha hd hfl
                      obtain ⟨a2_, b2_, vs2_, e2, q2_⟩ := hd 2 (memB_mem.1 rfl) (hfl 13 (by simp) (memB_mem.1 rfl))
                      obtain ⟨v5_, ss5_, e5, q5_⟩ := hd 5 (memB_mem.1 rfl) (hfl 13 (by simp) (memB_mem.1 rfl))
                      have e6 : val 6 = .int .i64 pp := hd 6 (memB_mem.1 rfl)
                      have e7 : val 7 = .int .i64 tt := hd 7 (memB_mem.1 rfl)
                      have ha := ha.sub (Sub.ins (d := 245) (Sub.ins (d := 244) (Sub.ins (d := 243) (Sub.ins (d := 240) (Sub.nil _) (dep_get rfl e2)) (dep_get rfl e5)) (dep_get rfl e6)) (dep_get rfl e7))
                      refine ss_call ha rfl rfl (cl_33 rfl rfl rfl rfl) (dep_fit (withShoal rv x0) sm _ _ _ _ _ _ w1.heap.size q2_ q5_ (Nat.le_refl _) (by omega) (by omega) f3 (by omega) hN.bm hN.ex (sides.getD 0 []).length hN.hm (inB_iff.2 (by omega)) (inB_iff.2 (by omega))) rfl ?_
                      rintro e w' ⟨rfl, hb'⟩
                      exact ⟨_, rfl, hb', rfl⟩
                    | 9, _ =>
                      intro val fl w1 a hb ha hd hfl
                      have e8 : val 8 = .tuple #[.agg #[.int .i64 (depthAt (withShoal rv x0) sm pp tt).lo, .int .i64 (depthAt (withShoal rv x0) sm pp tt).hi], .int .i64 0] := hd 8 (memB_mem.1 rfl)
                      have ha := ha.sub (Sub.ins (d := 246) (Sub.nil _) (dep_get rfl e8))
                      exact ss_val ha rfl rfl (x_move rfl) rfl rfl
                    | 10, _ =>
                      intro val fl w1 a hb ha hd hfl
                      have e9 : val 9 = .tuple #[.agg #[.int .i64 (depthAt (withShoal rv x0) sm pp tt).lo, .int .i64 (depthAt (withShoal rv x0) sm pp tt).hi], .int .i64 0] := hd 9 (memB_mem.1 rfl)
                      have ha := ha.sub (Sub.ins (d := 237) (Sub.nil _) (dep_get rfl e9))
                      exact ss_val ha rfl rfl (x_extract rfl rfl) rfl rfl
                    | 11, _ =>
                      intro val fl w1 a hb ha hd hfl
                      have e9 : val 9 = .tuple #[.agg #[.int .i64 (depthAt (withShoal rv x0) sm pp tt).lo, .int .i64 (depthAt (withShoal rv x0) sm pp tt).hi], .int .i64 0] := hd 9 (memB_mem.1 rfl)
                      have ha := ha.sub (Sub.ins (d := 237) (Sub.nil _) (dep_get rfl e9))
                      exact ss_val ha rfl rfl (x_extract rfl rfl) rfl rfl
                    | 12, _ =>
                      intro val fl w1 a hb ha hd hfl
                      have ha := ha.sub (Sub.nil _)
                      exact ss_newP ha rfl rfl al_23 (fun g w' hq _ hge => ⟨g, rfl, Nat.le_trans hb.size hge, fun _ => hq⟩)
                    | 13, _ =>
                      exact absurd (by simp) hs_
                    | k + 14, h => exact absurd h (by omega)
                  · simp only [List.mem_singleton] at hi_; subst hi_
                    intro val fl w1 a hb hfi ha hd hfl
                    obtain ⟨g12_, e12, hg12_, q12_⟩ := hd 12 (memB_mem.1 rfl)
                    change val 12 = _ at e12
                    have e10 : val 10 = .agg #[.int .i64 (depthAt (withShoal rv x0) sm pp tt).lo, .int .i64 (depthAt (withShoal rv x0) sm pp tt).hi] := hd 10 (memB_mem.1 rfl)
                    have ha := ha.sub (Sub.ins (d := 247) (Sub.ins (d := 24) (Sub.nil _) (dep_get rfl e12)) (dep_get rfl e10))
                    refine ts_store ha rfl rfl rfl (q12_ hfi) sz_23 rfl rfl rfl rfl ?_
                    intro w' hq hgr
                    refine ⟨undef, rfl, hgr.size, below_store hb hgr hg12_, ⟨g12_, e12, hq⟩, fun j _ hj hn hA => ?_⟩
                    exact phiS_cons_st (C := fun j => j ≠ 13 ∧ 13 ∉ clsAt [[], [0], [0, 1], [], [3], [0, 1, 2, 3, 4], [], [], [0, 1, 2, 3, 4, 5, 6, 7], [0, 1, 2, 3, 4, 5, 6, 7, 8], [0, 1, 2, 3, 4, 5, 6, 7, 8, 9], [0, 1, 2, 3, 4, 5, 6, 7, 8, 9], [], [0, 1, 2, 3, 4, 5, 6, 7, 8, 9, 10, 12], [0, 1, 2, 3, 4, 5, 6, 7, 8, 9, 10, 11, 12, 13]] j ∧ ∀ p ∈ [12], (p = j ∨ p ∈ clsAt [[], [0], [0, 1], [], [3], [0, 1, 2, 3, 4], [], [], [0, 1, 2, 3, 4, 5, 6, 7], [0, 1, 2, 3, 4, 5, 6, 7, 8], [0, 1, 2, 3, 4, 5, 6, 7, 8, 9], [0, 1, 2, 3, 4, 5, 6, 7, 8, 9], [], [0, 1, 2, 3, 4, 5, 6, 7, 8, 9, 10, 12], [0, 1, 2, 3, 4, 5, 6, 7, 8, 9, 10, 11, 12, 13]] j) → ∀ q ∈ [12], (q = 13 ∨ q ∈ clsAt [[], [0], [0, 1], [], [3], [0, 1, 2, 3, 4], [], [], [0, 1, 2, 3, 4, 5, 6, 7], [0, 1, 2, 3, 4, 5, 6, 7, 8], [0, 1, 2, 3, 4, 5, 6, 7, 8, 9], [0, 1, 2, 3, 4, 5, 6, 7, 8, 9], [], [0, 1, 2, 3, 4, 5, 6, 7, 8, 9, 10, 12], [0, 1, 2, 3, 4, 5, 6, 7, 8, 9, 10, 11, 12, 13]] 13) → p ≠ q → val p ≠ val q) (fun _ _ h => by rw [fset_eq] at h; cases h) (phiS_cons_st (C := fun j => j ≠ 13 ∧ 13 ∉ clsAt [[], [0], [0, 1], [], [3], [0, 1, 2, 3, 4], [], [], [0, 1, 2, 3, 4, 5, 6, 7], [0, 1, 2, 3, 4, 5, 6, 7, 8], [0, 1, 2, 3, 4, 5, 6, 7, 8, 9], [0, 1, 2, 3, 4, 5, 6, 7, 8, 9], [], [0, 1, 2, 3, 4, 5, 6, 7, 8, 9, 10, 12], [0, 1, 2, 3, 4, 5, 6, 7, 8, 9, 10, 11, 12, 13]] j ∧ ∀ p ∈ [12], (p = j ∨ p ∈ clsAt [[], [0], [0, 1], [], [3], [0, 1, 2, 3, 4], [], [], [0, 1, 2, 3, 4, 5, 6, 7], [0, 1, 2, 3, 4, 5, 6, 7, 8], [0, 1, 2, 3, 4, 5, 6, 7, 8, 9], [0, 1, 2, 3, 4, 5, 6, 7, 8, 9], [], [0, 1, 2, 3, 4, 5, 6, 7, 8, 9, 10, 12], [0, 1, 2, 3, 4, 5, 6, 7, 8, 9, 10, 11, 12, 13]] j) → ∀ q ∈ [12], (q = 13 ∨ q ∈ clsAt [[], [0], [0, 1], [], [3], [0, 1, 2, 3, 4], [], [], [0, 1, 2, 3, 4, 5, 6, 7], [0, 1, 2, 3, 4, 5, 6, 7, 8], [0, 1, 2, 3, 4, 5, 6, 7, 8, 9], [0, 1, 2, 3, 4, 5, 6, 7, 8, 9], [], [0, 1, 2, 3, 4, 5, 6, 7, 8, 9, 10, 12], [0, 1, 2, 3, 4, 5, 6, 7, 8, 9, 10, 11, 12, 13]] 13) → p ≠ q → val p ≠ val q) (fun _ _ h => by rw [fset_eq] at h; cases h) (phiS_cons_st (C := fun j => j ≠ 13 ∧ 13 ∉ clsAt [[], [0], [0, 1], [], [3], [0, 1, 2, 3, 4], [], [], [0, 1, 2, 3, 4, 5, 6, 7], [0, 1, 2, 3, 4, 5, 6, 7, 8], [0, 1, 2, 3, 4, 5, 6, 7, 8, 9], [0, 1, 2, 3, 4, 5, 6, 7, 8, 9], [], [0, 1, 2, 3, 4, 5, 6, 7, 8, 9, 10, 12], [0, 1, 2, 3, 4, 5, 6, 7, 8, 9, 10, 11, 12, 13]] j ∧ ∀ p ∈ [12], (p = j ∨ p ∈ clsAt [[], [0], [0, 1], [], [3], [0, 1, 2, 3, 4], [], [], [0, 1, 2, 3, 4, 5, 6, 7], [0, 1, 2, 3, 4, 5, 6, 7, 8], [0, 1, 2, 3, 4, 5, 6, 7, 8, 9], [0, 1, 2, 3, 4, 5, 6, 7, 8, 9], [], [0, 1, 2, 3, 4, 5, 6, 7, 8, 9, 10, 12], [0, 1, 2, 3, 4, 5, 6, 7, 8, 9, 10, 11, 12, 13]] j) → ∀ q ∈ [12], (q = 13 ∨ q ∈ clsAt [[], [0], [0, 1], [], [3], [0, 1, 2, 3, 4], [], [], [0, 1, 2, 3, 4, 5, 6, 7], [0, 1, 2, 3, 4, 5, 6, 7, 8], [0, 1, 2, 3, 4, 5, 6, 7, 8, 9], [0, 1, 2, 3, 4, 5, 6, 7, 8, 9], [], [0, 1, 2, 3, 4, 5, 6, 7, 8, 9, 10, 12], [0, 1, 2, 3, 4, 5, 6, 7, 8, 9, 10, 11, 12, 13]] 13) → p ≠ q → val p ≠ val q) (fun _ ⟨g, h1, h2, _⟩ => ⟨g, h1, h2, fun h => by rw [fset_eq] at h; cases h⟩) (phiS_cons_st (C := fun j => j ≠ 13 ∧ 13 ∉ clsAt [[], [0], [0, 1], [], [3], [0, 1, 2, 3, 4], [], [], [0, 1, 2, 3, 4, 5, 6, 7], [0, 1, 2, 3, 4, 5, 6, 7, 8], [0, 1, 2, 3, 4, 5, 6, 7, 8, 9], [0, 1, 2, 3, 4, 5, 6, 7, 8, 9], [], [0, 1, 2, 3, 4, 5, 6, 7, 8, 9, 10, 12], [0, 1, 2, 3, 4, 5, 6, 7, 8, 9, 10, 11, 12, 13]] j ∧ ∀ p ∈ [12], (p = j ∨ p ∈ clsAt [[], [0], [0, 1], [], [3], [0, 1, 2, 3, 4], [], [], [0, 1, 2, 3, 4, 5, 6, 7], [0, 1, 2, 3, 4, 5, 6, 7, 8], [0, 1, 2, 3, 4, 5, 6, 7, 8, 9], [0, 1, 2, 3, 4, 5, 6, 7, 8, 9], [], [0, 1, 2, 3, 4, 5, 6, 7, 8, 9, 10, 12], [0, 1, 2, 3, 4, 5, 6, 7, 8, 9, 10, 11, 12, 13]] j) → ∀ q ∈ [12], (q = 13 ∨ q ∈ clsAt [[], [0], [0, 1], [], [3], [0, 1, 2, 3, 4], [], [], [0, 1, 2, 3, 4, 5, 6, 7], [0, 1, 2, 3, 4, 5, 6, 7, 8], [0, 1, 2, 3, 4, 5, 6, 7, 8, 9], [0, 1, 2, 3, 4, 5, 6, 7, 8, 9], [], [0, 1, 2, 3, 4, 5, 6, 7, 8, 9, 10, 12], [0, 1, 2, 3, 4, 5, 6, 7, 8, 9, 10, 11, 12, 13]] 13) → p ≠ q → val p ≠ val q) (fun hc => absurd rfl hc.1) (fun _ _ h => h)))) j ⟨hj, hn, hA⟩
                  · intro val fl wR26 hfl hb halc hd
                    have e0 : val 0 = .pointer (some ⟨ga15_9, 0, none⟩) := hd 0 (by omega)
                    have e1 : val 1 = .agg #[.slice (some ⟨gaM, 0, none⟩) rv.reaches.length c13_, .slice AP (rv.shoals.length + 1) cP] := hd 1 (by omega)
                    have e3 : val 3 = .pointer (some ⟨ga15_9, 2, none⟩) := hd 3 (by omega)
                    have e4 : val 4 = .slice (some ⟨goM, 0, none⟩) sides.length k13_ := hd 4 (by omega)
                    have e6 : val 6 = .int .i64 pp := hd 6 (by omega)
                    have e7 : val 7 = .int .i64 tt := hd 7 (by omega)
                    have e8 : val 8 = .tuple #[.agg #[.int .i64 (depthAt (withShoal rv x0) sm pp tt).lo, .int .i64 (depthAt (withShoal rv x0) sm pp tt).hi], .int .i64 0] := hd 8 (by omega)
                    have e9 : val 9 = .tuple #[.agg #[.int .i64 (depthAt (withShoal rv x0) sm pp tt).lo, .int .i64 (depthAt (withShoal rv x0) sm pp tt).hi], .int .i64 0] := hd 9 (by omega)
                    have e10 : val 10 = .agg #[.int .i64 (depthAt (withShoal rv x0) sm pp tt).lo, .int .i64 (depthAt (withShoal rv x0) sm pp tt).hi] := hd 10 (by omega)
                    have e11 : val 11 = .int .i64 0 := hd 11 (by omega)
                    obtain ⟨ga12_26, e12, qa12_26⟩ := hd 13 (by omega)
                    change val 12 = _ at e12
                    refine EL.ends (cs := [.pointer (some ⟨ga15_9, 0, none⟩), .agg #[.slice (some ⟨gaM, 0, none⟩) rv.reaches.length c13_, .slice AP (rv.shoals.length + 1) cP], val 2, .pointer (some ⟨ga15_9, 2, none⟩), .slice (some ⟨goM, 0, none⟩) sides.length k13_, val 5, .int .i64 pp, .int .i64 tt, .tuple #[.agg #[.int .i64 (depthAt (withShoal rv x0) sm pp tt).lo, .int .i64 (depthAt (withShoal rv x0) sm pp tt).hi], .int .i64 0], .tuple #[.agg #[.int .i64 (depthAt (withShoal rv x0) sm pp tt).lo, .int .i64 (depthAt (withShoal rv x0) sm pp tt).hi], .int .i64 0], .agg #[.int .i64 (depthAt (withShoal rv x0) sm pp tt).lo, .int .i64 (depthAt (withShoal rv x0) sm pp tt).hi], .int .i64 0, .pointer (some ⟨ga12_26, 0, none⟩), val 13]) ⟨e0, e1, rfl, e3, e4, rfl, e6, e7, e8, e9, e10, e11, e12, rfl, trivial⟩ rfl ?_
                    replace q1 := q1.below hb q1.lt
                    replace q2 := q2.below hb q2.lt
                    replace q3 := q3.below hb q3.lt
                    replace qa14_9 := qa14_9.below hb qa14_9.lt
                    replace qa15_9 := qa15_9.below hb qa15_9.lt
                    replace qa12_22 := qa12_22.below hb qa12_22.lt
                    replace qa12_23 := qa12_23.below hb qa12_23.lt
                    replace qa12_24 := qa12_24.below hb qa12_24.lt
                    replace RL := RL.below hb
                    replace RM := RM.below hb
                    replace SL_ := OwnSides.below SL_ hb
                    replace SM_ := OwnSides.below SM_ hb
                    have bge19 := alc_ge halc (i := 12) rfl rfl e12
                    have n1_19 : g1 ≠ ga12_26 := Nat.ne_of_lt (Nat.lt_of_lt_of_le lt_1 bge19)
                    have n2_19 : g2 ≠ ga12_26 := Nat.ne_of_lt (Nat.lt_of_lt_of_le lt_2 bge19)
                    have n3_19 : g3 ≠ ga12_26 := Nat.ne_of_lt (Nat.lt_of_lt_of_le lt_3 bge19)
                    have n7_19 : ga14_9 ≠ ga12_26 := Nat.ne_of_lt (Nat.lt_of_lt_of_le lt_7 bge19)
                    have n8_19 : ga15_9 ≠ ga12_26 := Nat.ne_of_lt (Nat.lt_of_lt_of_le lt_8 bge19)
                    have n14_19 : ga12_22 ≠ ga12_26 := Nat.ne_of_lt (Nat.lt_of_lt_of_le lt_14 bge19)
                    have n15_19 : ga12_23 ≠ ga12_26 := Nat.ne_of_lt (Nat.lt_of_lt_of_le lt_15 bge19)
                    have n16_19 : ga12_24 ≠ ga12_26 := Nat.ne_of_lt (Nat.lt_of_lt_of_le lt_16 bge19)
                    have bhbw_19 := Nat.le_trans hbw.size bge19
                    replace hbw := Below.on hbw hb hbw.size
                    refine EL.val (x_assign rfl) rfl ?_
                    refine EL.nil ?_
                    refine EX.seq ?_
                    refine EC.seq ?_
                    refine EC.seq ?_
                    refine EC.region ?_
                    refine EL.val (x_move rfl) rfl ?_
                    refine EL.val (x_neq rfl rfl (by first | assumption | exact decide_eq_false (by omega))) rfl ?_
                    refine EL.val (x_move rfl) rfl ?_
                    refine EL.valg rfl rfl (x_move rfl) rfl ?_
                    refine EL.valg rfl rfl (x_neq rfl rfl (by first | assumption | exact decide_eq_false (by omega))) rfl ?_
                    refine EL.val (x_pick_f rfl rfl) rfl ?_
                    refine EL.val (x_move rfl) rfl ?_
                    refine EL.valg rfl rfl (x_move rfl) rfl ?_
                    refine EL.valg rfl rfl (x_neq rfl rfl (by first | assumption | exact decide_eq_false (by omega))) rfl ?_
                    refine EL.val (x_pick_f rfl rfl) rfl ?_
                    refine EL.val (x_move rfl) rfl ?_
                    refine EL.valg rfl rfl (x_move rfl) rfl ?_
                    refine EL.valg rfl rfl (x_neq rfl rfl (by first | assumption | exact decide_eq_false (by omega))) rfl ?_
                    refine EL.val (x_pick_f rfl rfl) rfl ?_
                    refine EL.val (x_move rfl) rfl ?_
                    refine EL.valg rfl rfl (fa_23_0 rfl) rfl ?_
                    refine EL.valg rfl rfl (ld_3 rfl (qa12_23.at (j := 0) rfl)) rfl ?_
                    refine EL.valg rfl rfl (fa_23_0 rfl) rfl ?_
                    refine EL.valg rfl rfl (ld_3 rfl (qa12_22.at (j := 0) rfl)) rfl ?_
                    refine EL.valg rfl rfl (x_lss rfl rfl (by first | assumption | exact decide_eq_false (by omega))) rfl ?_
                    refine EL.val (x_pick_f rfl rfl) rfl ?_
                    refine EL.val (x_move rfl) rfl ?_
                    refine EL.valg rfl rfl (fa_23_1 rfl) rfl ?_
                    refine EL.valg rfl rfl (ld_3 rfl (qa12_23.at (j := 1) rfl)) rfl ?_
                    refine EL.valg rfl rfl (fa_23_1 rfl) rfl ?_
                    refine EL.valg rfl rfl (ld_3 rfl (qa12_22.at (j := 1) rfl)) rfl ?_
                    refine EL.valg rfl rfl (x_gtr rfl rfl (by first | assumption | exact decide_eq_false (by omega))) rfl ?_
                    refine EL.val (x_pick_f rfl rfl) rfl ?_
                    refine EL.val (x_move rfl) rfl ?_
                    refine EL.valg rfl rfl (fa_23_0 rfl) rfl ?_
                    refine EL.valg rfl rfl (ld_3 rfl (qa12_24.at (j := 0) rfl)) rfl ?_
                    refine EL.valg rfl rfl (fa_23_0 rfl) rfl ?_
                    refine EL.valg rfl rfl (ld_3 rfl (qa12_22.at (j := 0) rfl)) rfl ?_
                    refine EL.valg rfl rfl (x_lss rfl rfl (by first | assumption | exact decide_eq_false (by omega))) rfl ?_
                    refine EL.val (x_pick_f rfl rfl) rfl ?_
                    refine EL.val (x_move rfl) rfl ?_
                    refine EL.valg rfl rfl (fa_23_1 rfl) rfl ?_
                    refine EL.valg rfl rfl (ld_3 rfl (qa12_24.at (j := 1) rfl)) rfl ?_
                    refine EL.valg rfl rfl (fa_23_1 rfl) rfl ?_
                    refine EL.valg rfl rfl (ld_3 rfl (qa12_22.at (j := 1) rfl)) rfl ?_
                    refine EL.valg rfl rfl (x_lss rfl rfl (by first | assumption | exact decide_eq_false (by omega))) rfl ?_
                    refine EL.val (x_pick_f rfl rfl) rfl ?_
                    refine EL.val (x_move rfl) rfl ?_
                    refine EL.valg rfl rfl (fa_23_0 rfl) rfl ?_
                    refine EL.valg rfl rfl (ld_3 rfl (qa12_26.at (j := 0) rfl)) rfl ?_
                    refine EL.valg rfl rfl (fa_23_0 rfl) rfl ?_
                    refine EL.valg rfl rfl (ld_3 rfl (qa12_24.at (j := 0) rfl)) rfl ?_
                    refine EL.valg rfl rfl (x_gtr rfl rfl (by first | assumption | exact decide_eq_false (by omega))) rfl ?_
                    refine EL.val (x_pick_f rfl rfl) rfl ?_
                    refine EL.val (x_move rfl) rfl ?_
                    refine EL.valg rfl rfl (fa_23_1 rfl) rfl ?_
                    refine EL.valg rfl rfl (ld_3 rfl (qa12_26.at (j := 1) rfl)) rfl ?_
                    refine EL.valg rfl rfl (fa_23_1 rfl) rfl ?_
                    refine EL.valg rfl rfl (ld_3 rfl (qa12_24.at (j := 1) rfl)) rfl ?_
                    refine EL.valg rfl rfl (x_gtr rfl rfl (by first | assumption | exact decide_eq_false (by omega))) rfl ?_
                    refine EL.val (x_pick_f rfl rfl) rfl ?_
                    refine EL.val (x_move rfl) rfl ?_
                    refine EL.valg rfl rfl (fa_23_0 rfl) rfl ?_
                    refine EL.valg rfl rfl (ld_3 rfl (qa12_22.at (j := 0) rfl)) rfl ?_
                    refine EL.valg rfl rfl (x_lss rfl rfl (by first | assumption | exact decide_eq_false (by omega))) rfl ?_
                    refine EL.val (x_pick_f rfl rfl) rfl ?_
                    refine EL.val (x_move rfl) rfl ?_
                    refine EL.valg rfl rfl (fa_23_0 rfl) rfl ?_
                    refine EL.valg rfl rfl (ld_3 rfl (qa12_23.at (j := 0) rfl)) rfl ?_
                    refine EL.valg rfl rfl (fa_23_1 rfl) rfl ?_
                    refine EL.valg rfl rfl (ld_3 rfl (qa12_23.at (j := 1) rfl)) rfl ?_
                    refine EL.valg rfl rfl (x_gtr rfl rfl (by first | assumption | exact decide_eq_false (by omega))) rfl ?_
                    refine EL.val (x_pick_f rfl rfl) rfl ?_
                    refine EL.nil ?_
                    refine EX.seq ?_
                    refine EC.no rfl ?_
                    refine EC.skip ?_
                    refine EX.seq ?_
                    refine EC.seq ?_
                    obtain ⟨kM, ekM⟩ : ∃ z, z = mayAny (lvAt rv sides pp tt) (flAt rv pp) pp tt [] := ⟨_, rfl⟩
                    obtain ⟨kS, ekS⟩ : ∃ z, z = mustAny (lvAt rv sides pp tt) (flAt rv pp) pp tt [] := ⟨_, rfl⟩
                    have lt_1 := q1.lt
                    have lt_2 := q2.lt
                    have lt_3 := q3.lt
                    have lt_7 := qa14_9.lt
                    have lt_8 := qa15_9.lt
                    have lt_14 := qa12_22.lt
                    have lt_15 := qa12_23.lt
                    have lt_16 := qa12_24.lt
                    have lt_19 := qa12_26.lt
                    refine EC.regionP [[], [0], [0, 1], [], [3], [0, 1, 2, 3, 4], [], [], [0, 1, 2, 3, 4, 5, 6, 7], [0, 1, 2, 3, 4, 5, 6, 7, 8], [0, 1, 2, 3, 4, 5, 6, 7, 8, 9], [0, 1, 2, 3, 4, 5, 6, 7, 8, 9], [0, 1, 2, 3, 4, 5, 6, 7, 8, 9], [0, 1, 2, 3, 4, 5, 6, 7, 8, 9, 10], [0, 1, 2, 3, 4, 5, 6, 7, 8, 9, 10, 11, 13], [0, 1, 2, 3, 4, 5, 6, 7, 8, 9, 10, 11, 12, 13, 14]] 15 [] (phi (fun i_ r => match i_ with | 0 => r 0 = .pointer (some ⟨g1, 0, none⟩) | 1 => r 1 = .agg #[.slice (some ⟨bR, oR, none⟩) rv.reaches.length c, .slice A' rv.shoals.length c'] | 3 => r 3 = .pointer (some ⟨g1, 2, none⟩) | 4 => r 4 = .slice (some ⟨bS, oS, none⟩) sides.length d | 6 => r 6 = .int .i64 pp | 7 => r 7 = .int .i64 tt | 8 => r 8 = .tuple #[.bool kM, .bool kS, .int .i64 0] | 9 => r 9 = .tuple #[.bool kM, .bool kS, .int .i64 0] | 10 => r 10 = .bool kM | 11 => r 11 = .bool kS | 12 => r 12 = .int .i64 0 | 13 => r 13 = .bool kM | 14 => r 14 = .bool kS | _ => True) [(2, fun r w_ => ∃ a b vs, r 2 = .agg #[a, b] ∧ RdRiver w_ w_.heap.size a b rv vs), (5, fun r w_ => ∃ v ss, r 5 = v ∧ RdSides w_ w_.heap.size v sides ss)]) (by kernel_rfl) rfl rfl (phi_cons mono_riv (phi_cons mono_sid (phi_nil))) (fun i_ hi_ => ?_) ?_
                    · match i_, hi_ with
                      | 0, _ =>
                        intro val w1 a hb ha hd
                        have ha := ha.sub (Sub.ins (d := 3) (Sub.nil _) rfl)
                        exact hs_val ha rfl rfl (fa_54_0 rfl) rfl rfl
                      | 1, _ =>
                        intro val w1 a hb ha hd
                        have e0 : val 0 = .pointer (some ⟨g1, 0, none⟩) := hd 0 (memB_mem.1 rfl)
                        have ha := ha.sub (Sub.ins (d := 318) (Sub.nil _) (dep_get rfl e0))
                        exact hs_val ha rfl rfl (ld_47 rfl ((q1.below hb q1.lt).at (j := 0) rfl) ((q1.below hb q1.lt).at (j := 1) rfl)) rfl rfl
                      | 2, _ =>
                        intro val w1 a hb ha hd
                        have e1 : val 1 = .agg #[.slice (some ⟨bR, oR, none⟩) rv.reaches.length c, .slice A' rv.shoals.length c'] := hd 1 (memB_mem.1 rfl)
                        have ha := ha.sub (Sub.ins (d := 319) (Sub.nil _) (dep_get rfl e1))
                        refine hs_call ha rfl rfl (cl_24 rfl) (copied_any rv _ _ _ _ _ (hr.below ((Below.on hbw hb hbw.size).mono hB)) (Nat.le_trans hB (Below.on hbw hb hbw.size).size) (by omega) (by omega) f3) rfl ?_
                        rintro e w' ⟨⟨v1, u1, vs1, rfl, hcp⟩, hb'⟩
                        exact ⟨_, rfl, hb', ⟨_, _, _, rfl, hcp⟩⟩
                      | 3, _ =>
                        intro val w1 a hb ha hd
                        have ha := ha.sub (Sub.ins (d := 3) (Sub.nil _) rfl)
                        exact hs_val ha rfl rfl (fa_54_1 rfl) rfl rfl
                      | 4, _ =>
                        intro val w1 a hb ha hd
                        have e3 : val 3 = .pointer (some ⟨g1, 2, none⟩) := hd 3 (memB_mem.1 rfl)
                        have ha := ha.sub (Sub.ins (d := 321) (Sub.nil _) (dep_get rfl e3))
                        exact hs_val ha rfl rfl (ld_52 rfl ((q1.below hb q1.lt).at (j := 2) rfl)) rfl rfl
                      | 5, _ =>
                        intro val w1 a hb ha hd
                        have e4 : val 4 = .slice (some ⟨bS, oS, none⟩) sides.length d := hd 4 (memB_mem.1 rfl)
                        have ha := ha.sub (Sub.ins (d := 322) (Sub.nil _) (dep_get rfl e4))
                        refine hs_call ha rfl rfl (cl_34 rfl) (forecast_any sides _ _ _ _ (hs.below ((Below.on hbw hb hbw.size).mono hB)) (Nat.le_trans hB (Below.on hbw hb hbw.size).size) (by omega) f4) rfl ?_
                        rintro e w' ⟨⟨v1, ss1, rfl, hcp⟩, hb'⟩
                        exact ⟨_, rfl, hb', ⟨_, _, rfl, hcp⟩⟩
                      | 6, _ =>
                        intro val w1 a hb ha hd
                        have ha := ha.sub (Sub.ins (d := 9) (Sub.nil _) rfl)
                        exact hs_val ha rfl rfl (x_move rfl) rfl rfl
                      | 7, _ =>
                        intro val w1 a hb ha hd
                        have ha := ha.sub (Sub.ins (d := 10) (Sub.nil _) rfl)
                        exact hs_val ha rfl rfl (x_move rfl) rfl rfl
                      | 8, _ =>
                        intro val w1 a hb ha hd
                        obtain ⟨a2_, b2_, vs2_, e2, q2_⟩ := hd 2 (memB_mem.1 rfl)
                        obtain ⟨v5_, ss5_, e5, q5_⟩ := hd 5 (memB_mem.1 rfl)
                        have e6 : val 6 = .int .i64 pp := hd 6 (memB_mem.1 rfl)
                        have e7 : val 7 = .int .i64 tt := hd 7 (memB_mem.1 rfl)
                        have ha := ha.sub (Sub.ins (d := 325) (Sub.ins (d := 324) (Sub.ins (d := 323) (Sub.ins (d := 320) (Sub.nil _) (dep_get rfl e2)) (dep_get rfl e5)) (dep_get rfl e6)) (dep_get rfl e7))
                        refine hs_call ha rfl rfl (cl_48 rfl rfl rfl rfl rfl) (cld_fit rv sides _ _ _ _ _ [] _ _ w1.heap.size q2_ q5_ (Nat.le_refl _) rd_nil (by omega) (by omega) f3 (by omega) f4 hst nar_none (sides.getD 0 []).length rfl (inB_iff.2 (by omega)) (inB_iff.2 (by omega)) kM kS ekM ekS) rfl ?_
                        rintro e w' ⟨rfl, hb'⟩
                        exact ⟨_, rfl, hb', rfl⟩
                      | 9, _ =>
                        intro val w1 a hb ha hd
                        have e8 : val 8 = .tuple #[.bool kM, .bool kS, .int .i64 0] := hd 8 (memB_mem.1 rfl)
                        have ha := ha.sub (Sub.ins (d := 326) (Sub.nil _) (dep_get rfl e8))
                        exact hs_val ha rfl rfl (x_move rfl) rfl rfl
                      | 10, _ =>
                        intro val w1 a hb ha hd
                        have e9 : val 9 = .tuple #[.bool kM, .bool kS, .int .i64 0] := hd 9 (memB_mem.1 rfl)
                        have ha := ha.sub (Sub.ins (d := 317) (Sub.nil _) (dep_get rfl e9))
                        exact hs_val ha rfl rfl (x_extract rfl rfl) rfl rfl
                      | 11, _ =>
                        intro val w1 a hb ha hd
                        have e9 : val 9 = .tuple #[.bool kM, .bool kS, .int .i64 0] := hd 9 (memB_mem.1 rfl)
                        have ha := ha.sub (Sub.ins (d := 317) (Sub.nil _) (dep_get rfl e9))
                        exact hs_val ha rfl rfl (x_extract rfl rfl) rfl rfl
                      | 12, _ =>
                        intro val w1 a hb ha hd
                        have e9 : val 9 = .tuple #[.bool kM, .bool kS, .int .i64 0] := hd 9 (memB_mem.1 rfl)
                        have ha := ha.sub (Sub.ins (d := 317) (Sub.nil _) (dep_get rfl e9))
                        exact hs_val ha rfl rfl (x_extract rfl rfl) rfl rfl
                      | 13, _ =>
                        intro val w1 a hb ha hd
                        have e10 : val 10 = .bool kM := hd 10 (memB_mem.1 rfl)
                        have ha := ha.sub (Sub.ins (d := 327) (Sub.nil _) (dep_get rfl e10))
                        exact hs_val ha rfl rfl (x_assign rfl) rfl rfl
                      | 14, _ =>
                        intro val w1 a hb ha hd
                        have e11 : val 11 = .bool kS := hd 11 (memB_mem.1 rfl)
                        have ha := ha.sub (Sub.ins (d := 328) (Sub.nil _) (dep_get rfl e11))
                        exact hs_val ha rfl rfl (x_assign rfl) rfl rfl
                      | k + 15, h => exact absurd h (by omega)
                    · intro val wR29 hb halc hd
                      have e0 : val 0 = .pointer (some ⟨g1, 0, none⟩) := hd 0 (by omega)
                      have e1 : val 1 = .agg #[.slice (some ⟨bR, oR, none⟩) rv.reaches.length c, .slice A' rv.shoals.length c'] := hd 1 (by omega)
                      obtain ⟨a2_, b2_, vs2_, e2, q2_⟩ := hd 2 (by omega)
                      have e3 : val 3 = .pointer (some ⟨g1, 2, none⟩) := hd 3 (by omega)
                      have e4 : val 4 = .slice (some ⟨bS, oS, none⟩) sides.length d := hd 4 (by omega)
                      obtain ⟨v5_, ss5_, e5, q5_⟩ := hd 5 (by omega)
                      have e6 : val 6 = .int .i64 pp := hd 6 (by omega)
                      have e7 : val 7 = .int .i64 tt := hd 7 (by omega)
                      have e8 : val 8 = .tuple #[.bool kM, .bool kS, .int .i64 0] := hd 8 (by omega)
                      have e9 : val 9 = .tuple #[.bool kM, .bool kS, .int .i64 0] := hd 9 (by omega)
                      have e10 : val 10 = .bool kM := hd 10 (by omega)
                      have e11 : val 11 = .bool kS := hd 11 (by omega)
                      have e12 : val 12 = .int .i64 0 := hd 12 (by omega)
                      have e13 : val 13 = .bool kM := hd 13 (by omega)
                      have e14 : val 14 = .bool kS := hd 14 (by omega)
                      refine EL.ends (cs := [.pointer (some ⟨g1, 0, none⟩), .agg #[.slice (some ⟨bR, oR, none⟩) rv.reaches.length c, .slice A' rv.shoals.length c'], .agg #[a2_, b2_], .pointer (some ⟨g1, 2, none⟩), .slice (some ⟨bS, oS, none⟩) sides.length d, v5_, .int .i64 pp, .int .i64 tt, .tuple #[.bool kM, .bool kS, .int .i64 0], .tuple #[.bool kM, .bool kS, .int .i64 0], .bool kM, .bool kS, .int .i64 0, .bool kM, .bool kS]) ⟨e0, e1, e2, e3, e4, e5, e6, e7, e8, e9, e10, e11, e12, e13, e14, trivial⟩ rfl ?_
                      replace q1 := q1.below hb q1.lt
                      replace q2 := q2.below hb q2.lt
                      replace q3 := q3.below hb q3.lt
                      replace qa14_9 := qa14_9.below hb qa14_9.lt
                      replace qa15_9 := qa15_9.below hb qa15_9.lt
                      replace qa12_22 := qa12_22.below hb qa12_22.lt
                      replace qa12_23 := qa12_23.below hb qa12_23.lt
                      replace qa12_24 := qa12_24.below hb qa12_24.lt
                      replace qa12_26 := qa12_26.below hb qa12_26.lt
                      replace RL := RL.below hb
                      replace RM := RM.below hb
                      replace SL_ := OwnSides.below SL_ hb
                      replace SM_ := OwnSides.below SM_ hb
                      replace hbw := Below.on hbw hb hbw.size
                      clear hb
                      refine EL.val (x_assign rfl) rfl ?_
                      refine EL.nil ?_
                      refine EX.seq ?_
                      refine EC.seq ?_
                      obtain ⟨kA, ekA⟩ : ∃ z, z = mayAny (lvAt rv sl pp tt) (flAt rv pp) pp tt [] := ⟨_, rfl⟩
                      obtain ⟨kB, ekB⟩ : ∃ z, z = mustAny (lvAt rv sl pp tt) (flAt rv pp) pp tt [] := ⟨_, rfl⟩
                      have lt_1 := q1.lt
                      have lt_2 := q2.lt
                      have lt_3 := q3.lt
                      have lt_7 := qa14_9.lt
                      have lt_8 := qa15_9.lt
                      have lt_14 := qa12_22.lt
                      have lt_15 := qa12_23.lt
                      have lt_16 := qa12_24.lt
                      have lt_19 := qa12_26.lt
                      refine EC.regionP [[], [0], [0, 1], [], [3], [0, 1, 2, 3, 4], [], [], [0, 1, 2, 3, 4, 5, 6, 7], [0, 1, 2, 3, 4, 5, 6, 7, 8], [0, 1, 2, 3, 4, 5, 6, 7, 8, 9], [0, 1, 2, 3, 4, 5, 6, 7, 8, 9], [0, 1, 2, 3, 4, 5, 6, 7, 8, 9], [0, 1, 2, 3, 4, 5, 6, 7, 8, 9, 10], [0, 1, 2, 3, 4, 5, 6, 7, 8, 9, 10, 11, 13], [0, 1, 2, 3, 4, 5, 6, 7, 8, 9, 10, 11, 12, 13, 14]] 15 [] (phi (fun i_ r => match i_ with | 0 => r 0 = .pointer (some ⟨ga14_9, 0, none⟩) | 1 => r 1 = .agg #[.slice (some ⟨gaL, 0, none⟩) rv.reaches.length c6_, .slice B6_ rv.shoals.length d6_] | 3 => r 3 = .pointer (some ⟨ga14_9, 2, none⟩) | 4 => r 4 = .slice (some ⟨goL, 0, none⟩) sides.length k6_ | 6 => r 6 = .int .i64 pp | 7 => r 7 = .int .i64 tt | 8 => r 8 = .tuple #[.bool kA, .bool kB, .int .i64 0] | 9 => r 9 = .tuple #[.bool kA, .bool kB, .int .i64 0] | 10 => r 10 = .bool kA | 11 => r 11 = .bool kB | 12 => r 12 = .int .i64 0 | 13 => r 13 = .bool kA | 14 => r 14 = .bool kB | _ => True) [(2, fun r w_ => ∃ a b vs, r 2 = .agg #[a, b] ∧ RdRiver w_ w_.heap.size a b rv vs), (5, fun r w_ => ∃ v ss, r 5 = v ∧ RdSides w_ w_.heap.size v sl ss)]) (by kernel_rfl) rfl rfl (phi_cons mono_riv (phi_cons mono_sid (phi_nil))) (fun i_ hi_ => ?_) ?_
                      · match i_, hi_ with
                        | 0, _ =>
                          intro val w1 a hb ha hd
                          have ha := ha.sub (Sub.ins (d := 11) (Sub.nil _) rfl)
                          exact hs_val ha rfl rfl (fa_54_0 rfl) rfl rfl
                        | 1, _ =>
                          intro val w1 a hb ha hd
                          have e0 : val 0 = .pointer (some ⟨ga14_9, 0, none⟩) := hd 0 (memB_mem.1 rfl)
                          have ha := ha.sub (Sub.ins (d := 331) (Sub.nil _) (dep_get rfl e0))
                          exact hs_val ha rfl rfl (ld_47 rfl ((qa14_9.below hb qa14_9.lt).at (j := 0) rfl) ((qa14_9.below hb qa14_9.lt).at (j := 1) rfl)) rfl rfl
                        | 2, _ =>
                          intro val w1 a hb ha hd
                          have e1 : val 1 = .agg #[.slice (some ⟨gaL, 0, none⟩) rv.reaches.length c6_, .slice B6_ rv.shoals.length d6_] := hd 1 (memB_mem.1 rfl)
                          have ha := ha.sub (Sub.ins (d := 332) (Sub.nil _) (dep_get rfl e1))
                          refine hs_call ha rfl rfl (cl_24 rfl) (copied_any rv _ _ _ _ _ (RL.rd.below hb) hb.size (by omega) (by omega) f3) rfl ?_
                          rintro e w' ⟨⟨v1, u1, vs1, rfl, hcp⟩, hb'⟩
                          exact ⟨_, rfl, hb', ⟨_, _, _, rfl, hcp⟩⟩
                        | 3, _ =>
                          intro val w1 a hb ha hd
                          have ha := ha.sub (Sub.ins (d := 11) (Sub.nil _) rfl)
                          exact hs_val ha rfl rfl (fa_54_1 rfl) rfl rfl
                        | 4, _ =>
                          intro val w1 a hb ha hd
                          have e3 : val 3 = .pointer (some ⟨ga14_9, 2, none⟩) := hd 3 (memB_mem.1 rfl)
                          have ha := ha.sub (Sub.ins (d := 334) (Sub.nil _) (dep_get rfl e3))
                          exact hs_val ha rfl rfl (ld_52 rfl ((qa14_9.below hb qa14_9.lt).at (j := 2) rfl)) rfl rfl
                        | 5, _ =>
                          intro val w1 a hb ha hd
                          have e4 : val 4 = .slice (some ⟨goL, 0, none⟩) sides.length k6_ := hd 4 (memB_mem.1 rfl)
                          have ha := ha.sub (Sub.ins (d := 335) (Sub.nil _) (dep_get rfl e4))
                          refine hs_call ha rfl rfl (cl_34 rfl) (forecast_any sl _ _ _ _ (RdSides.below (OwnSides.rd SL_) hb) hb.size (by omega) hN.bl) rfl ?_
                          rintro e w' ⟨⟨v1, ss1, rfl, hcp⟩, hb'⟩
                          exact ⟨_, rfl, hb', ⟨_, _, rfl, hcp⟩⟩
                        | 6, _ =>
                          intro val w1 a hb ha hd
                          have ha := ha.sub (Sub.ins (d := 9) (Sub.nil _) rfl)
                          exact hs_val ha rfl rfl (x_move rfl) rfl rfl
                        | 7, _ =>
                          intro val w1 a hb ha hd
                          have ha := ha.sub (Sub.ins (d := 10) (Sub.nil _) rfl)
                          exact hs_val ha rfl rfl (x_move rfl) rfl rfl
                        | 8, _ =>
                          intro val w1 a hb ha hd
                          obtain ⟨a2_, b2_, vs2_, e2, q2_⟩ := hd 2 (memB_mem.1 rfl)
                          obtain ⟨v5_, ss5_, e5, q5_⟩ := hd 5 (memB_mem.1 rfl)
                          have e6 : val 6 = .int .i64 pp := hd 6 (memB_mem.1 rfl)
                          have e7 : val 7 = .int .i64 tt := hd 7 (memB_mem.1 rfl)
                          have ha := ha.sub (Sub.ins (d := 338) (Sub.ins (d := 337) (Sub.ins (d := 336) (Sub.ins (d := 333) (Sub.nil _) (dep_get rfl e2)) (dep_get rfl e5)) (dep_get rfl e6)) (dep_get rfl e7))
                          refine hs_call ha rfl rfl (cl_48 rfl rfl rfl rfl rfl) (cld_fit rv sl _ _ _ _ _ [] _ _ w1.heap.size q2_ q5_ (Nat.le_refl _) rd_nil (by omega) (by omega) f3 (by omega) hN.bl hN.el nar_none (sides.getD 0 []).length hN.hl (inB_iff.2 (by omega)) (inB_iff.2 (by omega)) kA kB ekA ekB) rfl ?_
                          rintro e w' ⟨rfl, hb'⟩
                          exact ⟨_, rfl, hb', rfl⟩
                        | 9, _ =>
                          intro val w1 a hb ha hd
                          have e8 : val 8 = .tuple #[.bool kA, .bool kB, .int .i64 0] := hd 8 (memB_mem.1 rfl)
                          have ha := ha.sub (Sub.ins (d := 339) (Sub.nil _) (dep_get rfl e8))
                          exact hs_val ha rfl rfl (x_move rfl) rfl rfl
                        | 10, _ =>
                          intro val w1 a hb ha hd
                          have e9 : val 9 = .tuple #[.bool kA, .bool kB, .int .i64 0] := hd 9 (memB_mem.1 rfl)
                          have ha := ha.sub (Sub.ins (d := 330) (Sub.nil _) (dep_get rfl e9))
                          exact hs_val ha rfl rfl (x_extract rfl rfl) rfl rfl
                        | 11, _ =>
                          intro val w1 a hb ha hd
                          have e9 : val 9 = .tuple #[.bool kA, .bool kB, .int .i64 0] := hd 9 (memB_mem.1 rfl)
                          have ha := ha.sub (Sub.ins (d := 330) (Sub.nil _) (dep_get rfl e9))
                          exact hs_val ha rfl rfl (x_extract rfl rfl) rfl rfl
                        | 12, _ =>
                          intro val w1 a hb ha hd
                          have e9 : val 9 = .tuple #[.bool kA, .bool kB, .int .i64 0] := hd 9 (memB_mem.1 rfl)
                          have ha := ha.sub (Sub.ins (d := 330) (Sub.nil _) (dep_get rfl e9))
                          exact hs_val ha rfl rfl (x_extract rfl rfl) rfl rfl
                        | 13, _ =>
                          intro val w1 a hb ha hd
                          have e10 : val 10 = .bool kA := hd 10 (memB_mem.1 rfl)
                          have ha := ha.sub (Sub.ins (d := 340) (Sub.nil _) (dep_get rfl e10))
                          exact hs_val ha rfl rfl (x_assign rfl) rfl rfl
                        | 14, _ =>
                          intro val w1 a hb ha hd
                          have e11 : val 11 = .bool kB := hd 11 (memB_mem.1 rfl)
                          have ha := ha.sub (Sub.ins (d := 341) (Sub.nil _) (dep_get rfl e11))
                          exact hs_val ha rfl rfl (x_assign rfl) rfl rfl
                        | k + 15, h => exact absurd h (by omega)
                      · intro val wR30 hb halc hd
                        have e0 : val 0 = .pointer (some ⟨ga14_9, 0, none⟩) := hd 0 (by omega)
                        have e1 : val 1 = .agg #[.slice (some ⟨gaL, 0, none⟩) rv.reaches.length c6_, .slice B6_ rv.shoals.length d6_] := hd 1 (by omega)
                        obtain ⟨a2_, b2_, vs2_, e2, q2_⟩ := hd 2 (by omega)
                        have e3 : val 3 = .pointer (some ⟨ga14_9, 2, none⟩) := hd 3 (by omega)
                        have e4 : val 4 = .slice (some ⟨goL, 0, none⟩) sides.length k6_ := hd 4 (by omega)
                        obtain ⟨v5_, ss5_, e5, q5_⟩ := hd 5 (by omega)
                        have e6 : val 6 = .int .i64 pp := hd 6 (by omega)
                        have e7 : val 7 = .int .i64 tt := hd 7 (by omega)
                        have e8 : val 8 = .tuple #[.bool kA, .bool kB, .int .i64 0] := hd 8 (by omega)
                        have e9 : val 9 = .tuple #[.bool kA, .bool kB, .int .i64 0] := hd 9 (by omega)
                        have e10 : val 10 = .bool kA := hd 10 (by omega)
                        have e11 : val 11 = .bool kB := hd 11 (by omega)
                        have e12 : val 12 = .int .i64 0 := hd 12 (by omega)
                        have e13 : val 13 = .bool kA := hd 13 (by omega)
                        have e14 : val 14 = .bool kB := hd 14 (by omega)
                        refine EL.ends (cs := [.pointer (some ⟨ga14_9, 0, none⟩), .agg #[.slice (some ⟨gaL, 0, none⟩) rv.reaches.length c6_, .slice B6_ rv.shoals.length d6_], .agg #[a2_, b2_], .pointer (some ⟨ga14_9, 2, none⟩), .slice (some ⟨goL, 0, none⟩) sides.length k6_, v5_, .int .i64 pp, .int .i64 tt, .tuple #[.bool kA, .bool kB, .int .i64 0], .tuple #[.bool kA, .bool kB, .int .i64 0], .bool kA, .bool kB, .int .i64 0, .bool kA, .bool kB]) ⟨e0, e1, e2, e3, e4, e5, e6, e7, e8, e9, e10, e11, e12, e13, e14, trivial⟩ rfl ?_
                        replace q1 := q1.below hb q1.lt
                        replace q2 := q2.below hb q2.lt
                        replace q3 := q3.below hb q3.lt
                        replace qa14_9 := qa14_9.below hb qa14_9.lt
                        replace qa15_9 := qa15_9.below hb qa15_9.lt
                        replace qa12_22 := qa12_22.below hb qa12_22.lt
                        replace qa12_23 := qa12_23.below hb qa12_23.lt
                        replace qa12_24 := qa12_24.below hb qa12_24.lt
                        replace qa12_26 := qa12_26.below hb qa12_26.lt
                        replace RL := RL.below hb
                        replace RM := RM.below hb
                        replace SL_ := OwnSides.below SL_ hb
                        replace SM_ := OwnSides.below SM_ hb
                        replace hbw := Below.on hbw hb hbw.size
                        clear hb
                        refine EL.val (x_assign rfl) rfl ?_
                        refine EL.nil ?_
                        refine EX.seq ?_
                        refine EC.seq ?_
                        have lt_1 := q1.lt
                        have lt_2 := q2.lt
                        have lt_3 := q3.lt
                        have lt_7 := qa14_9.lt
                        have lt_8 := qa15_9.lt
                        have lt_14 := qa12_22.lt
                        have lt_15 := qa12_23.lt
                        have lt_16 := qa12_24.lt
                        have lt_19 := qa12_26.lt
                        refine EC.regionP [[], [0], [0, 1], [], [3], [0, 1, 2, 3, 4], [], [], [], [8], [], [8, 9, 10], [], [12], [], [14], [12, 13, 14, 15], [6, 7, 8, 9, 10, 11, 12, 13, 14, 15, 16], [6, 7, 8, 9, 10, 11, 12, 13, 14, 15, 16, 17], [], [], [0, 1, 2, 3, 4, 5, 6, 7, 8, 9, 10, 11, 12, 13, 14, 15, 16, 17, 18, 19, 20], [0, 1, 2, 3, 4, 5, 6, 7, 8, 9, 10, 11, 12, 13, 14, 15, 16, 17, 18, 19, 20, 21], [0, 1, 2, 3, 4, 5, 6, 7, 8, 9, 10, 11, 12, 13, 14, 15, 16, 17, 18, 19, 20, 21, 22], [0, 1, 2, 3, 4, 5, 6, 7, 8, 9, 10, 11, 12, 13, 14, 15, 16, 17, 18, 19, 20, 21, 22], [0, 1, 2, 3, 4, 5, 6, 7, 8, 9, 10, 11, 12, 13, 14, 15, 16, 17, 18, 19, 20, 21, 22], [0, 1, 2, 3, 4, 5, 6, 7, 8, 9, 10, 11, 12, 13, 14, 15, 16, 17, 18, 19, 20, 21, 22, 23], [0, 1, 2, 3, 4, 5, 6, 7, 8, 9, 10, 11, 12, 13, 14, 15, 16, 17, 18, 19, 20, 21, 22, 23, 24, 26], [0, 1, 2, 3, 4, 5, 6, 7, 8, 9, 10, 11, 12, 13, 14, 15, 16, 17, 18, 19, 20, 21, 22, 23, 24, 25, 26, 27]] 28 [] (phi (fun i_ r => match i_ with | 0 => r 0 = .pointer (some ⟨g1, 0, none⟩) | 1 => r 1 = .agg #[.slice (some ⟨bR, oR, none⟩) rv.reaches.length c, .slice A' rv.shoals.length c'] | 3 => r 3 = .pointer (some ⟨g1, 2, none⟩) | 4 => r 4 = .slice (some ⟨bS, oS, none⟩) sides.length d | 6 => r 6 = .int .i64 pp | 7 => r 7 = .int .i64 pp | 8 => r 8 = .int .i64 tt | 9 => r 9 = .int .i64 (tt - 3) | 10 => r 10 = .int .i64 tt | 11 => r 11 = .agg #[.int .i64 (tt - 3), .int .i64 tt] | 12 => r 12 = .int .i64 tt | 13 => r 13 = .int .i64 (tt + 1) | 14 => r 14 = .int .i64 tt | 15 => r 15 = .int .i64 (tt + 9) | 16 => r 16 = .agg #[.int .i64 (tt + 1), .int .i64 (tt + 9)] | 17 => r 17 = .agg #[.int .i64 pp, .int .i64 pp, .int .i64 (tt - 3), .int .i64 tt, .int .i64 (tt + 1), .int .i64 (tt + 9)] | 19 => r 19 = .int .i64 pp | 20 => r 20 = .int .i64 tt | 21 => r 21 = .tuple #[.bool true, .bool true, .int .i64 0] | 22 => r 22 = .tuple #[.bool true, .bool true, .int .i64 0] | 23 => r 23 = .bool true | 24 => r 24 = .bool true | 25 => r 25 = .int .i64 0 | 26 => r 26 = .bool true | 27 => r 27 = .bool true | _ => True) [(2, fun r w_ => ∃ a b vs, r 2 = .agg #[a, b] ∧ RdRiver w_ w_.heap.size a b rv vs), (5, fun r w_ => ∃ v ss, r 5 = v ∧ RdSides w_ w_.heap.size v sides ss), (18, fun r w_ => ∃ g_, r 18 = .slice (some ⟨g_, 0, none⟩) 1 1 ∧ Blk w_ g_ 90 #[.int .i64 pp, .int .i64 pp, .int .i64 (tt - 3), .int .i64 tt, .int .i64 (tt + 1), .int .i64 (tt + 9)] ∧ wR30.heap.size ≤ g_)]) (by kernel_rfl) rfl rfl (phi_cons mono_riv (phi_cons mono_sid (phi_cons mono_bs (phi_nil)))) (fun i_ hi_ => ?_) ?_
                        · match i_, hi_ with
                          | 0, _ =>
                            intro val w1 a hb ha hd
                            have ha := ha.sub (Sub.ins (d := 3) (Sub.nil _) rfl)
                            exact hs_val ha rfl rfl (fa_54_0 rfl) rfl rfl
                          | 1, _ =>
                            intro val w1 a hb ha hd
                            have e0 : val 0 = .pointer (some ⟨g1, 0, none⟩) := hd 0 (memB_mem.1 rfl)
                            have ha := ha.sub (Sub.ins (d := 344) (Sub.nil _) (dep_get rfl e0))
                            exact hs_val ha rfl rfl (ld_47 rfl ((q1.below hb q1.lt).at (j := 0) rfl) ((q1.below hb q1.lt).at (j := 1) rfl)) rfl rfl
                          | 2, _ =>
                            intro val w1 a hb ha hd
                            have e1 : val 1 = .agg #[.slice (some ⟨bR, oR, none⟩) rv.reaches.length c, .slice A' rv.shoals.length c'] := hd 1 (memB_mem.1 rfl)
                            have ha := ha.sub (Sub.ins (d := 345) (Sub.nil _) (dep_get rfl e1))
                            refine hs_call ha rfl rfl (cl_24 rfl) (copied_any rv _ _ _ _ _ (hr.below ((Below.on hbw hb hbw.size).mono hB)) (Nat.le_trans hB (Below.on hbw hb hbw.size).size) (by omega) (by omega) f3) rfl ?_
                            rintro e w' ⟨⟨v1, u1, vs1, rfl, hcp⟩, hb'⟩
                            exact ⟨_, rfl, hb', ⟨_, _, _, rfl, hcp⟩⟩
                          | 3, _ =>
                            intro val w1 a hb ha hd
                            have ha := ha.sub (Sub.ins (d := 3) (Sub.nil _) rfl)
                            exact hs_val ha rfl rfl (fa_54_1 rfl) rfl rfl
                          | 4, _ =>
                            intro val w1 a hb ha hd
                            have e3 : val 3 = .pointer (some ⟨g1, 2, none⟩) := hd 3 (memB_mem.1 rfl)
                            have ha := ha.sub (Sub.ins (d := 347) (Sub.nil _) (dep_get rfl e3))
                            exact hs_val ha rfl rfl (ld_52 rfl ((q1.below hb q1.lt).at (j := 2) rfl)) rfl rfl
                          | 5, _ =>
                            intro val w1 a hb ha hd
                            have e4 : val 4 = .slice (some ⟨bS, oS, none⟩) sides.length d := hd 4 (memB_mem.1 rfl)
                            have ha := ha.sub (Sub.ins (d := 348) (Sub.nil _) (dep_get rfl e4))
                            refine hs_call ha rfl rfl (cl_34 rfl) (forecast_any sides _ _ _ _ (hs.below ((Below.on hbw hb hbw.size).mono hB)) (Nat.le_trans hB (Below.on hbw hb hbw.size).size) (by omega) f4) rfl ?_
                            rintro e w' ⟨⟨v1, ss1, rfl, hcp⟩, hb'⟩
                            exact ⟨_, rfl, hb', ⟨_, _, rfl, hcp⟩⟩
                          | 6, _ =>
                            intro val w1 a hb ha hd
                            have ha := ha.sub (Sub.ins (d := 9) (Sub.nil _) rfl)
                            exact hs_val ha rfl rfl (x_move rfl) rfl rfl
                          | 7, _ =>
                            intro val w1 a hb ha hd
                            have ha := ha.sub (Sub.ins (d := 9) (Sub.nil _) rfl)
                            exact hs_val ha rfl rfl (x_move rfl) rfl rfl
                          | 8, _ =>
                            intro val w1 a hb ha hd
                            have ha := ha.sub (Sub.ins (d := 10) (Sub.nil _) rfl)
                            exact hs_val ha rfl rfl (x_move rfl) rfl rfl
                          | 9, _ =>
                            intro val w1 a hb ha hd
                            have e8 : val 8 = .int .i64 tt := hd 8 (memB_mem.1 rfl)
                            have ha := ha.sub (Sub.ins (d := 352) (Sub.nil _) (dep_get rfl e8))
                            exact hs_val ha rfl rfl (x_sub rfl rfl (by first | assumption | exact IntWalk.i64_in _ ⟨by omega, by omega⟩)) rfl rfl
                          | 10, _ =>
                            intro val w1 a hb ha hd
                            have ha := ha.sub (Sub.ins (d := 10) (Sub.nil _) rfl)
                            exact hs_val ha rfl rfl (x_move rfl) rfl rfl
                          | 11, _ =>
                            intro val w1 a hb ha hd
                            have e9 : val 9 = .int .i64 (tt - 3) := hd 9 (memB_mem.1 rfl)
                            have e10 : val 10 = .int .i64 tt := hd 10 (memB_mem.1 rfl)
                            have ha := ha.sub (Sub.ins (d := 354) (Sub.ins (d := 353) (Sub.nil _) (dep_get rfl e9)) (dep_get rfl e10))
                            exact hs_val ha rfl rfl (bd_23_0_1 rfl rfl) rfl rfl
                          | 12, _ =>
                            intro val w1 a hb ha hd
                            have ha := ha.sub (Sub.ins (d := 10) (Sub.nil _) rfl)
                            exact hs_val ha rfl rfl (x_move rfl) rfl rfl
                          | 13, _ =>
                            intro val w1 a hb ha hd
                            have e12 : val 12 = .int .i64 tt := hd 12 (memB_mem.1 rfl)
                            have ha := ha.sub (Sub.ins (d := 356) (Sub.nil _) (dep_get rfl e12))
                            exact hs_val ha rfl rfl (x_add rfl rfl (by first | assumption | exact IntWalk.i64_in _ ⟨by omega, by omega⟩)) rfl rfl
                          | 14, _ =>
                            intro val w1 a hb ha hd
                            have ha := ha.sub (Sub.ins (d := 10) (Sub.nil _) rfl)
                            exact hs_val ha rfl rfl (x_move rfl) rfl rfl
                          | 15, _ =>
                            intro val w1 a hb ha hd
                            have e14 : val 14 = .int .i64 tt := hd 14 (memB_mem.1 rfl)
                            have ha := ha.sub (Sub.ins (d := 358) (Sub.nil _) (dep_get rfl e14))
                            exact hs_val ha rfl rfl (x_add rfl rfl (by first | assumption | exact IntWalk.i64_in _ ⟨by omega, by omega⟩)) rfl rfl
                          | 16, _ =>
                            intro val w1 a hb ha hd
                            have e13 : val 13 = .int .i64 (tt + 1) := hd 13 (memB_mem.1 rfl)
                            have e15 : val 15 = .int .i64 (tt + 9) := hd 15 (memB_mem.1 rfl)
                            have ha := ha.sub (Sub.ins (d := 359) (Sub.ins (d := 357) (Sub.nil _) (dep_get rfl e13)) (dep_get rfl e15))
                            exact hs_val ha rfl rfl (bd_23_0_1 rfl rfl) rfl rfl
                          | 17, _ =>
                            intro val w1 a hb ha hd
                            have e6 : val 6 = .int .i64 pp := hd 6 (memB_mem.1 rfl)
                            have e7 : val 7 = .int .i64 pp := hd 7 (memB_mem.1 rfl)
                            have e11 : val 11 = .agg #[.int .i64 (tt - 3), .int .i64 tt] := hd 11 (memB_mem.1 rfl)
                            have e16 : val 16 = .agg #[.int .i64 (tt + 1), .int .i64 (tt + 9)] := hd 16 (memB_mem.1 rfl)
                            have ha := ha.sub (Sub.ins (d := 360) (Sub.ins (d := 355) (Sub.ins (d := 351) (Sub.ins (d := 350) (Sub.nil _) (dep_get rfl e6)) (dep_get rfl e7)) (dep_get rfl e11)) (dep_get rfl e16))
                            exact hs_val ha rfl rfl (bd_90_0_1_2_3 rfl rfl rfl rfl) rfl rfl
                          | 18, _ =>
                            intro val w1 a hb ha hd
                            have e17 : val 17 = .agg #[.int .i64 pp, .int .i64 pp, .int .i64 (tt - 3), .int .i64 tt, .int .i64 (tt + 1), .int .i64 (tt + 9)] := hd 17 (memB_mem.1 rfl)
                            have ha := ha.sub (Sub.ins (d := 361) (Sub.nil _) (dep_get rfl e17))
                            exact hs_newS ha rfl rfl (bs_86_1 rfl) rfl (fun g w' hq _ hge => ⟨g, rfl, hq, Nat.le_trans hb.size hge⟩)
                          | 19, _ =>
                            intro val w1 a hb ha hd
                            have ha := ha.sub (Sub.ins (d := 9) (Sub.nil _) rfl)
                            exact hs_val ha rfl rfl (x_move rfl) rfl rfl
                          | 20, _ =>
                            intro val w1 a hb ha hd
                            have ha := ha.sub (Sub.ins (d := 10) (Sub.nil _) rfl)
                            exact hs_val ha rfl rfl (x_move rfl) rfl rfl
                          | 21, _ =>
                            intro val w1 a hb ha hd
                            obtain ⟨a2_, b2_, vs2_, e2, q2_⟩ := hd 2 (memB_mem.1 rfl)
                            obtain ⟨v5_, ss5_, e5, q5_⟩ := hd 5 (memB_mem.1 rfl)
                            obtain ⟨g18_, e18, q18_, h18_⟩ := hd 18 (memB_mem.1 rfl)
                            change val 18 = _ at e18
                            have e19 : val 19 = .int .i64 pp := hd 19 (memB_mem.1 rfl)
                            have e20 : val 20 = .int .i64 tt := hd 20 (memB_mem.1 rfl)
                            have ha := ha.sub (Sub.ins (d := 364) (Sub.ins (d := 363) (Sub.ins (d := 362) (Sub.ins (d := 349) (Sub.ins (d := 346) (Sub.nil _) (dep_get rfl e2)) (dep_get rfl e5)) (dep_get rfl e18)) (dep_get rfl e19)) (dep_get rfl e20))
                            refine hs_call ha rfl rfl (cl_48 rfl rfl rfl rfl rfl) (cld_fit rv sides _ _ _ _ _ [⟨pp, pp, ⟨tt - 3, tt⟩, ⟨tt + 1, tt + 9⟩⟩] _ _ w1.heap.size q2_ q5_ (Nat.le_refl _) (rd_one (l := [.int .i64 pp, .int .i64 pp, .int .i64 (tt - 3), .int .i64 tt, .int .i64 (tt + 1), .int .i64 (tt + 9)]) q18_ rfl) (by omega) (by omega) f3 (by omega) f4 hst (nar_err hpp1 hpp2 htt1 (by omega)) (sides.getD 0 []).length rfl (inB_iff.2 (by omega)) (inB_iff.2 (by omega)) true true nar_one.1 nar_one.2) rfl ?_
                            rintro e w' ⟨rfl, hb'⟩
                            exact ⟨_, rfl, hb', rfl⟩
                          | 22, _ =>
                            intro val w1 a hb ha hd
                            have e21 : val 21 = .tuple #[.bool true, .bool true, .int .i64 0] := hd 21 (memB_mem.1 rfl)
                            have ha := ha.sub (Sub.ins (d := 365) (Sub.nil _) (dep_get rfl e21))
                            exact hs_val ha rfl rfl (x_move rfl) rfl rfl
                          | 23, _ =>
                            intro val w1 a hb ha hd
                            have e22 : val 22 = .tuple #[.bool true, .bool true, .int .i64 0] := hd 22 (memB_mem.1 rfl)
                            have ha := ha.sub (Sub.ins (d := 343) (Sub.nil _) (dep_get rfl e22))
                            exact hs_val ha rfl rfl (x_extract rfl rfl) rfl rfl
                          | 24, _ =>
                            intro val w1 a hb ha hd
                            have e22 : val 22 = .tuple #[.bool true, .bool true, .int .i64 0] := hd 22 (memB_mem.1 rfl)
                            have ha := ha.sub (Sub.ins (d := 343) (Sub.nil _) (dep_get rfl e22))
                            exact hs_val ha rfl rfl (x_extract rfl rfl) rfl rfl
                          | 25, _ =>
                            intro val w1 a hb ha hd
                            have e22 : val 22 = .tuple #[.bool true, .bool true, .int .i64 0] := hd 22 (memB_mem.1 rfl)
                            have ha := ha.sub (Sub.ins (d := 343) (Sub.nil _) (dep_get rfl e22))
                            exact hs_val ha rfl rfl (x_extract rfl rfl) rfl rfl
                          | 26, _ =>
                            intro val w1 a hb ha hd
                            have e23 : val 23 = .bool true := hd 23 (memB_mem.1 rfl)
                            have ha := ha.sub (Sub.ins (d := 366) (Sub.nil _) (dep_get rfl e23))
                            exact hs_val ha rfl rfl (x_assign rfl) rfl rfl
                          | 27, _ =>
                            intro val w1 a hb ha hd
                            have e24 : val 24 = .bool true := hd 24 (memB_mem.1 rfl)
                            have ha := ha.sub (Sub.ins (d := 367) (Sub.nil _) (dep_get rfl e24))
                            exact hs_val ha rfl rfl (x_assign rfl) rfl rfl
                          | k + 28, h => exact absurd h (by omega)
                        · intro val wR31 hb halc hd
                          have e0 : val 0 = .pointer (some ⟨g1, 0, none⟩) := hd 0 (by omega)
                          have e1 : val 1 = .agg #[.slice (some ⟨bR, oR, none⟩) rv.reaches.length c, .slice A' rv.shoals.length c'] := hd 1 (by omega)
                          obtain ⟨a2_, b2_, vs2_, e2, q2_⟩ := hd 2 (by omega)
                          have e3 : val 3 = .pointer (some ⟨g1, 2, none⟩) := hd 3 (by omega)
                          have e4 : val 4 = .slice (some ⟨bS, oS, none⟩) sides.length d := hd 4 (by omega)
                          obtain ⟨v5_, ss5_, e5, q5_⟩ := hd 5 (by omega)
                          have e6 : val 6 = .int .i64 pp := hd 6 (by omega)
                          have e7 : val 7 = .int .i64 pp := hd 7 (by omega)
                          have e8 : val 8 = .int .i64 tt := hd 8 (by omega)
                          have e9 : val 9 = .int .i64 (tt - 3) := hd 9 (by omega)
                          have e10 : val 10 = .int .i64 tt := hd 10 (by omega)
                          have e11 : val 11 = .agg #[.int .i64 (tt - 3), .int .i64 tt] := hd 11 (by omega)
                          have e12 : val 12 = .int .i64 tt := hd 12 (by omega)
                          have e13 : val 13 = .int .i64 (tt + 1) := hd 13 (by omega)
                          have e14 : val 14 = .int .i64 tt := hd 14 (by omega)
                          have e15 : val 15 = .int .i64 (tt + 9) := hd 15 (by omega)
                          have e16 : val 16 = .agg #[.int .i64 (tt + 1), .int .i64 (tt + 9)] := hd 16 (by omega)
                          have e17 : val 17 = .agg #[.int .i64 pp, .int .i64 pp, .int .i64 (tt - 3), .int .i64 tt, .int .i64 (tt + 1), .int .i64 (tt + 9)] := hd 17 (by omega)
                          obtain ⟨ga18_31, e18, qa18_31, hga18_31⟩ := hd 18 (by omega)
                          change val 18 = _ at e18
                          change Blk wR31 ga18_31 90 #[.int .i64 pp, .int .i64 pp, .int .i64 (tt - 3), .int .i64 tt, .int .i64 (tt + 1), .int .i64 (tt + 9)] at qa18_31
                          have e19 : val 19 = .int .i64 pp := hd 19 (by omega)
                          have e20 : val 20 = .int .i64 tt := hd 20 (by omega)
                          have e21 : val 21 = .tuple #[.bool true, .bool true, .int .i64 0] := hd 21 (by omega)
                          have e22 : val 22 = .tuple #[.bool true, .bool true, .int .i64 0] := hd 22 (by omega)
                          have e23 : val 23 = .bool true := hd 23 (by omega)
                          have e24 : val 24 = .bool true := hd 24 (by omega)
                          have e25 : val 25 = .int .i64 0 := hd 25 (by omega)
                          have e26 : val 26 = .bool true := hd 26 (by omega)
                          have e27 : val 27 = .bool true := hd 27 (by omega)
                          refine EL.ends (cs := [.pointer (some ⟨g1, 0, none⟩), .agg #[.slice (some ⟨bR, oR, none⟩) rv.reaches.length c, .slice A' rv.shoals.length c'], .agg #[a2_, b2_], .pointer (some ⟨g1, 2, none⟩), .slice (some ⟨bS, oS, none⟩) sides.length d, v5_, .int .i64 pp, .int .i64 pp, .int .i64 tt, .int .i64 (tt - 3), .int .i64 tt, .agg #[.int .i64 (tt - 3), .int .i64 tt], .int .i64 tt, .int .i64 (tt + 1), .int .i64 tt, .int .i64 (tt + 9), .agg #[.int .i64 (tt + 1), .int .i64 (tt + 9)], .agg #[.int .i64 pp, .int .i64 pp, .int .i64 (tt - 3), .int .i64 tt, .int .i64 (tt + 1), .int .i64 (tt + 9)], .slice (some ⟨ga18_31, 0, none⟩) 1 1, .int .i64 pp, .int .i64 tt, .tuple #[.bool true, .bool true, .int .i64 0], .tuple #[.bool true, .bool true, .int .i64 0], .bool true, .bool true, .int .i64 0, .bool true, .bool true]) ⟨e0, e1, e2, e3, e4, e5, e6, e7, e8, e9, e10, e11, e12, e13, e14, e15, e16, e17, e18, e19, e20, e21, e22, e23, e24, e25, e26, e27, trivial⟩ rfl ?_
                          replace q1 := q1.below hb q1.lt
                          replace q2 := q2.below hb q2.lt
                          replace q3 := q3.below hb q3.lt
                          replace qa14_9 := qa14_9.below hb qa14_9.lt
                          replace qa15_9 := qa15_9.below hb qa15_9.lt
                          replace qa12_22 := qa12_22.below hb qa12_22.lt
                          replace qa12_23 := qa12_23.below hb qa12_23.lt
                          replace qa12_24 := qa12_24.below hb qa12_24.lt
                          replace qa12_26 := qa12_26.below hb qa12_26.lt
                          replace RL := RL.below hb
                          replace RM := RM.below hb
                          replace SL_ := OwnSides.below SL_ hb
                          replace SM_ := OwnSides.below SM_ hb
                          have n1_20 : g1 ≠ ga18_31 := Nat.ne_of_lt (Nat.lt_of_lt_of_le lt_1 hga18_31)
                          have n2_20 : g2 ≠ ga18_31 := Nat.ne_of_lt (Nat.lt_of_lt_of_le lt_2 hga18_31)
                          have n3_20 : g3 ≠ ga18_31 := Nat.ne_of_lt (Nat.lt_of_lt_of_le lt_3 hga18_31)
                          have n7_20 : ga14_9 ≠ ga18_31 := Nat.ne_of_lt (Nat.lt_of_lt_of_le lt_7 hga18_31)
                          have n8_20 : ga15_9 ≠ ga18_31 := Nat.ne_of_lt (Nat.lt_of_lt_of_le lt_8 hga18_31)
                          have n14_20 : ga12_22 ≠ ga18_31 := Nat.ne_of_lt (Nat.lt_of_lt_of_le lt_14 hga18_31)
                          have n15_20 : ga12_23 ≠ ga18_31 := Nat.ne_of_lt (Nat.lt_of_lt_of_le lt_15 hga18_31)
                          have n16_20 : ga12_24 ≠ ga18_31 := Nat.ne_of_lt (Nat.lt_of_lt_of_le lt_16 hga18_31)
                          have n19_20 : ga12_26 ≠ ga18_31 := Nat.ne_of_lt (Nat.lt_of_lt_of_le lt_19 hga18_31)
                          have bhbw_20 := Nat.le_trans hbw.size hga18_31
                          replace hbw := Below.on hbw hb hbw.size
                          clear hb
                          refine EL.val (x_assign rfl) rfl ?_
                          refine EL.nil ?_
                          refine EX.seq ?_
                          refine EC.seq ?_
                          refine EC.region ?_
                          refine EL.val (x_move rfl) rfl ?_
                          refine EL.val (x_eql rfl rfl (by first | assumption | exact decide_eq_true (by omega))) rfl ?_
                          refine EL.val (x_move rfl) rfl ?_
                          refine EL.valg rfl rfl (x_move rfl) rfl ?_
                          refine EL.valg rfl rfl (x_eql rfl rfl (by first | assumption | exact decide_eq_true (by omega))) rfl ?_
                          refine EL.val (x_pick_t rfl rfl) rfl ?_
                          refine EL.val (x_move rfl) rfl ?_
                          refine EL.valg rfl rfl (x_move rfl) rfl ?_
                          refine EL.valg rfl rfl (x_eql rfl rfl (by first | assumption | exact decide_eq_true (by omega))) rfl ?_
                          refine EL.val (x_pick_t rfl rfl) rfl ?_
                          refine EL.val (x_move rfl) rfl ?_
                          refine EL.valg rfl rfl (x_move rfl) rfl ?_
                          refine EL.valg rfl rfl (x_move rfl) rfl ?_
                          have h4 := nar_chain hN.l4 hN.l2 hN.l3 ekM ekS ekA ekB
                          clear ekM ekS ekA ekB
                          rcases h4 with h4 | h4 | h4 | h4 | h4
                          ·
                            obtain ⟨rfl, rfl, rfl, rfl⟩ := h4
                            refine EL.valg rfl rfl (x_move rfl) rfl ?_
                            refine EL.valg rfl rfl (x_not rfl) rfl ?_
                            refine EL.valg rfl rfl (x_pick_f rfl rfl) rfl ?_
                            refine EL.val (x_pick_t rfl rfl) rfl ?_
                            refine EL.val (x_move rfl) rfl ?_
                            refine EL.valg rfl rfl (x_move rfl) rfl ?_
                            refine EL.valg rfl rfl (x_move rfl) rfl ?_
                            refine EL.valg rfl rfl (x_move rfl) rfl ?_
                            refine EL.valg rfl rfl (x_not rfl) rfl ?_
                            refine EL.valg rfl rfl (x_pick_f rfl rfl) rfl ?_
                            refine EL.val (x_pick_t rfl rfl) rfl ?_
                            refine EL.val (x_move rfl) rfl ?_
                            refine EL.valg rfl rfl (x_move rfl) rfl ?_
                            refine EL.valg rfl rfl (x_move rfl) rfl ?_
                            refine EL.valg rfl rfl (x_move rfl) rfl ?_
                            refine EL.valg rfl rfl (x_not rfl) rfl ?_
                            refine EL.valg rfl rfl (x_pick_f rfl rfl) rfl ?_
                            refine EL.val (x_pick_t rfl rfl) rfl ?_
                            refine EL.val (x_move rfl) rfl ?_
                            refine EL.valg rfl rfl (x_move rfl) rfl ?_
                            refine EL.valg rfl rfl (x_move rfl) rfl ?_
                            refine EL.valg rfl rfl (x_move rfl) rfl ?_
                            refine EL.valg rfl rfl (x_not rfl) rfl ?_
                            refine EL.valg rfl rfl (x_pick_f rfl rfl) rfl ?_
                            refine EL.val (x_pick_t rfl rfl) rfl ?_
                            refine EL.val (x_move rfl) rfl ?_
                            refine EL.valg rfl rfl (x_move rfl) rfl ?_
                            refine EL.val (x_pick_t rfl rfl) rfl ?_
                            refine EL.val (x_move rfl) rfl ?_
                            refine EL.valg rfl rfl (x_move rfl) rfl ?_
                            refine EL.val (x_pick_t rfl rfl) rfl ?_
                            refine EL.val (x_move rfl) rfl ?_
                            refine EL.callg rfl rfl cl_16 rfl (known_any _) ?_
                            rintro e w21 ⟨rfl, hc21⟩
                            refine ⟨_, rfl, ?_⟩
                            replace q1 := q1.below hc21 q1.lt
                            replace q2 := q2.below hc21 q2.lt
                            replace q3 := q3.below hc21 q3.lt
                            replace qa14_9 := qa14_9.below hc21 qa14_9.lt
                            replace qa15_9 := qa15_9.below hc21 qa15_9.lt
                            replace qa12_22 := qa12_22.below hc21 qa12_22.lt
                            replace qa12_23 := qa12_23.below hc21 qa12_23.lt
                            replace qa12_24 := qa12_24.below hc21 qa12_24.lt
                            replace qa12_26 := qa12_26.below hc21 qa12_26.lt
                            replace qa18_31 := qa18_31.below hc21 qa18_31.lt
                            replace RL := RL.below hc21
                            replace RM := RM.below hc21
                            replace SL_ := OwnSides.below SL_ hc21
                            replace SM_ := OwnSides.below SM_ hc21
                            replace hbw := Below.on hbw hc21 hbw.size
                            clear hc21
                            refine EL.val (x_pick_t rfl rfl) rfl ?_
                            refine EL.val (x_assign rfl) rfl ?_
                            refine EL.nil ?_
                            refine EX.seq ?_
                            refine EC.ret ?_
                            exact EX.done (res1 rfl rfl) ⟨rfl, hbw⟩
                          ·
                            obtain ⟨rfl, rfl, rfl, rfl⟩ := h4
                            refine EL.skip rfl rfl rfl rfl ?_
                            refine EL.skip rfl rfl rfl rfl ?_
                            refine EL.valg rfl rfl (x_pick_t rfl rfl) rfl ?_
                            refine EL.val (x_pick_t rfl rfl) rfl ?_
                            refine EL.val (x_move rfl) rfl ?_
                            refine EL.valg rfl rfl (x_move rfl) rfl ?_
                            refine EL.valg rfl rfl (x_move rfl) rfl ?_
                            refine EL.valg rfl rfl (x_move rfl) rfl ?_
                            refine EL.valg rfl rfl (x_not rfl) rfl ?_
                            refine EL.valg rfl rfl (x_pick_f rfl rfl) rfl ?_
                            refine EL.val (x_pick_t rfl rfl) rfl ?_
                            refine EL.val (x_move rfl) rfl ?_
                            refine EL.valg rfl rfl (x_move rfl) rfl ?_
                            refine EL.valg rfl rfl (x_move rfl) rfl ?_
                            refine EL.skip rfl rfl rfl rfl ?_
                            refine EL.skip rfl rfl rfl rfl ?_
                            refine EL.valg rfl rfl (x_pick_t rfl rfl) rfl ?_
                            refine EL.val (x_pick_t rfl rfl) rfl ?_
                            refine EL.val (x_move rfl) rfl ?_
                            refine EL.valg rfl rfl (x_move rfl) rfl ?_
                            refine EL.valg rfl rfl (x_move rfl) rfl ?_
                            refine EL.valg rfl rfl (x_move rfl) rfl ?_
                            refine EL.valg rfl rfl (x_not rfl) rfl ?_
                            refine EL.valg rfl rfl (x_pick_f rfl rfl) rfl ?_
                            refine EL.val (x_pick_t rfl rfl) rfl ?_
                            refine EL.val (x_move rfl) rfl ?_
                            refine EL.valg rfl rfl (x_move rfl) rfl ?_
                            refine EL.val (x_pick_t rfl rfl) rfl ?_
                            refine EL.val (x_move rfl) rfl ?_
                            refine EL.valg rfl rfl (x_move rfl) rfl ?_
                            refine EL.val (x_pick_t rfl rfl) rfl ?_
                            refine EL.val (x_move rfl) rfl ?_
                            refine EL.callg rfl rfl cl_16 rfl (known_any _) ?_
                            rintro e w22 ⟨rfl, hc22⟩
                            refine ⟨_, rfl, ?_⟩
                            replace q1 := q1.below hc22 q1.lt
                            replace q2 := q2.below hc22 q2.lt
                            replace q3 := q3.below hc22 q3.lt
                            replace qa14_9 := qa14_9.below hc22 qa14_9.lt
                            replace qa15_9 := qa15_9.below hc22 qa15_9.lt
                            replace qa12_22 := qa12_22.below hc22 qa12_22.lt
                            replace qa12_23 := qa12_23.below hc22 qa12_23.lt
                            replace qa12_24 := qa12_24.below hc22 qa12_24.lt
                            replace qa12_26 := qa12_26.below hc22 qa12_26.lt
                            replace qa18_31 := qa18_31.below hc22 qa18_31.lt
                            replace RL := RL.below hc22
                            replace RM := RM.below hc22
                            replace SL_ := OwnSides.below SL_ hc22
                            replace SM_ := OwnSides.below SM_ hc22
                            replace hbw := Below.on hbw hc22 hbw.size
                            clear hc22
                            refine EL.val (x_pick_t rfl rfl) rfl ?_
                            refine EL.val (x_assign rfl) rfl ?_
                            refine EL.nil ?_
                            refine EX.seq ?_
                            refine EC.ret ?_
                            exact EX.done (res1 rfl rfl) ⟨rfl, hbw⟩
                          ·
                            obtain ⟨rfl, rfl, rfl, rfl⟩ := h4
                            refine EL.skip rfl rfl rfl rfl ?_
                            refine EL.skip rfl rfl rfl rfl ?_
                            refine EL.valg rfl rfl (x_pick_t rfl rfl) rfl ?_
                            refine EL.val (x_pick_t rfl rfl) rfl ?_
                            refine EL.val (x_move rfl) rfl ?_
                            refine EL.valg rfl rfl (x_move rfl) rfl ?_
                            refine EL.valg rfl rfl (x_move rfl) rfl ?_
                            refine EL.skip rfl rfl rfl rfl ?_
                            refine EL.skip rfl rfl rfl rfl ?_
                            refine EL.valg rfl rfl (x_pick_t rfl rfl) rfl ?_
                            refine EL.val (x_pick_t rfl rfl) rfl ?_
                            refine EL.val (x_move rfl) rfl ?_
                            refine EL.valg rfl rfl (x_move rfl) rfl ?_
                            refine EL.valg rfl rfl (x_move rfl) rfl ?_
                            refine EL.skip rfl rfl rfl rfl ?_
                            refine EL.skip rfl rfl rfl rfl ?_
                            refine EL.valg rfl rfl (x_pick_t rfl rfl) rfl ?_
                            refine EL.val (x_pick_t rfl rfl) rfl ?_
                            refine EL.val (x_move rfl) rfl ?_
                            refine EL.valg rfl rfl (x_move rfl) rfl ?_
                            refine EL.valg rfl rfl (x_move rfl) rfl ?_
                            refine EL.valg rfl rfl (x_move rfl) rfl ?_
                            refine EL.valg rfl rfl (x_not rfl) rfl ?_
                            refine EL.valg rfl rfl (x_pick_f rfl rfl) rfl ?_
                            refine EL.val (x_pick_t rfl rfl) rfl ?_
                            refine EL.val (x_move rfl) rfl ?_
                            refine EL.valg rfl rfl (x_move rfl) rfl ?_
                            refine EL.val (x_pick_t rfl rfl) rfl ?_
                            refine EL.val (x_move rfl) rfl ?_
                            refine EL.valg rfl rfl (x_move rfl) rfl ?_
                            refine EL.val (x_pick_t rfl rfl) rfl ?_
                            refine EL.val (x_move rfl) rfl ?_
                            refine EL.callg rfl rfl cl_16 rfl (known_any _) ?_
                            rintro e w23 ⟨rfl, hc23⟩
                            refine ⟨_, rfl, ?_⟩
                            replace q1 := q1.below hc23 q1.lt
                            replace q2 := q2.below hc23 q2.lt
                            replace q3 := q3.below hc23 q3.lt
                            replace qa14_9 := qa14_9.below hc23 qa14_9.lt
                            replace qa15_9 := qa15_9.below hc23 qa15_9.lt
                            replace qa12_22 := qa12_22.below hc23 qa12_22.lt
                            replace qa12_23 := qa12_23.below hc23 qa12_23.lt
                            replace qa12_24 := qa12_24.below hc23 qa12_24.lt
                            replace qa12_26 := qa12_26.below hc23 qa12_26.lt
                            replace qa18_31 := qa18_31.below hc23 qa18_31.lt
                            replace RL := RL.below hc23
                            replace RM := RM.below hc23
                            replace SL_ := OwnSides.below SL_ hc23
                            replace SM_ := OwnSides.below SM_ hc23
                            replace hbw := Below.on hbw hc23 hbw.size
                            clear hc23
                            refine EL.val (x_pick_t rfl rfl) rfl ?_
                            refine EL.val (x_assign rfl) rfl ?_
                            refine EL.nil ?_
                            refine EX.seq ?_
                            refine EC.ret ?_
                            exact EX.done (res1 rfl rfl) ⟨rfl, hbw⟩
                          ·
                            obtain ⟨rfl, rfl, rfl, rfl⟩ := h4
                            refine EL.skip rfl rfl rfl rfl ?_
                            refine EL.skip rfl rfl rfl rfl ?_
                            refine EL.valg rfl rfl (x_pick_t rfl rfl) rfl ?_
                            refine EL.val (x_pick_t rfl rfl) rfl ?_
                            refine EL.val (x_move rfl) rfl ?_
                            refine EL.valg rfl rfl (x_move rfl) rfl ?_
                            refine EL.valg rfl rfl (x_move rfl) rfl ?_
                            refine EL.skip rfl rfl rfl rfl ?_
                            refine EL.skip rfl rfl rfl rfl ?_
                            refine EL.valg rfl rfl (x_pick_t rfl rfl) rfl ?_
                            refine EL.val (x_pick_t rfl rfl) rfl ?_
                            refine EL.val (x_move rfl) rfl ?_
                            refine EL.valg rfl rfl (x_move rfl) rfl ?_
                            refine EL.valg rfl rfl (x_move rfl) rfl ?_
                            refine EL.skip rfl rfl rfl rfl ?_
                            refine EL.skip rfl rfl rfl rfl ?_
                            refine EL.valg rfl rfl (x_pick_t rfl rfl) rfl ?_
                            refine EL.val (x_pick_t rfl rfl) rfl ?_
                            refine EL.val (x_move rfl) rfl ?_
                            refine EL.valg rfl rfl (x_move rfl) rfl ?_
                            refine EL.valg rfl rfl (x_move rfl) rfl ?_
                            refine EL.skip rfl rfl rfl rfl ?_
                            refine EL.skip rfl rfl rfl rfl ?_
                            refine EL.valg rfl rfl (x_pick_t rfl rfl) rfl ?_
                            refine EL.val (x_pick_t rfl rfl) rfl ?_
                            refine EL.val (x_move rfl) rfl ?_
                            refine EL.valg rfl rfl (x_move rfl) rfl ?_
                            refine EL.val (x_pick_t rfl rfl) rfl ?_
                            refine EL.val (x_move rfl) rfl ?_
                            refine EL.valg rfl rfl (x_move rfl) rfl ?_
                            refine EL.val (x_pick_t rfl rfl) rfl ?_
                            refine EL.val (x_move rfl) rfl ?_
                            refine EL.callg rfl rfl cl_16 rfl (known_any _) ?_
                            rintro e w24 ⟨rfl, hc24⟩
                            refine ⟨_, rfl, ?_⟩
                            replace q1 := q1.below hc24 q1.lt
                            replace q2 := q2.below hc24 q2.lt
                            replace q3 := q3.below hc24 q3.lt
                            replace qa14_9 := qa14_9.below hc24 qa14_9.lt
                            replace qa15_9 := qa15_9.below hc24 qa15_9.lt
                            replace qa12_22 := qa12_22.below hc24 qa12_22.lt
                            replace qa12_23 := qa12_23.below hc24 qa12_23.lt
                            replace qa12_24 := qa12_24.below hc24 qa12_24.lt
                            replace qa12_26 := qa12_26.below hc24 qa12_26.lt
                            replace qa18_31 := qa18_31.below hc24 qa18_31.lt
                            replace RL := RL.below hc24
                            replace RM := RM.below hc24
                            replace SL_ := OwnSides.below SL_ hc24
                            replace SM_ := OwnSides.below SM_ hc24
                            replace hbw := Below.on hbw hc24 hbw.size
                            clear hc24
                            refine EL.val (x_pick_t rfl rfl) rfl ?_
                            refine EL.val (x_assign rfl) rfl ?_
                            refine EL.nil ?_
                            refine EX.seq ?_
                            refine EC.ret ?_
                            exact EX.done (res1 rfl rfl) ⟨rfl, hbw⟩
                          ·
                            obtain ⟨rfl, rfl, rfl, rfl⟩ := h4
                            refine EL.skip rfl rfl rfl rfl ?_
                            refine EL.skip rfl rfl rfl rfl ?_
                            refine EL.valg rfl rfl (x_pick_t rfl rfl) rfl ?_
                            refine EL.val (x_pick_t rfl rfl) rfl ?_
                            refine EL.val (x_move rfl) rfl ?_
                            refine EL.valg rfl rfl (x_move rfl) rfl ?_
                            refine EL.valg rfl rfl (x_move rfl) rfl ?_
                            refine EL.skip rfl rfl rfl rfl ?_
                            refine EL.skip rfl rfl rfl rfl ?_
                            refine EL.valg rfl rfl (x_pick_t rfl rfl) rfl ?_
                            refine EL.val (x_pick_t rfl rfl) rfl ?_
                            refine EL.val (x_move rfl) rfl ?_
                            refine EL.valg rfl rfl (x_move rfl) rfl ?_
                            refine EL.valg rfl rfl (x_move rfl) rfl ?_
                            refine EL.skip rfl rfl rfl rfl ?_
                            refine EL.skip rfl rfl rfl rfl ?_
                            refine EL.valg rfl rfl (x_pick_t rfl rfl) rfl ?_
                            refine EL.val (x_pick_t rfl rfl) rfl ?_
                            refine EL.val (x_move rfl) rfl ?_
                            refine EL.valg rfl rfl (x_move rfl) rfl ?_
                            refine EL.valg rfl rfl (x_move rfl) rfl ?_
                            refine EL.skip rfl rfl rfl rfl ?_
                            refine EL.skip rfl rfl rfl rfl ?_
                            refine EL.valg rfl rfl (x_pick_t rfl rfl) rfl ?_
                            refine EL.val (x_pick_t rfl rfl) rfl ?_
                            refine EL.val (x_move rfl) rfl ?_
                            refine EL.valg rfl rfl (x_move rfl) rfl ?_
                            refine EL.val (x_pick_t rfl rfl) rfl ?_
                            refine EL.val (x_move rfl) rfl ?_
                            refine EL.valg rfl rfl (x_move rfl) rfl ?_
                            refine EL.val (x_pick_t rfl rfl) rfl ?_
                            refine EL.val (x_move rfl) rfl ?_
                            refine EL.callg rfl rfl cl_16 rfl (known_any _) ?_
                            rintro e w25 ⟨rfl, hc25⟩
                            refine ⟨_, rfl, ?_⟩
                            replace q1 := q1.below hc25 q1.lt
                            replace q2 := q2.below hc25 q2.lt
                            replace q3 := q3.below hc25 q3.lt
                            replace qa14_9 := qa14_9.below hc25 qa14_9.lt
                            replace qa15_9 := qa15_9.below hc25 qa15_9.lt
                            replace qa12_22 := qa12_22.below hc25 qa12_22.lt
                            replace qa12_23 := qa12_23.below hc25 qa12_23.lt
                            replace qa12_24 := qa12_24.below hc25 qa12_24.lt
                            replace qa12_26 := qa12_26.below hc25 qa12_26.lt
                            replace qa18_31 := qa18_31.below hc25 qa18_31.lt
                            replace RL := RL.below hc25
                            replace RM := RM.below hc25
                            replace SL_ := OwnSides.below SL_ hc25
                            replace SM_ := OwnSides.below SM_ hc25
                            replace hbw := Below.on hbw hc25 hbw.size
                            clear hc25
                            refine EL.val (x_pick_t rfl rfl) rfl ?_
                            refine EL.val (x_assign rfl) rfl ?_
                            refine EL.nil ?_
                            refine EX.seq ?_
                            refine EC.ret ?_
                            exact EX.done (res1 rfl rfl) ⟨rfl, hbw⟩
end Go.Proofs.Ytncnlhkmdljgpaa
