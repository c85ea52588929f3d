/- River: how high the bed is at a place in an hour. -/
import Derived.Test.YtfgfenmaommclaaV14
import Derived.BigQuiet
namespace Go.Proofs.Ytfgfenmaommclaa
open Go Go.RowKit Go.Shelf Go.Sort
attribute [local go_sem] Oper.semAt_some
attribute [local go_sem, local simp] wide_fn

theorem topOf_cons (hour : Int) (bottom : Bd) (l : List Shoal) : (bedsTo bottom l hour l.length).foldl Bd.top ⟨0, 0⟩ = topOf hour (Bd.top ⟨0, 0⟩ bottom) l := by
  rw [bedsTo, List.take_length, List.foldl_cons, List.foldl_map]
  rfl
theorem top_zero {b : Bd} (h : 0 ≤ b.lo) (h' : 0 ≤ b.hi) : Bd.top ⟨0, 0⟩ b = b := by
  obtain ⟨lo, hi⟩ := b
  simp only at h h'
  simp only [Bd.top, show max 0 lo = lo by omega, show max 0 hi = hi by omega]
theorem blk_kept {W W' : World} {row : Option Nat} {g : Nat} {t : TypeId} {cs : Array Value} (h : Blk W g t cs) (hg : W.grownBy W' row) (hr : ∀ r, row = some r → ∃ o : Obj, W.heap[r]? = some o ∧ o.isCells = false) : Blk W' g t cs :=
  (grownBy_keeps_cells hg hr h rfl).trans h
theorem keepsOthers_below {A B : World} (h : Below A.heap.size A B) : KeepsOthers A B := ⟨h.size, fun k _ hk _ => (h.block k (Array.getElem?_eq_some_iff.1 hk).1).trans hk⟩

set_option maxHeartbeats 1000000 in
theorem beds_any (cs : Array Value) (hcs : cs.size = 11) (hour : Int) (w : World) :
    Calls Try.prog 94 #[.agg cs, .int .i64 hour] w fun e w' => e = .returned (.func (.func 102) #[] #[.pointer (some ⟨w.heap.size, 0, none⟩), .pointer (some ⟨w.heap.size + 1, 0, none⟩)]) ∧ w' = (w.alloc (.cells cs 138)).alloc (.cells #[.int .i64 hour] 3) := by
  match cs, hcs with
  | ⟨[c0, c1, c2, c3, c4, c5, c6, c7, c8, c9, c10]⟩, _ =>
    go_enter Try.func94, Try.ntmps94
    go_wp2_with fail
    go_ret
    exact ⟨rfl, rfl⟩

theorem Kb.refl (n0 g : Nat) (W : World) : Kb n0 g W W := ⟨Nat.le_refl _, fun _ _ _ => rfl⟩
theorem Kb.trans {n0 g : Nat} {A B C : World} (h : Kb n0 g A B) (k : Kb n0 g B C) : Kb n0 g A C := ⟨Nat.le_trans h.1 k.1, fun p a b => (k.2 p a b).trans (h.2 p a b)⟩
theorem Kb.alloc {n0 g : Nat} {A B : World} (h : Kb n0 g A B) (hn : n0 ≤ A.heap.size) (o : Obj) : Kb n0 g A (B.alloc o) := ⟨by simp; have := h.1; omega, fun p a b => (World.cell?_alloc_lt B o p (by have := h.1; omega)).trans (h.2 p a b)⟩
theorem Kb.setCell {n0 g i : Nat} {A B : World} (h : Kb n0 g A B) (u : Value) : Kb n0 g A (B.setCell ⟨g, i, none⟩ u) := ⟨by simpa using h.1, fun p a b => (World.cell?_of_block (Below.heap_setCell B _ u p.block b)).trans (h.2 p a b)⟩
theorem Kb.putObj {n0 g l : Nat} (W : World) (o' : Obj) (hl : n0 ≤ l) : Kb n0 g W (W.putObj l o') := ⟨by simp [World.putObj], fun p a _ => World.cell?_of_block (World.putObj_heap_other (by omega))⟩
/-- behind so many beds -/
def BedI (g : Nat) (w W0 : World) (pre : List Bd) (W : World) : Prop :=
  Blk W g 25 #[.int .i64 (pre.foldl Bd.top ⟨0, 0⟩).lo, .int .i64 (pre.foldl Bd.top ⟨0, 0⟩).hi] ∧ Below w.heap.size w W ∧ W0.heap.size ≤ W.heap.size

set_option maxRecDepth 100000 in
set_option maxHeartbeats 8000000 in
theorem bed_any (x : Reach) (v : Value) (y : Int) (A : Option Addr) (c B : Nat) (l : List Shoal) (hour N : Int) (w : World) (hl : Rd w B 6 (.slice A l.length c) l.length (shoalsC l)) (hB : B ≤ w.heap.size) (hv : ∃ A1 n1 c1, v = .slice A1 n1 c1)
    (hs : ∀ i, i < l.length → shoalB N (l.getD i shoal0) = true) (ht : -400 ≤ hour ∧ hour ≤ 400) (hll : l.length ≤ 1048576) (hb : 0 ≤ x.bottom.lo ∧ 0 ≤ x.bottom.hi) :
    Calls Try.prog 75 #[.agg (placeV x v y (.slice A l.length c)), .int .i64 hour] w fun e w' => e = .returned (.agg #[.int .i64 (topOf hour x.bottom l).lo, .int .i64 (topOf hour x.bottom l).hi]) ∧ Below w.heap.size w w' := by
  obtain ⟨A1, n1, c1, rfl⟩ := hv
  have hres := topOf_cons hour x.bottom l
  rw [top_zero hb.1 hb.2] at hres
  obtain ⟨⟨ul, uh⟩, eT⟩ : ∃ T, T = topOf hour x.bottom l := ⟨_, rfl⟩
  rw [← eT] at hres ⊢
  show Calls _ _ _ _ fun e w' => e = .returned (.agg #[.int .i64 ul, .int .i64 uh]) ∧ _
  have Hres := Lib.hid hres
  clear eT
  have Hs := Lib.hid hs
  clear hres hs
  unfold placeV
  refine (callsIn_wide (n := 9)).1 ?_
  refine callsIn_of_wp_marks Try.func75 rfl trivial ?_ rfl
  simp only [Try.ntmps75, List.size_toArray, List.length_cons, List.length_nil, Nat.reduceAdd, Nat.reduceSub, Array.replicate_succ, Array.replicate_zero, List.push_toArray, List.append_toArray, List.nil_append, List.cons_append]
  gi_wp2_with (first | (gi_at_call 94; refine (callsIn_wide.2 (beds_any _ rfl hour _)).mono ?_; rintro e w1 ⟨rfl, rfl⟩) | (refine ⟨trivial, ?_⟩; gi_at_call 94; refine (callsIn_wide.2 (beds_any _ rfl hour _)).mono ?_; rintro e w1 ⟨rfl, rfl⟩))
  obtain ⟨W0, eW0⟩ : ∃ W, W = ((((w.alloc (.cells (placeV x (.slice A1 n1 c1) y (.slice A l.length c)) 138)).alloc (.cells #[.int .i64 0, .int .i64 0] 25)).alloc (.cells (placeV x (.slice A1 n1 c1) y (.slice A l.length c)) 138)).alloc (.cells #[.int .i64 hour] 3)) := ⟨_, rfl⟩
  have b0 : Below w.heap.size w W0 := by rw [eW0]; exact ((((Below.refl _ _).alloc (Nat.le_refl _) _).alloc (by simp) _).alloc (by simp; omega) _).alloc (by simp; omega) _
  have hs0 : W0.heap.size = w.heap.size + 4 := by rw [eW0]; simp
  have q1 : Blk W0 (w.heap.size + 1) 25 #[.int .i64 0, .int .i64 0] := by rw [eW0]; exact ((blk_new2 w _ _ _).alloc _).alloc _
  have q2 : Blk W0 (w.heap.size + 1 + 1) 138 (placeV x (.slice A1 n1 c1) y (.slice A l.length c)) := by
    rw [eW0]
    have := (blk_new2 (w.alloc (.cells (placeV x (.slice A1 n1 c1) y (.slice A l.length c)) 138)) (.cells #[.int .i64 0, .int .i64 0] 25) 138 (placeV x (.slice A1 n1 c1) y (.slice A l.length c))).alloc (.cells #[.int .i64 hour] 3)
    simpa using this
  have q3 : Blk W0 (w.heap.size + 1 + 1 + 1) 3 #[.int .i64 hour] := by
    rw [eW0]
    have := blk_new2 ((w.alloc (.cells (placeV x (.slice A1 n1 c1) y (.slice A l.length c)) 138)).alloc (.cells #[.int .i64 0, .int .i64 0] 25)) (.cells (placeV x (.slice A1 n1 c1) y (.slice A l.length c)) 138) 3 #[.int .i64 hour]
    simpa using this
  have hl0 := hl.below (b0.mono hB)
  unfold placeV at eW0
  rw [← eW0]
  clear eW0
  have hgives := beds_gives 8 (by omega) (w.heap.size + 1 + 1) (w.heap.size + 1 + 1 + 1) W0.heap.size (w.heap.size + 1) hour N x (.slice A1 n1 c1) y A c B l W0 (fun j u hu => by rw [q2.cell]; exact hu) (by rw [q3.cell]; rfl) hl0 (by omega) (by omega) ⟨by omega, by omega⟩ ⟨by omega, by omega⟩ Hs.out ht hll (Nat.le_refl _)
  refine wpIn_range_clos (F := Fence.wide) (n := 9) rfl (by omega) (gf := 102) (t := .pointer (some ⟨w.heap.size + 1 + 1, 0, none⟩)) (t2 := .pointer (some ⟨w.heap.size + 1 + 1 + 1, 0, none⟩)) rfl trivial (enters_of Try.func102 (by kernel_rfl) rfl)
    hgives (Kb.refl _ _ _) (fun W o h => h.alloc (Nat.le_refl _) o) (fun h k => h.trans k) (fun W l' o o' hle _ _ _ => Kb.putObj W o' hle) (fun _ => rfl)
    (BedI (w.heap.size + 1) w W0) ?own ⟨q1, b0, Nat.le_refl _⟩
    (fun z a W => ∃ g, W0.heap.size ≤ g ∧ a = { tmps := #[(.agg #[.int .i64 x.len, .int .i64 x.delay, .int .i64 x.base.lo, .int .i64 x.base.hi, .slice A1 n1 c1, .int .i64 x.weir, .int .i64 x.bottom.lo, .int .i64 x.bottom.hi, .int .i64 x.flood, .int .i64 y, .slice A l.length c]), .int .i64 hour, .pointer (some ⟨w.heap.size, 0, none⟩), undef, .pointer (some ⟨w.heap.size + 1, 0, none⟩), .pointer (some ⟨g, 0, none⟩), (.agg #[.int .i64 x.len, .int .i64 x.delay, .int .i64 x.base.lo, .int .i64 x.base.hi, .slice A1 n1 c1, .int .i64 x.weir, .int .i64 x.bottom.lo, .int .i64 x.bottom.hi, .int .i64 x.flood, .int .i64 y, .slice A l.length c]), .int .i64 hour, .func (.func 102) #[] #[.pointer (some ⟨w.heap.size + 1 + 1, 0, none⟩), .pointer (some ⟨w.heap.size + 1 + 1 + 1, 0, none⟩)], .agg #[.int .i64 z.lo, .int .i64 z.hi], undef, undef, undef, undef, undef, undef, undef, undef, undef, undef, undef, undef], defers := [] } ∧ Blk W g 25 #[.int .i64 z.lo, .int .i64 z.hi])
    ?ax ?assign ?body ?done
  case own =>
    rintro pre X Y row ⟨u1, hbb, hss⟩ hg hrow
    exact ⟨blk_kept u1 hg (fun r e => (hrow r e).2), hbb.grown hg hbb.size (fun k e => by have := (hrow k e).1; omega), Nat.le_trans hss hg.size⟩
  case ax =>
    rintro z a' pre X Y row ⟨g, h1, h2, u1⟩ hg hrow
    exact ⟨g, h1, h2, blk_kept u1 hg (fun r e => (hrow r e).2)⟩
  case assign =>
    rintro l' pre z W K _ ⟨u1, hbb, hss⟩ hK
    gi_wp2
    exact hK _ _ ⟨W.heap.size, hss, rfl, Blk.new W _ _⟩ (KeepsOthers.alloc _ _) ((Kb.refl _ _ W).alloc hss _) ⟨u1.alloc _, hbb.alloc hbb.size _, by simp; omega⟩
  case body =>
    rintro l' pre z a' W _ ⟨u1, hbb, hss⟩ ⟨g, hg, rfl, u2⟩
    have hst : (pre ++ [z]).foldl Bd.top ⟨0, 0⟩ = (pre.foldl Bd.top ⟨0, 0⟩).top z := by rw [List.foldl_append]; rfl
    obtain ⟨T, eT⟩ : ∃ T, T = pre.foldl Bd.top ⟨0, 0⟩ := ⟨_, rfl⟩
    rw [← eT] at u1 hst
    have Hst := Lib.hid hst
    clear hst eT
    obtain ⟨tl, th⟩ := T
    obtain ⟨zl, zh⟩ := z
    simp only at u1 u2
    have m1 : (if tl < zl then zl else tl) = max tl zl := by omega
    have m2 : (if th < zh then zh else th) = max th zh := by omega
    obtain ⟨M1, e1⟩ : ∃ M, M = max tl zl := ⟨_, rfl⟩
    obtain ⟨M2, e2⟩ : ∃ M, M = max th zh := ⟨_, rfl⟩
    rw [← e1] at m1
    rw [← e2] at m2
    have E1 := Lib.hid e1
    have E2 := Lib.hid e2
    clear e1 e2
    have y0 := u1.cell 0
    have y1 := u1.cell 1
    have y2 := u2.cell 0
    have y3 := u2.cell 1
    have y4 := u1.frozen 0
    have y5 := u1.frozen 1
    have hl1 := u1.lt
    have hl2 := u2.lt
    simp only [List.getElem?_toArray, List.getElem?_cons_zero, List.getElem?_cons_succ] at y0 y1 y2 y3
    gi_wp2
    refine ⟨(KeepsOthers.setCell _ _ _).trans (KeepsOthers.setCell _ _ _), ((Kb.refl _ _ W).setCell _).setCell _, ?_⟩
    rw [BedI, Hst.out]
    simp only [Bd.top]
    rw [← E1.out, ← E2.out]
    exact ⟨(u1.set_ 0 _).set_ 1 _, (hbb.setCell (p := ⟨w.heap.size + 1, 0, none⟩) (by show w.heap.size ≤ w.heap.size + 1; omega) _).setCell (p := ⟨w.heap.size + 1, 1, none⟩) (by show w.heap.size ≤ w.heap.size + 1; omega) _, by simp; omega⟩
  case done =>
    rintro D xs W hD rfl ⟨u1, hbb, hss⟩ hK
    rw [Hres.out] at u1
    simp only at u1
    have y0 := u1.cell 0
    have y1 := u1.cell 1
    have y4 := u1.frozen 0
    have y5 := u1.frozen 1
    have hl1 := u1.lt
    simp only [List.getElem?_toArray, List.getElem?_cons_zero, List.getElem?_cons_succ] at y0 y1
    have hDD : D ≠ w.heap.size + 1 := by omega
    gi_wp2
    have x2 := (u1.set_ 0 (.int .i64 ul)).set_ 1 (.int .i64 uh)
    have hb4 : Below w.heap.size w ((W.setCell ⟨w.heap.size + 1, 0, none⟩ (.int .i64 ul)).setCell ⟨w.heap.size + 1, 1, none⟩ (.int .i64 uh)) := (hbb.setCell (p := ⟨w.heap.size + 1, 0, none⟩) (by show w.heap.size ≤ w.heap.size + 1; omega) _).setCell (p := ⟨w.heap.size + 1, 1, none⟩) (by show w.heap.size ≤ w.heap.size + 1; omega) _
    have hK4 : ((W.setCell ⟨w.heap.size + 1, 0, none⟩ (.int .i64 ul)).setCell ⟨w.heap.size + 1, 1, none⟩ (.int .i64 uh)).heap[D]? = some (.deferred (some [])) := (Below.heap_setCell _ _ _ _ hDD).trans ((Below.heap_setCell _ _ _ _ hDD).trans hK)
    obtain ⟨W4, eW4⟩ : ∃ W4, W4 = (W.setCell ⟨w.heap.size + 1, 0, none⟩ (.int .i64 ul)).setCell ⟨w.heap.size + 1, 1, none⟩ (.int .i64 uh) := ⟨_, rfl⟩
    rw [← eW4] at x2 hb4 hK4 ⊢
    clear eW4
    have x3 := x2.grown (grownBy_putObj' W4 D (.deferred none)) (by simp; omega)
    have z0 := x3.cell 0
    have z1 := x3.cell 1
    simp at z0 z1
    refine ⟨by simp, .inl ⟨_, _, rfl, run_takeDeferred hK4, ?_⟩⟩
    refine ⟨.agg #[.int .i64 ul, .int .i64 uh], ?_, rfl, ?_⟩
    · simp [results, Try.results75, go_sem, z0, z1]
    · exact hb4.grown (grownBy_putObj' W4 D (.deferred none)) hb4.size (fun k e => by simp at e; omega)
end Go.Proofs.Ytfgfenmaommclaa
