/- The program's Missing. -/
import Derived.Test.YtkbfdgacnoadlaaSpans
import Derived.Test.YtkbfdgacnoadlaaA16
import Derived.Test.YtkbfdgacnoadlaaRound
import Derived.BigQuiet
namespace Go.Proofs.Ytkbfdgacnoadlaa
open Go Go.RowKit Go.Shelf
attribute [local go_sem] Oper.semAt_some

def missErr (l : List Sd) (b : List Bk) (r : Int) : Int :=
  if tankErr l b = 0 then (if inB 0 10000000 r = false then 3 else if (missTo l b r l.length).2.2 = 0 then 7 else 0) else tankErr l b
def missSpec (l : List Sd) (b : List Bk) (r : Int) : Int × Int × Int := if missErr l b r = 0 then missTo l b r l.length else (0, 0, 0)

/-- what lay in cells lies there still, but for three blocks -/
def SameBut (x y z : Nat) (W W' : World) : Prop := ∀ (p : Addr) (v : Value), p.block ≠ x → p.block ≠ y → p.block ≠ z → W.cell? p = some v → W'.cell? p = some v
theorem SameBut.trans {x y z : Nat} {A B C : World} (h : SameBut x y z A B) (k : SameBut x y z B C) : SameBut x y z A C := fun p v a b c e => k p v a b c (h p v a b c e)
theorem SameBut.of_below {x y z : Nat} {A B : World} (h : Below A.heap.size A B) : SameBut x y z A B := fun _ _ _ _ _ e => (h.cell (block_lt_of_cell e)).trans e
theorem cell_far {W : World} {p q : Addr} {u v : Value} (hq : q.block ≠ p.block) (h : W.cell? q = some v) : (W.setCell p u).cell? q = some v :=
  (World.cell?_of_block (Below.heap_setCell W p u q.block hq)).trans h
theorem blk_kept {W W' : World} {row : Option Nat} {g : Nat} {t : TypeId} {cs : Array Value} (h : Blk W g t cs) (hg : W.grownBy W' row) (hr : ∀ r, row = some r → ∃ o : Obj, W.heap[r]? = some o ∧ o.isCells = false) : Blk W' g t cs :=
  (grownBy_keeps_cells hg hr h rfl).trans h
theorem keepsOthers_below {A B : World} (h : Below A.heap.size A B) : KeepsOthers A B := ⟨h.size, fun k _ hk _ => (h.block k (Array.getElem?_eq_some_iff.1 hk).1).trans hk⟩

/-- behind so many pairs -/
def MissI (s2 s3 s4 : Nat) (w w2 : World) (l : List Sd) (b : List Bk) (r : Int) (pre : List (Nat × Nat)) (W : World) : Prop :=
  (∃ s : Int × Int × Int, s = missFold l b r pre ∧ Blk W s2 3 #[.int .i64 s.1] ∧ Blk W s3 3 #[.int .i64 s.2.1] ∧ Blk W s4 3 #[.int .i64 s.2.2]) ∧ SameBut s2 s3 s4 w2 W ∧ Below w.heap.size w W ∧ w2.heap.size ≤ W.heap.size

set_option maxRecDepth 100000 in
set_option maxHeartbeats 4000000 in
theorem missing_any (l : List Sd) (b : List Bk) (r : Int) (vs vb : Value) (w : World) (B C : Nat) (hr : Rd w B 3 vs l.length (sdsV l)) (hB : B ≤ w.heap.size) (hs : Rd w C 2 vb b.length (bksV b)) (hC : C ≤ w.heap.size)
    (hl : l.length ≤ 1048576) (hbl : b.length ≤ 1048576) : Calls Try.prog 29 #[vs, vb, .int .i64 r] w fun e w' =>
      e = .returned (.tuple #[.int .i64 (missSpec l b r).1, .int .i64 (missSpec l b r).2.1, .int .i64 (missSpec l b r).2.2, .int .i64 (missErr l b r)]) ∧ Below w.heap.size w w' := by
  obtain ⟨A, c, rfl, hnc⟩ := hr.shape
  obtain ⟨A', c', rfl, hnc'⟩ := hs.shape
  refine (callsIn_wide (n := 9)).1 ?_
  refine callsIn_of_wp_marks Try.func29 rfl trivial ?_ rfl
  simp only [Try.ntmps29, List.size_toArray, List.length_cons, List.length_nil, Nat.reduceAdd, Nat.reduceSub, Array.replicate_succ, Array.replicate_zero, List.push_toArray, List.append_toArray, List.nil_append, List.cons_append]
  gi_wp2
  refine ⟨trivial, ?_⟩
  obtain ⟨W0, eW0⟩ : ∃ W0, W0 = ((((w.alloc (.cells #[.slice A l.length c] 66)).alloc (.cells #[.int .i64 r] 3)).alloc (.cells #[.int .i64 0] 3)).alloc (.cells #[.int .i64 0] 3)).alloc (.cells #[.int .i64 0] 3) := ⟨_, rfl⟩
  have hb0 : Below w.heap.size w W0 := by rw [eW0]; exact (((((Below.refl _ _).alloc (Nat.le_refl _) _).alloc (by simp) _).alloc (by simp; omega) _).alloc (by simp; omega) _).alloc (by simp; omega) _
  have hs0 : W0.heap.size = w.heap.size + 5 := by rw [eW0]; simp
  have hr0 := hr.below (hb0.mono hB)
  have hs00 := hs.below (hb0.mono hC)
  have q0 : Blk W0 w.heap.size 66 #[.slice A l.length c] := by rw [eW0]; exact ((((Blk.new w 66 #[.slice A l.length c]).alloc _).alloc _).alloc _).alloc _
  have q1 : Blk W0 (w.heap.size + 1) 3 #[.int .i64 r] := by rw [eW0]; exact (((by simpa using Blk.new (w.alloc (.cells #[.slice A l.length c] 66)) 3 #[.int .i64 r] : Blk _ (w.heap.size + 1) _ _).alloc _).alloc _).alloc _
  have q2 : Blk W0 (w.heap.size + 2) 3 #[.int .i64 0] := by rw [eW0]; exact ((by simpa using Blk.new ((w.alloc (.cells #[.slice A l.length c] 66)).alloc (.cells #[.int .i64 r] 3)) 3 #[.int .i64 0] : Blk _ (w.heap.size + 2) _ _).alloc _).alloc _
  have q3 : Blk W0 (w.heap.size + 3) 3 #[.int .i64 0] := by rw [eW0]; exact (by simpa using Blk.new (((w.alloc (.cells #[.slice A l.length c] 66)).alloc (.cells #[.int .i64 r] 3)).alloc (.cells #[.int .i64 0] 3)) 3 #[.int .i64 0] : Blk _ (w.heap.size + 3) _ _).alloc _
  have q4 : Blk W0 (w.heap.size + 4) 3 #[.int .i64 0] := by rw [eW0]; simpa using Blk.new ((((w.alloc (.cells #[.slice A l.length c] 66)).alloc (.cells #[.int .i64 r] 3)).alloc (.cells #[.int .i64 0] 3)).alloc (.cells #[.int .i64 0] 3)) 3 #[.int .i64 0]
  rw [← eW0]
  clear eW0
  obtain ⟨s4, e4⟩ : ∃ x, x = w.heap.size + 1 + 1 + 1 + 1 := ⟨_, rfl⟩
  obtain ⟨s3, e3⟩ : ∃ x, x = w.heap.size + 1 + 1 + 1 := ⟨_, rfl⟩
  obtain ⟨s2, e2⟩ : ∃ x, x = w.heap.size + 1 + 1 := ⟨_, rfl⟩
  obtain ⟨s1, e1⟩ : ∃ x, x = w.heap.size + 1 := ⟨_, rfl⟩
  obtain ⟨s0, e0⟩ : ∃ x, x = w.heap.size := ⟨_, rfl⟩
  rw [← e4, ← e3, ← e2, ← e1]
  rw [← e1] at q1
  rw [show w.heap.size + 4 = s4 by omega] at q4
  rw [show w.heap.size + 3 = s3 by omega] at q3
  rw [show w.heap.size + 2 = s2 by omega] at q2
  have n23 : s2 ≠ s3 := by omega
  have n24 : s2 ≠ s4 := by omega
  have n34 : s3 ≠ s4 := by omega
  have n32 : s3 ≠ s2 := by omega
  have n42 : s4 ≠ s2 := by omega
  have n43 : s4 ≠ s3 := by omega
  have l2 : w.heap.size ≤ s2 := by omega
  have l3 : w.heap.size ≤ s3 := by omega
  have l4 : w.heap.size ≤ s4 := by omega
  have hs04 : s4 < W0.heap.size ∧ s3 < W0.heap.size ∧ s2 < W0.heap.size ∧ s1 < W0.heap.size := by omega
  have n12 : s1 ≠ s2 ∧ s1 ≠ s3 ∧ s1 ≠ s4 := by omega
  have n02 : w.heap.size ≠ s2 ∧ w.heap.size ≠ s3 ∧ w.heap.size ≠ s4 := by omega
  clear e0 e1 e2 e3 e4
  refine (callsIn_wide.2 (open_any l b _ _ W0 B C hr0 (by omega) hs00 (by omega) hl hbl)).mono ?_
  rintro e w1 ⟨ho, hb1⟩
  have p2 := q2.below hb1 q2.lt
  have p3 := q3.below hb1 q3.lt
  have p4 := q4.below hb1 q4.lt
  have p0 := q0.below hb1 q0.lt
  have p1 := q1.below hb1 q1.lt
  have t0 := p0.lt
  have t1 := p1.lt
  have z0 := p0.cell 0
  have z1 := p1.cell 0
  have t2 := p2.lt
  have t3 := p3.lt
  have t4 := p4.lt
  have z2 := p2.cell 0
  have z3 := p3.cell 0
  have z4 := p4.cell 0
  have f2 := p2.frozen 0
  have f3 := p3.frozen 0
  have f4 := p4.frozen 0
  simp only [List.getElem?_toArray, List.getElem?_cons_zero] at z0 z1 z2 z3 z4
  clear q2 q3 q4
  rcases ho with ⟨hne, rfl⟩ | ⟨h0, g, v, rfl, hqt, hgl, hot⟩
  · have hne' : (tankErr l b != 0) = true := by simpa using hne
    have hes : missErr l b r = tankErr l b := by rw [missErr, if_neg hne]
    have hse : missSpec l b r = (0, 0, 0) := by rw [missSpec, if_neg (by rw [hes]; exact hne)]
    have x2 := (((((p2.set_ 0 (.int .i64 0)).far (p := ⟨s3, 0, none⟩) n23 (.int .i64 0)).far (p := ⟨s4, 0, none⟩) n24 (.int .i64 0)).alloc (.cells #[.pointer none] 111))).cell 0
    have x3 := (((((p3.far (p := ⟨s2, 0, none⟩) n32 (.int .i64 0)).set_ 0 (.int .i64 0)).far (p := ⟨s4, 0, none⟩) n34 (.int .i64 0)).alloc (.cells #[.pointer none] 111))).cell 0
    have x4 := (((((p4.far (p := ⟨s2, 0, none⟩) n42 (.int .i64 0)).far (p := ⟨s3, 0, none⟩) n43 (.int .i64 0)).set_ 0 (.int .i64 0)).alloc (.cells #[.pointer none] 111))).cell 0
    simp at x2 x3 x4
    gi_wp2
    rw [hes, hse]
    refine ⟨.tuple #[.int .i64 0, .int .i64 0, .int .i64 0, .int .i64 (tankErr l b)], ?_, rfl, ?_⟩
    · simp [results, Try.results29, go_sem, x2, x3, x4]
    · have hw1 : Below w.heap.size w w1 := hb0.trans (hb1.mono hb0.size)
      exact (((hw1.setCell (p := ⟨s2, 0, none⟩) l2 _).setCell (p := ⟨s3, 0, none⟩) l3 _).setCell (p := ⟨s4, 0, none⟩) l4 _).alloc (by simp; have := hw1.size; omega) _
  · have hne' : (tankErr l b != 0) = false := by simpa using h0
    gi_wp2
    refine ⟨trivial, ?_⟩
    have qb0 := Blk.new w1 111 #[.pointer (some ⟨g, 0, none⟩)]
    refine (callsIn_wide.2 (within_one r 0 10000000 (w1.alloc (.cells #[.pointer (some ⟨g, 0, none⟩)] 111)) _ (by simp))).mono ?_
    rintro e w2 ⟨rfl, hb2⟩
    have h12 : Below w1.heap.size w1 w2 := ((Below.refl _ w1).alloc (Nat.le_refl _) _).trans (hb2.mono (by simp))
    have hw1 : Below w.heap.size w w1 := hb0.trans (hb1.mono hb0.size)
    have hw2 : Below w.heap.size w w2 := hw1.trans (h12.mono hw1.size)
    have qb := qb0.below hb2 qb0.lt
    have hqt2 := hqt.below h12 hqt.lt
    replace p0 := p0.below h12 t0
    replace p1 := p1.below h12 t1
    replace p2 := p2.below h12 t2
    replace p3 := p3.below h12 t3
    replace p4 := p4.below h12 t4
    clear z0 z1 z2 z3 z4 f2 f3 f4 qb0 hb2
    have z0 := p0.cell 0
    have z1 := p1.cell 0
    have z2 := p2.cell 0
    have z3 := p3.cell 0
    have z4 := p4.cell 0
    have zb := qb.cell 0
    have f2 := p2.frozen 0
    have f3 := p3.frozen 0
    have f4 := p4.frozen 0
    simp only [List.getElem?_toArray, List.getElem?_cons_zero] at z0 z1 z2 z3 z4 zb
    rcases Bool.eq_false_or_eq_true (inB 0 10000000 r) with g1 | g1
    · rw [g1]
      gi_wp2
      have hn01 : s1 ≠ s2 := n12.1
      obtain ⟨W2, eW2⟩ : ∃ W2, W2 = w2 := ⟨_, rfl⟩
      have hcg : w2.cell? ⟨g, 0, none⟩ = some (.slice A l.length c) := by
        have := hqt2.cell 0
        simpa using this
      have hl100 := (tank_ok h0).1
      have hgs : W0.heap.size ≤ g := hgl
      have hg2 : g ≠ s2 ∧ g ≠ s3 ∧ g ≠ s4 := by omega
      have hsz1 : W0.heap.size ≤ w1.heap.size := hb1.size
      have hbx : w1.heap.size ≠ s2 ∧ w1.heap.size ≠ s3 ∧ w1.heap.size ≠ s4 := by omega
      have hot2 := own_below hot h12 (Nat.le_refl _)
      have hr2 := hr.below (hw2.mono hB)
      obtain ⟨_, hb100, hlpos, hbo, hso⟩ := tank_ok h0
      have hv0 : w2.cell? ⟨g, 1, none⟩ = some v := by simpa using hqt2.cell 1
      have hszw2 := hw2.size
      have hsz2 := h12.size
      refine wpIn_range_method (F := Fence.wide) (n := 9) rfl (by omega) (gf := 54) (t := .pointer (some ⟨g, 0, none⟩)) rfl trivial (enters_of Try.func54 (by kernel_rfl) rfl)
        (spans_gives Fence.wide 8 trivial rfl (by omega) g l.length c A hl100 w2 hcg) (fun v h => h)
        (fun W o h v hv => cell_kept (h v hv) (World.grownBy_alloc W o none) (fun r e => by cases e)) (fun h k v hv => k v (h v hv))
        (fun W l o o' _ ho hc _ v hv => cell_kept hv (grownBy_putObj' W l o') (fun r e => by cases e; exact ⟨o, ho, hc⟩)) (fun _ => rfl)
        (MissI s2 s3 s4 w w2 l b r)
        ?own ⟨⟨(0, 0, 0), rfl, p2, p3, p4⟩, fun p v _ _ _ h => h, hw2, Nat.le_refl _⟩ ?a₁ ?assign ?body ?done
      case own =>
        rintro pre X Y row ⟨⟨s, hs, u2, u3, u4⟩, hsb, hbb, hss⟩ hg hrow
        have hrow' : ∀ r, row = some r → ∃ o : Obj, X.heap[r]? = some o ∧ o.isCells = false := fun r e => (hrow r e).2
        exact ⟨⟨s, hs, blk_kept u2 hg hrow', blk_kept u3 hg hrow', blk_kept u4 hg hrow'⟩, fun p v a b c e => cell_kept (hsb p v a b c e) hg hrow', hbb.grown hg hbb.size (fun k e => by have := (hrow k e).1; omega), Nat.le_trans hss hg.size⟩
      case assign =>
        intro l x W K hK
        gi_wp2
        exact hK
      case body =>
        rintro ll pre ⟨i, j⟩ W ⟨hij, hj⟩ ⟨⟨s, hs, u2, u3, u4⟩, hsb, hbb, hss⟩
        simp only at hij hj
        have hi : i < l.length := by omega
        have i0 : (0 : Int) ≤ (i : Int) := Int.natCast_nonneg _
        have j0 : (0 : Int) ≤ (j : Int) := Int.natCast_nonneg _
        have i1 : (i : Int) < (l.length : Int) := by omega
        have j1 : (j : Int) < (l.length : Int) := by omega
        have hstep := missFold_snoc l b r pre (i, j)
        rw [← hs] at hstep
        rw [missStep, missN] at hstep
        have hmm := m_mono hso i j (by omega) hj
        have gb := gone_bd h0 hi hj
        have ei : l.getD i sd0 = l[i] := by simp [hi]
        have ej : l.getD j sd0 = l[j] := by simp [hj]
        have qi := sd_bd (hso i hi)
        have qj := sd_bd (hso j hj)
        have pi : -1 ≤ prevM l i := by
          rcases Nat.eq_zero_or_pos i with h | h
          · rw [h]; exact Int.le_refl _
          · obtain ⟨q, rfl⟩ : ∃ q, i = q + 1 := ⟨i - 1, by omega⟩
            rw [prevM_succ l (by omega)]
            have h1 := m_mono hso 0 q (by omega) (by omega)
            have h2 := (sd_bd (hso 0 (by omega))).1
            have e1 : l.getD 0 sd0 = l[0] := by simp [(by omega : 0 < l.length)]
            have e2 : l.getD q sd0 = l[q] := by simp [(by omega : q < l.length)]
            rw [e1, e2] at h1
            have : prevM l 0 = -1 := rfl
            omega
        have hti := takenAt_bd hbo (l.getD i sd0).m
        have htj := takenAt_bd hbo (l.getD j sd0).m
        rw [← ei] at qi
        rw [← ej] at qj
        clear ei ej
        have hr01 : 0 ≤ r ∧ r ≤ 10000000 := by simpa [inB] using g1
        have eg : (goneL l b i j).1 = (l.getD i sd0).lo + (takenAt b (l.getD j sd0).m - takenAt b (l.getD i sd0).m) - (l.getD j sd0).hi := rfl
        obtain ⟨bb, off, rfl, hbB, hc⟩ := sds_all hr2 hlpos
        have hbs : bb ≠ s2 ∧ bb ≠ s3 ∧ bb ≠ s4 := by omega
        obtain ⟨ci0, ci1, ci2⟩ := hc i hi
        obtain ⟨cj0, cj1, cj2⟩ := hc j hj
        clear hc
        obtain ⟨hta1, hta2⟩ := taken_at (b := b) hi
        obtain ⟨htd1, htd2⟩ := taken_at (b := b) hj
        obtain ⟨gv, capv, rfl, gv1, gv2, e8, cta⟩ := own_elem hot2 hta1
        obtain ⟨gv', capv', e2, e6, e7, e9, ctd⟩ := own_elem hot2 htd1
        clear e8 e9
        injection e2 with e2 e3 e4
        injection e2 with e2
        injection e2 with e2 e5
        subst e2
        clear e3 e4 e5
        rw [hta2] at cta
        rw [htd2] at ctd
        have hgv : gv ≠ s2 ∧ gv ≠ s3 ∧ gv ≠ s4 := by omega
        replace ci0 := hsb _ _ hbs.1 hbs.2.1 hbs.2.2 ci0
        replace ci1 := hsb _ _ hbs.1 hbs.2.1 hbs.2.2 ci1
        replace ci2 := hsb _ _ hbs.1 hbs.2.1 hbs.2.2 ci2
        replace cj0 := hsb _ _ hbs.1 hbs.2.1 hbs.2.2 cj0
        replace cj1 := hsb _ _ hbs.1 hbs.2.1 hbs.2.2 cj1
        replace cj2 := hsb _ _ hbs.1 hbs.2.1 hbs.2.2 cj2
        replace cta := hsb _ _ hgv.1 hgv.2.1 hgv.2.2 cta
        replace ctd := hsb _ _ hgv.1 hgv.2.1 hgv.2.2 ctd
        have G0 := hsb _ _ hg2.1 hg2.2.1 hg2.2.2 hcg
        have G1 := hsb _ _ hg2.1 hg2.2.1 hg2.2.2 hv0
        have Z0 := hsb _ _ n02.1 n02.2.1 n02.2.2 z0
        have Z1 := hsb _ _ n12.1 n12.2.1 n12.2.2 z1
        have ZB := hsb _ _ hbx.1 hbx.2.1 hbx.2.2 zb
        obtain ⟨mi, emi⟩ : ∃ m, m = (l.getD i sd0).m := ⟨_, rfl⟩
        obtain ⟨mj, emj⟩ : ∃ m, m = (l.getD j sd0).m := ⟨_, rfl⟩
        obtain ⟨ilo, eil⟩ : ∃ m, m = (l.getD i sd0).lo := ⟨_, rfl⟩
        obtain ⟨ihi, eih⟩ : ∃ m, m = (l.getD i sd0).hi := ⟨_, rfl⟩
        obtain ⟨jlo, ejl⟩ : ∃ m, m = (l.getD j sd0).lo := ⟨_, rfl⟩
        obtain ⟨jhi, ejh⟩ : ∃ m, m = (l.getD j sd0).hi := ⟨_, rfl⟩
        rw [← emi] at ci0 hmm qi hstep hti eg cta
        rw [← emj] at cj0 hmm qj hstep htj eg ctd
        rw [← eil] at ci1 qi eg
        rw [← eih] at ci2 qi
        rw [← ejl] at cj1 qj
        rw [← ejh] at cj2 qj eg
        obtain ⟨ti, eti⟩ : ∃ m, m = takenAt b mi := ⟨_, rfl⟩
        obtain ⟨tj, etj⟩ : ∃ m, m = takenAt b mj := ⟨_, rfl⟩
        rw [← eti] at hti eg cta
        rw [← etj] at htj eg ctd
        have hd : 0 ≤ mj - mi ∧ mj - mi ≤ 1000000 := by omega
        have hp := prod_bd hr01 hd
        have hbu := burnt_bd hr01 hd
        have w1' : IntKind.i64.wrap (mj - mi) = mj - mi := IntWalk.i64_in _ ⟨by omega, by omega⟩
        have w2' : IntKind.i64.wrap (r * (mj - mi)) = r * (mj - mi) := IntWalk.i64_in _ ⟨by omega, by omega⟩
        have w3' : IntKind.i64.wrap (r * (mj - mi) + 60) = r * (mj - mi) + 60 := IntWalk.i64_in _ ⟨by omega, by omega⟩
        have w4' : IntKind.i64.wrap (r * (mj - mi) + 60 - 1) = r * (mj - mi) + 60 - 1 := IntWalk.i64_in _ ⟨by omega, by omega⟩
        have ebu : burnt r mi mj = (r * (mj - mi) + 60 - 1).tdiv 60 := by rw [show r * (mj - mi) + 60 - 1 = r * (mj - mi) + 59 by omega]; rfl
        rw [ebu] at hbu hstep
        clear emi emj eil eih ejl ejh eti etj hta1 hta2 htd1 htd2
        have w5' : IntKind.i64.wrap ((r * (mj - mi) + 60 - 1).tdiv 60) = (r * (mj - mi) + 60 - 1).tdiv 60 := IntWalk.i64_in _ ⟨by omega, by omega⟩
        gi_wp2
        refine region_quiet_round ?_ (by kernel_rfl) (by kernel_rfl) (by kernel_rfl) ?_
        · rintro ⟨_, _, h⟩
          exact absurd h.1 (by simp)
        repeat (go_big_quiet_step (fail))
        refine wpQuiet_nil ?_
        intro _ hw'
        obtain ⟨nq, hw''⟩ := hw'
        subst hw''
        gi_wp2
        refine ⟨trivial, ?_⟩
        have hss' : w2.heap.size ≤ (W.drewN nq).heap.size := hss
        refine (CallsIn.inRound ll (callsIn_wide.2 (gone_any g l.length bb off c gv 0 capv i j ilo ihi jlo jhi ti tj (W.drewN nq) (by have := hqt2.lt; omega) (by omega) (by omega) G0 G1 ci1 ci2 cj1 cj2 (by simpa using cta) (by simpa using ctd) hi hj qi.2.2.1 qi.2.2.2.1 qj.2.2.1 qj.2.2.2.1 (by omega) (by omega)))).mono ?_
        rintro e w3 ⟨rfl, hb3⟩
        have hbW : Below W.heap.size W w3 := (below_drewN (Below.refl _ W) nq).trans hb3
        obtain ⟨G, eG⟩ : ∃ G, G = ilo + (tj - ti) - jhi := ⟨_, rfl⟩
        rw [← eG] at eg ⊢
        rw [eg] at gb hstep
        clear eg
        obtain ⟨dd, eD⟩ : ∃ D, D = (r * (mj - mi) + 60 - 1).tdiv 60 := ⟨_, rfl⟩
        rw [← eD] at hbu hstep w5'
        rw [← eD]
        clear eG eD
        have hfl := field_low G (ihi + (tj - ti) - jlo) w3
        have w6' : IntKind.i64.wrap (G - dd) = G - dd := IntWalk.i64_in _ ⟨by omega, by omega⟩
        replace u2 := u2.below hbW u2.lt
        replace u3 := u3.below hbW u3.lt
        replace u4 := u4.below hbW u4.lt
        have c4 := u4.cell 0
        have e2 := u2.frozen 0
        have e3 := u3.frozen 0
        have e4 := u4.frozen 0
        have c2 := u2.cell 0
        have c3 := u3.cell 0
        simp only [List.getElem?_toArray, List.getElem?_cons_zero] at c2 c3 c4
        have hsb3 : SameBut s2 s3 s4 w2 w3 := hsb.trans (.of_below hbW)
        have hbb3 : Below w.heap.size w w3 := hbb.trans (hbW.mono hbb.size)
        have hss3 : w2.heap.size ≤ w3.heap.size := Nat.le_trans hss hbW.size
        obtain ⟨x, y, z⟩ := s
        simp only at hstep c2 c3 c4 u2 u3 u4
        by_cases hz : z < G - dd
        · have hz' : decide (z < G - dd) = true := decide_eq_true hz
          rw [if_pos hz] at hstep
          gi_wp2
          have k2 : Blk (((w3.setCell ⟨s2, 0, none⟩ (.int .i64 (i : Int))).setCell ⟨s3, 0, none⟩ (.int .i64 (j : Int))).setCell ⟨s4, 0, none⟩ (.int .i64 (G - dd))) s2 3 #[.int .i64 i] := (((u2.set_ 0 _).far (p := ⟨s3, 0, none⟩) n23 _).far (p := ⟨s4, 0, none⟩) n24 _)
          have k3 : Blk (((w3.setCell ⟨s2, 0, none⟩ (.int .i64 (i : Int))).setCell ⟨s3, 0, none⟩ (.int .i64 (j : Int))).setCell ⟨s4, 0, none⟩ (.int .i64 (G - dd))) s3 3 #[.int .i64 j] := (((u3.far (p := ⟨s2, 0, none⟩) n32 _).set_ 0 _).far (p := ⟨s4, 0, none⟩) n34 _)
          have k4 : Blk (((w3.setCell ⟨s2, 0, none⟩ (.int .i64 (i : Int))).setCell ⟨s3, 0, none⟩ (.int .i64 (j : Int))).setCell ⟨s4, 0, none⟩ (.int .i64 (G - dd))) s4 3 #[.int .i64 (G - dd)] := (((u4.far (p := ⟨s2, 0, none⟩) n42 _).far (p := ⟨s3, 0, none⟩) n43 _).set_ 0 _)
          have hst : SameBut s2 s3 s4 w3 (((w3.setCell ⟨s2, 0, none⟩ (.int .i64 (i : Int))).setCell ⟨s3, 0, none⟩ (.int .i64 (j : Int))).setCell ⟨s4, 0, none⟩ (.int .i64 (G - dd))) := fun p v a b c h => cell_far c (cell_far b (cell_far a h))
          exact ⟨(((keepsOthers_below hbW).trans (.setCell _ _ _)).trans (.setCell _ _ _)).trans (.setCell _ _ _), fun v hv => hst _ _ hg2.1 hg2.2.1 hg2.2.2 ((hbW.cell (block_lt_of_cell hv)).trans hv),
            ⟨(i, j, G - dd), hstep.symm, k2, k3, k4⟩, hsb3.trans hst, ((hbb3.setCell (p := ⟨s2, 0, none⟩) l2 _).setCell (p := ⟨s3, 0, none⟩) l3 _).setCell (p := ⟨s4, 0, none⟩) l4 _, by simpa using hss3⟩
        · have hz' : decide (z < G - dd) = false := decide_eq_false hz
          rw [if_neg hz] at hstep
          gi_wp2
          exact ⟨keepsOthers_below hbW, fun v hv => (hbW.cell (block_lt_of_cell hv)).trans hv, ⟨(x, y, z), hstep.symm, u2, u3, u4⟩, hsb3, hbb3, hss3⟩
      case done =>
        rintro D xs W hD rfl ⟨⟨s, hs, u2, u3, u4⟩, hsb, hbb, hss⟩ hK
        have hs' : s = missTo l b r l.length := hs.trans (missTo_fold l b r l.length).symm
        have k4 := u4.cell 0
        have k3 := u3.cell 0
        have k2 := u2.cell 0
        simp only [List.getElem?_toArray, List.getElem?_cons_zero] at k2 k3 k4
        have y2 := u2.frozen 0
        have y3 := u3.frozen 0
        have y4 := u4.frozen 0
        obtain ⟨x, y, z⟩ := s
        simp only at k2 k3 k4 u2 u3 u4
        clear z0 z1 z2 z3 z4 f2 f3 f4 hs
        have hD2 : D ≠ s2 ∧ D ≠ s3 ∧ D ≠ s4 := by omega
        by_cases hz : z = 0
        · have hz' : (z == 0) = true := by simpa using hz
          have hes : missErr l b r = 7 := by rw [missErr, if_pos h0, if_neg (by rw [g1]; simp), ← hs', if_pos hz]
          have hse : missSpec l b r = (0, 0, 0) := by rw [missSpec, if_neg (by rw [hes]; omega)]
          gi_wp2
          have x2 := (((u2.set_ 0 (.int .i64 0)).far (p := ⟨s3, 0, none⟩) n23 (.int .i64 0)).far (p := ⟨s4, 0, none⟩) n24 (.int .i64 0))
          have x3 := (((u3.far (p := ⟨s2, 0, none⟩) n32 (.int .i64 0)).set_ 0 (.int .i64 0)).far (p := ⟨s4, 0, none⟩) n34 (.int .i64 0))
          have x4 := (((u4.far (p := ⟨s2, 0, none⟩) n42 (.int .i64 0)).far (p := ⟨s3, 0, none⟩) n43 (.int .i64 0)).set_ 0 (.int .i64 0))
          have hb4 : Below w.heap.size w (((W.setCell ⟨s2, 0, none⟩ (.int .i64 0)).setCell ⟨s3, 0, none⟩ (.int .i64 0)).setCell ⟨s4, 0, none⟩ (.int .i64 0)) := ((hbb.setCell (p := ⟨s2, 0, none⟩) l2 _).setCell (p := ⟨s3, 0, none⟩) l3 _).setCell (p := ⟨s4, 0, none⟩) l4 _
          have hK4 : (((W.setCell ⟨s2, 0, none⟩ (.int .i64 0)).setCell ⟨s3, 0, none⟩ (.int .i64 0)).setCell ⟨s4, 0, none⟩ (.int .i64 0)).heap[D]? = some (.deferred (some [])) := (Below.heap_setCell _ _ _ _ hD2.2.2).trans ((Below.heap_setCell _ _ _ _ hD2.2.1).trans ((Below.heap_setCell _ _ _ _ hD2.1).trans hK))
          obtain ⟨W4, eW4⟩ : ∃ W4, W4 = (((W.setCell ⟨s2, 0, none⟩ (.int .i64 0)).setCell ⟨s3, 0, none⟩ (.int .i64 0)).setCell ⟨s4, 0, none⟩ (.int .i64 0)) := ⟨_, rfl⟩
          rw [← eW4] at x2 x3 x4 hb4 hK4 ⊢
          clear eW4
          replace x2 := (x2.grown (grownBy_putObj' W4 D (.deferred none)) (by simp; omega)).cell 0
          replace x3 := (x3.grown (grownBy_putObj' W4 D (.deferred none)) (by simp; omega)).cell 0
          replace x4 := (x4.grown (grownBy_putObj' W4 D (.deferred none)) (by simp; omega)).cell 0
          simp at x2 x3 x4
          refine ⟨by simp, .inl ⟨_, _, rfl, run_takeDeferred hK4, ?_⟩⟩
          rw [hes, hse]
          refine ⟨.tuple #[.int .i64 0, .int .i64 0, .int .i64 0, .int .i64 7], ?_, rfl, ?_⟩
          · simp [results, Try.results29, go_sem, x2, x3, x4]
          · exact hb4.grown (grownBy_putObj' W4 D (.deferred none)) hb4.size (fun k e => by simp at e; omega)
        · have hz' : (z == 0) = false := by simpa using hz
          have hes : missErr l b r = 0 := by rw [missErr, if_pos h0, if_neg (by rw [g1]; simp), ← hs', if_neg hz]
          have hse : missSpec l b r = (x, y, z) := by rw [missSpec, if_pos hes, ← hs']
          gi_wp2
          gi_region
          gi_wp2
          have x2 := (((u2.set_ 0 (.int .i64 x)).far (p := ⟨s3, 0, none⟩) n23 (.int .i64 y)).far (p := ⟨s4, 0, none⟩) n24 (.int .i64 z)).drew
          have x3 := (((u3.far (p := ⟨s2, 0, none⟩) n32 (.int .i64 x)).set_ 0 (.int .i64 y)).far (p := ⟨s4, 0, none⟩) n34 (.int .i64 z)).drew
          have x4 := (((u4.far (p := ⟨s2, 0, none⟩) n42 (.int .i64 x)).far (p := ⟨s3, 0, none⟩) n43 (.int .i64 y)).set_ 0 (.int .i64 z)).drew
          have hb4 : Below w.heap.size w (((W.setCell ⟨s2, 0, none⟩ (.int .i64 x)).setCell ⟨s3, 0, none⟩ (.int .i64 y)).setCell ⟨s4, 0, none⟩ (.int .i64 z)).drew := (((hbb.setCell (p := ⟨s2, 0, none⟩) l2 _).setCell (p := ⟨s3, 0, none⟩) l3 _).setCell (p := ⟨s4, 0, none⟩) l4 _).drew
          have hK4 : (((W.setCell ⟨s2, 0, none⟩ (.int .i64 x)).setCell ⟨s3, 0, none⟩ (.int .i64 y)).setCell ⟨s4, 0, none⟩ (.int .i64 z)).drew.heap[D]? = some (.deferred (some [])) := (Below.heap_setCell _ _ _ _ hD2.2.2).trans ((Below.heap_setCell _ _ _ _ hD2.2.1).trans ((Below.heap_setCell _ _ _ _ hD2.1).trans hK))
          obtain ⟨W4, eW4⟩ : ∃ W4, W4 = (((W.setCell ⟨s2, 0, none⟩ (.int .i64 x)).setCell ⟨s3, 0, none⟩ (.int .i64 y)).setCell ⟨s4, 0, none⟩ (.int .i64 z)).drew := ⟨_, rfl⟩
          rw [← eW4] at x2 x3 x4 hb4 hK4 ⊢
          clear eW4
          replace x2 := (x2.grown (grownBy_putObj' W4 D (.deferred none)) (by simp; omega)).cell 0
          replace x3 := (x3.grown (grownBy_putObj' W4 D (.deferred none)) (by simp; omega)).cell 0
          replace x4 := (x4.grown (grownBy_putObj' W4 D (.deferred none)) (by simp; omega)).cell 0
          simp at x2 x3 x4
          refine ⟨by simp, .inl ⟨_, _, rfl, run_takeDeferred hK4, ?_⟩⟩
          rw [hes, hse]
          refine ⟨.tuple #[.int .i64 x, .int .i64 y, .int .i64 z, .int .i64 0], ?_, rfl, ?_⟩
          · simp [results, Try.results29, go_sem, x2, x3, x4]
          · exact hb4.grown (grownBy_putObj' W4 D (.deferred none)) hb4.size (fun k e => by simp at e; omega)
    · rw [g1]
      have hes : missErr l b r = 3 := by rw [missErr, if_pos h0, if_pos g1]
      have hse : missSpec l b r = (0, 0, 0) := by rw [missSpec, if_neg (by rw [hes]; omega)]
      have x2 := (((p2.set_ 0 (.int .i64 0)).far (p := ⟨s3, 0, none⟩) n23 (.int .i64 0)).far (p := ⟨s4, 0, none⟩) n24 (.int .i64 0)).cell 0
      have x3 := (((p3.far (p := ⟨s2, 0, none⟩) n32 (.int .i64 0)).set_ 0 (.int .i64 0)).far (p := ⟨s4, 0, none⟩) n34 (.int .i64 0)).cell 0
      have x4 := (((p4.far (p := ⟨s2, 0, none⟩) n42 (.int .i64 0)).far (p := ⟨s3, 0, none⟩) n43 (.int .i64 0)).set_ 0 (.int .i64 0)).cell 0
      simp at x2 x3 x4
      gi_wp2
      rw [hes, hse]
      refine ⟨.tuple #[.int .i64 0, .int .i64 0, .int .i64 0, .int .i64 3], ?_, rfl, ?_⟩
      · simp [results, Try.results29, go_sem, x2, x3, x4]
      · exact ((hw2.setCell (p := ⟨s2, 0, none⟩) l2 _).setCell (p := ⟨s3, 0, none⟩) l3 _).setCell (p := ⟨s4, 0, none⟩) l4 _
end Go.Proofs.Ytkbfdgacnoadlaa
