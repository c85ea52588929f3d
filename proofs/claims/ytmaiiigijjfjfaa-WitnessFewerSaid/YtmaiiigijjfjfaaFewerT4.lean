/- X26, WWq, X27, ExX28, X28, WFe, E13, X34: what WitnessFewerProof needs of them (merged by trimpack.py). -/
import Derived.Test.YtmaiiigijjfjfaaFewerT3
set_option linter.unusedVariables false
set_option linter.unusedSimpArgs false
namespace Go.Proofs.Ytmaiiigijjfjfaa
open Go Go.RowKit
set_option maxHeartbeats 1000000 in
theorem sets_iter (N m n0 gm go : Nat) (S : List Nat) (w : World) (hN : N ≤ 1000) (hS1 : memB S 116 = false) (hS2 : memB S 111 = false) (hS3 : memB S 3 = false) (hn : n0 ≤ w.heap.size)
    (hqm0 : Blk w gm 3 #[.int .i64 (m : Nat)]) (hqo0 : Blk w go 3 #[.int .i64 (N : Nat)]) : IterAt Try.prog 74 #[.pointer (some ⟨gm, 0, none⟩), .pointer (some ⟨go, 0, none⟩)] okRow n0 S (setsP N m [] 0) w := by
  intro l J Jx W hkW hJ hJx hY hJ0
  change Calls Try.prog 74 #[.func (.yield l) #[] #[], .pointer (some ⟨gm, 0, none⟩), .pointer (some ⟨go, 0, none⟩)] W _
  have hbw := Below.refl W.heap.size W
  have hqm := hkW.blk _ _ _ hqm0 hS3
  have hqo := hkW.blk _ _ _ hqo0 hS3
  have hnW := Nat.le_trans hn hkW.size
  refine EC.enter 9 Try.func74 rfl rfl rfl ?_
  refine EC.seq ?_
  refine EC.region ?_
  refine EL.newP (bx_111 rfl rfl) rfl ?_
  intro g1 w1 q1 hb1 hg1 hl1
  have bhbw_1 := Nat.le_trans hbw.size hg1
  replace hbw := Below.on hbw hb1 hbw.size
  clear hb1 hg1 hl1
  refine EL.nil ?_
  refine EX.seq ?_
  refine EC.seq ?_
  refine EC.region ?_
  refine EL.newP al_116 rfl ?_
  intro g2 w2 q2 hb2 hg2 hl2
  have n1_2 : g1 ≠ g2 := Nat.ne_of_lt (Nat.lt_of_lt_of_le q1.lt hg2)
  have bhbw_2 := Nat.le_trans hbw.size hg2
  replace q1 := q1.below hb2 q1.lt
  replace hbw := Below.on hbw hb2 hbw.size
  clear hb2 hg2 hl2
  refine EL.nil ?_
  refine EX.seq ?_
  refine EC.seq ?_
  refine EC.region ?_
  refine EL.val (mf_75_0_4 rfl rfl rfl rfl) rfl ?_
  refine EL.store rfl rfl q2 sz_116 rfl rfl rfl rfl ?_
  intro w3 hq3 hg3
  replace q1 := q1.grown hg3 (fun h => n1_2 (Option.some.inj h))
  replace hbw := below_store hbw hg3 bhbw_2
  replace q2 := hq3
  clear hg3 hq3
  refine EL.nil ?_
  refine EX.seq ?_
  refine EC.region ?_
  refine EL.val (ld_116 rfl (q2.at (j := 0) rfl)) rfl ?_
  refine EL.newS (bs_26_0) rfl ?_
  intro g4 w4 q4 hb4 hg4 hl4
  have n1_4 : g1 ≠ g4 := Nat.ne_of_lt (Nat.lt_of_lt_of_le q1.lt hg4)
  have n2_4 : g2 ≠ g4 := Nat.ne_of_lt (Nat.lt_of_lt_of_le q2.lt hg4)
  have bhbw_4 := Nat.le_trans hbw.size hg4
  replace q1 := q1.below hb4 q1.lt
  replace q2 := q2.below hb4 q2.lt
  replace hbw := Below.on hbw hb4 hbw.size
  clear hb4 hg4 hl4
  have hAt : AtS N m n0 gm g1 go g2 l w4 := ⟨hqm.below hbw hqm.lt, q1, hqo.below hbw hqo.lt, q2, Nat.le_trans hnW hbw.size⟩
  refine EL.call (clv_75_0_2_4 rfl rfl rfl) rfl (setsF_any N m n0 gm _ go _ l S J Jx (setsP N m [] 0) hN hS1 hS2 hS3 hJ hJx hY m [] _ 0 [] _ (by simp) (Nat.zero_le _) (Nat.zero_le _) hAt (own_empty 1 q4 (Nat.zero_le _)) (hJ _ _ _ hJ0 hbw) (by rw [List.map_nil, List.nil_append]; exact List.prefix_rfl)) ?_
  rintro e wy ⟨hky, hans⟩
  replace hky := (Kp.of_below hbw hnW).trans hky
  rcases hans with ⟨rfl, ys, hys, hJy⟩ | ⟨rfl, ys, hne, hys, hJy⟩
  ·
    refine ⟨_, rfl, ?_⟩
    refine EL.nil ?_
    exact EX.done' (res0 rfl) ⟨⟨_, rfl⟩, hky, .inl ⟨ys, hys, hJy⟩⟩
  ·
    refine ⟨_, rfl, ?_⟩
    refine EL.nil ?_
    exact EX.done' (res0 rfl) ⟨⟨_, rfl⟩, hky, .inr ⟨ys, hne, hys, hJy⟩⟩
theorem sets_fn (N m : Nat) (w : World) : Calls Try.prog 58 #[.int .i64 (N : Nat), .int .i64 (m : Nat)] w fun e w' => (∃ gm go, e = .returned (.func (.func 74) #[] #[.pointer (some ⟨gm, 0, none⟩), .pointer (some ⟨go, 0, none⟩)]) ∧ Blk w' gm 3 #[.int .i64 (m : Nat)] ∧ Blk w' go 3 #[.int .i64 (N : Nat)] ∧ w.heap.size ≤ gm ∧ w.heap.size ≤ go) ∧ Below w.heap.size w w' := by
  have hbw := Below.refl w.heap.size w
  refine EC.enter 6 Try.func58 rfl rfl rfl ?_
  refine EC.seq ?_
  refine EC.region ?_
  refine EL.newP (bx_3 rfl rfl) rfl ?_
  intro g1 w1 q1 hb1 hg1 hl1
  have bhbw_1 := Nat.le_trans hbw.size hg1
  replace hbw := Below.on hbw hb1 hbw.size
  clear hb1 hg1 hl1
  refine EL.newP (bx_3 rfl rfl) rfl ?_
  intro g2 w2 q2 hb2 hg2 hl2
  have n1_2 : g1 ≠ g2 := Nat.ne_of_lt (Nat.lt_of_lt_of_le q1.lt hg2)
  have bhbw_2 := Nat.le_trans hbw.size hg2
  replace q1 := q1.below hb2 q1.lt
  replace hbw := Below.on hbw hb2 hbw.size
  clear hb2 hg2 hl2
  refine EL.val (x_assign rfl) rfl ?_
  refine EL.nil ?_
  refine EX.seq ?_
  refine EC.seq ?_
  refine EC.region ?_
  refine EL.val (mf_74_0_2 rfl rfl) rfl ?_
  refine EL.val (x_assign rfl) rfl ?_
  refine EL.nil ?_
  refine EX.seq ?_
  refine EC.ret ?_
  exact EX.done (res1 rfl rfl) ⟨⟨_, _, rfl, q2, q1, bhbw_2, bhbw_1⟩, hbw⟩
def HasI (b0 gl : Nat) (w0 : World) (pre : List It) (W : World) : Prop := pre = [] ∧ Blk W gl 4 #[.bool false] ∧ Below b0 w0 W
def HasX (b0 gl : Nat) (w0 : World) (pre : List It) (W : World) : Prop := Blk W gl 4 #[.bool true] ∧ Below b0 w0 W
theorem HasI.from {b0 gl B : Nat} {w0 : World} (h1 : b0 ≤ w0.heap.size) (h2 : b0 ≤ B) : OwnFrom B (HasI b0 gl w0) := fun s W W' row h hg hr => ⟨h.1, blk_keep h.2.1 hg fun r e => (hr r e).2, ownFrom_below (β := List It) h1 h2 s W W' row h.2.2 hg hr⟩
theorem HasX.from {b0 gl B : Nat} {w0 : World} (h1 : b0 ≤ w0.heap.size) (h2 : b0 ≤ B) : OwnFrom B (HasX b0 gl w0) := fun s W W' row h hg hr => ⟨blk_keep h.1 hg fun r e => (hr r e).2, ownFrom_below (β := List It) h1 h2 s W W' row h.2 hg hr⟩
theorem hasC_some {c : Case} {pre : List It} (h : pre ≠ []) (hp : pre.map (·.1) <+: coursesL c) : hasC c = true := by
  unfold hasC
  cases e : coursesL c with
  | nil =>
    rw [e] at hp
    have := List.prefix_nil.1 hp
    exact absurd (List.map_eq_nil_iff.1 this) h
  | cons => rfl
set_option maxHeartbeats 2000000 in
theorem has_any (c : Case) (vc vl : Value) (vs : List Value) (w : World) (B : Nat) (hr : RdCase w B vc vl c vs) (hB : B ≤ w.heap.size) (hn1 : c.clocks.length ≤ 1073741824) (hn2 : c.clues.length ≤ 1073741824) (hcb : caseB c = true) :
    Calls Try.prog 59 #[.agg #[.int .i64 c.events, vc, vl]] w fun e w' => e = .returned (.bool (hasC c)) ∧ Below w.heap.size w w' := by
  obtain ⟨Ac, cc_, rfl, _⟩ := hr.clocks.shape
  obtain ⟨Al, cl_, rfl, _⟩ := hr.clues.rd.shape
  have hbw := Below.refl w.heap.size w
  refine EC.marks 6 Try.func59 rfl rfl rfl ?_
  refine ECI.out ?_
  refine EC.seq ?_
  refine EC.region ?_
  refine EL.newP (bx_25 rfl) rfl ?_
  intro g1 w1 q1 hb1 hg1 hl1
  have bhbw_1 := Nat.le_trans hbw.size hg1
  replace hbw := Below.on hbw hb1 hbw.size
  clear hb1 hg1 hl1
  refine EL.newP al_4 rfl ?_
  intro g2 w2 q2 hb2 hg2 hl2
  have n1_2 : g1 ≠ g2 := Nat.ne_of_lt (Nat.lt_of_lt_of_le q1.lt hg2)
  have bhbw_2 := Nat.le_trans hbw.size hg2
  replace q1 := q1.below hb2 q1.lt
  replace hbw := Below.on hbw hb2 hbw.size
  clear hb2 hg2 hl2
  refine EL.nil ?_
  refine EX.seq ?_
  refine EC.seq ?_
  refine EC.seq ?_
  refine EC.region ?_
  refine EL.val (ld_25 rfl (q1.at (j := 0) rfl) (q1.at (j := 1) rfl) (q1.at (j := 2) rfl)) rfl ?_
  refine EL.call (cl_45 rfl) rfl (courses_fn _ ⟨_, _, _, rfl⟩ ⟨_, _, _, rfl⟩) ?_
  rintro e w3 ⟨⟨gc, rfl, hcq, hgc⟩, hc3⟩
  refine ⟨_, rfl, ?_⟩
  replace q1 := q1.below hc3 q1.lt
  replace q2 := q2.below hc3 q2.lt
  replace hbw := Below.on hbw hc3 hbw.size
  clear hc3
  refine EL.nil ?_
  refine EX.seq ?_
  refine EC.block ?_
  obtain ⟨gl, egl⟩ : ∃ z, z = g2 := ⟨_, rfl⟩
  have qL := q2
  rw [← egl] at qL
  have hgl : w.heap.size ≤ gl := by rw [egl]; exact bhbw_2
  subst egl
  refine EC.inn (k := 0) ?_
  have hI1 : OwnFrom w3.heap.size (HasI w.heap.size gl w) := HasI.from (Nat.le_refl _) hbw.size
  have hI2 : OwnFrom w3.heap.size (HasX w.heap.size gl w) := HasX.from (Nat.le_refl _) hbw.size
  refine rangeF (σ1 := fun x => _) (ok := okRow) (n0 := w.heap.size) (S := [4]) rfl (fun args w => by kernel_rfl) rfl (courses_iter c _ _ vs w.heap.size B gc [4] _ hcb hB rfl rfl rfl hbw.size hcq (hr.below (hbw.mono hB))) hbw.size (HasI w.heap.size gl w) (HasX w.heap.size gl w) hI1 hI2 ⟨rfl, qL, hbw⟩ (okRow_from _) (fun l x W K hK => ECI.skip (fun a ha => hK a ha)) ?_ ?_ ?_
  · rintro l pre x W hpf hokx ⟨rfl, qW, hlow⟩
    refine ECI.block ?_
    refine ECI.seq ?_
    refine ECI.region ?_
    refine ELI.store rfl rfl qW sz_4 rfl rfl rfl rfl ?_
    intro W3 q3 hgr3 hk3
    refine ELI.nil ?_
    refine EXI.seq ?_
    refine ECI.ret ?_
    refine EXI.blk_ret ?_
    exact fun a ha => ⟨hk3, Kp.grown qW rfl hgl hgr3, .inr ⟨rfl, q3, hlow.grown hgr3 hlow.size (fun k e => by injection e with e; omega)⟩⟩
  · rintro D xs W hD hall ⟨rfl, qW, hlow⟩ hkp hdef
    refine EXI.blk ?_
    refine EXI.seqw ?_
    refine ECI.seq ?_
    refine ECI.region ?_
    refine ELI.store rfl rfl qW sz_4 rfl rfl rfl rfl ?_
    intro W3 q3 hgr3 hk3
    refine ELI.nil ?_
    refine EXI.seq ?_
    refine ECI.ret ?_
    exact EXI.done (n0 := w.heap.size) (fun d hd => ⟨D, Nat.le_trans hbw.size hD, List.mem_singleton.1 hd, hk3.same _ _ hdef rfl⟩) (by simp) (v := .bool false) (fun w' ht => resc1 rfl rfl (lv_4 ((ht.blk _ _ _ q3).at (j := 0) rfl))) (fun w' ht => ⟨by rw [hasC, ← hall]; rfl, (hlow.grown hgr3 hlow.size (fun k e => by injection e with e; omega)).trans ht.below⟩)
  · rintro D pre W hD hne hall ⟨qW, hlow⟩ hkp hdef
    refine EXI.blk_ret ?_
    refine EXI.seq_ret ?_
    exact EXI.done (n0 := w.heap.size) (fun d hd => ⟨D, Nat.le_trans hbw.size hD, List.mem_singleton.1 hd, hdef⟩) (by simp) (v := .bool true) (fun w' ht => resc1 rfl rfl (lv_4 ((ht.blk _ _ _ qW).at (j := 0) rfl))) (fun w' ht => ⟨by rw [hasC_some hne hall], hlow.trans ht.below⟩)
def wrgErr (c : Case) : Int := if caseB c = false then 2 else if 10 < c.clues.length ∨ 512 < manyC c then 5 else 0
def wrgRes (c : Case) : List (List Int) := if wrgErr c = 0 then wrongL c else []
theorem wrg_bad {c : Case} (h : ¬caseB c = true) : wrgErr c = 2 := by unfold wrgErr; rw [if_pos (by simpa using h)]
theorem wrg_long {c : Case} (h : caseB c = true) (hm : 10 < c.clues.length ∨ 512 < manyC c) : wrgErr c = 5 := by unfold wrgErr; rw [if_neg (by simp [h]), if_pos hm]
theorem wrg_ok {c : Case} (h : caseB c = true) (h1 : ¬10 < c.clues.length) (h2 : ¬512 < manyC c) : wrgErr c = 0 := by unfold wrgErr; rw [if_neg (by simp [h]), if_neg (by omega)]
theorem Marks.below {n0 : Nat} {ds : List Deferred} {W W' : World} (h : Marks n0 ds W) (hb : Below W.heap.size W W') : Marks n0 ds W' := fun d hd => by
  obtain ⟨D, h1, h2, h3⟩ := h d hd
  exact ⟨D, h1, h2, (hb.block D (Array.getElem?_eq_some_iff.1 h3).1).trans h3⟩
theorem Marks.keeps {n0 : Nat} {ds : List Deferred} {W W' : World} (h : Marks n0 ds W) (hk : KeepsOthers W W') : Marks n0 ds W' := fun d hd => by
  obtain ⟨D, h1, h2, h3⟩ := h d hd
  exact ⟨D, h1, h2, hk.same _ _ h3 rfl⟩
theorem Marks.cons {n0 D : Nat} {ds : List Deferred} {W : World} (h : Marks n0 ds W) (hD : n0 ≤ D) (hd : W.heap[D]? = some (.deferred (some []))) : Marks n0 ({ target := .collected D, args := #[] } :: ds) W := fun d hm => by
  rcases List.mem_cons.1 hm with rfl | h1
  · exact ⟨D, hD, rfl, hd⟩
  · exact h d h1
/-- the marks of a world that has been, still there -/
structure MarksIn (n0 : Nat) (ds : List Deferred) (W0 W : World) : Prop where
  marks : Marks n0 ds W
  old : Marks n0 ds W0
theorem Marks.refl {n0 : Nat} {ds : List Deferred} {W : World} (h : Marks n0 ds W) : MarksIn n0 ds W W := ⟨h, h⟩
theorem MarksIn.below {n0 : Nat} {ds : List Deferred} {W0 W W' : World} (h : MarksIn n0 ds W0 W) (hb : Below W.heap.size W W') : MarksIn n0 ds W0 W' := ⟨h.marks.below hb, h.old⟩
theorem MarksIn.keeps {n0 : Nat} {ds : List Deferred} {W0 W W' : World} (h : MarksIn n0 ds W0 W) (hk : KeepsOthers W W') (_ : W.heap.size ≤ W'.heap.size) : MarksIn n0 ds W0 W' := ⟨h.marks.keeps hk, h.old⟩
theorem MarksIn.fresh {n0 D : Nat} {ds : List Deferred} {W0 W : World} (h : MarksIn n0 ds W0 W) (hD : W0.heap.size ≤ D) (hm : ({ target := .collected D, args := #[] } : Deferred) ∈ ds) : False := by
  obtain ⟨D', _, h2, h3⟩ := h.old _ hm
  have := (Array.getElem?_eq_some_iff.1 h3).1
  injection h2 with h2 _
  injection h2 with h2
  omega
/-- what a round of Wrong's range keeps -/
def WrgI (c : Case) (b0 gl gc : Nat) (w0 : World) (cs : Array Value) (W0 : World) (dl : List Deferred) (pre : List It) (W : World) : Prop :=
  ∃ ys : List It, ys.map (·.1) = (pre.map (·.1)).filter (hasW c) ∧ Coll b0 gl w0 ys W ∧ Blk W gc 25 cs ∧ MarksIn b0 dl W0 W
theorem WrgI.from {c : Case} {b0 gl gc B : Nat} {w0 W0 : World} {cs : Array Value} {dl : List Deferred} (h1 : b0 ≤ w0.heap.size) (h2 : b0 ≤ B) (h3 : W0.heap.size ≤ B) : OwnFrom B (WrgI c b0 gl gc w0 cs W0 dl) := fun s W W' row h hg hr => by
  obtain ⟨ys, hys, hcl, hq, hmk⟩ := h
  refine ⟨ys, hys, (Coll.from h1 h2) ys W W' row hcl hg hr, blk_keep hq hg fun r e => (hr r e).2, ⟨fun d hd => ?_, hmk.old⟩⟩
  obtain ⟨D, k1, k2, k3⟩ := hmk.marks d hd
  obtain ⟨D', _, k5, k6⟩ := hmk.old d hd
  have e : D' = D := by rw [k2] at k5; injection k5 with k5 _; injection k5 with k5; exact k5.symm
  subst e
  have hlt := (Array.getElem?_eq_some_iff.1 k6).1
  exact ⟨D', k1, k2, (hg.block D' (Array.getElem?_eq_some_iff.1 k3).1 (fun e => by have := (hr D' e.symm).1; omega)).trans k3⟩
theorem setsP_each (n : Nat) : ∀ (d : Nat) (pre : List Int) (next : Nat), ∀ x ∈ setsP n d pre next, x.length = pre.length + d
  | 0, pre, next, x, hx => by simp only [setsP, List.mem_singleton] at hx; subst hx; rfl
  | d + 1, pre, next, x, hx => by
    unfold setsP at hx
    obtain ⟨k, _, hx⟩ := mem_flatR.1 hx
    have := setsP_each n d _ _ x hx
    rw [List.length_append, List.length_singleton] at this
    omega
theorem sets_lt {N m : Nat} {pre : List It} {x : It} (h : (pre ++ [x]).map (·.1) <+: setsP N m [] 0) : x.1.length = m := by
  have hm : x.1 ∈ setsP N m [] 0 := h.subset (by simp)
  have := setsP_each N m [] 0 _ hm
  simpa using this
theorem wrg_len {c : Case} {m : Nat} {ys pre : List It} {x : It} (hys : ys.map (·.1) = (pre.map (·.1)).filter (hasW c)) (h : (pre ++ [x]).map (·.1) <+: setsP c.clues.length m [] 0) (hn : c.clues.length ≤ 10) : ys.length + 1 ≤ 1048576 := by
  have h1 := h.length_le
  have h2 := setsP_len c.clues.length m [] 0
  have h3 : (2 : Nat) ^ (c.clues.length - 0) ≤ 2 ^ 10 := Nat.pow_le_pow_right (by omega) (by omega)
  have h4 : ys.length ≤ pre.length := by
    have := congrArg List.length hys
    rw [List.length_map] at this
    rw [this]
    exact Nat.le_trans (List.length_filter_le _ _) (by simp)
  simp only [List.length_map, List.length_append, List.length_singleton] at h1
  omega
set_option maxHeartbeats 4000000 in
set_option maxRecDepth 100000 in
theorem wrong_any (c : Case) (vc vl : Value) (vs : List Value) (w : World) (B : Nat) (hr : RdCase w B vc vl c vs) (hB : B ≤ w.heap.size) (hn1 : c.clocks.length ≤ 1073741824) (hn2 : c.clues.length ≤ 1073741824) :
    Calls Try.prog 35 #[.agg #[.int .i64 c.events, vc, vl]] w fun e w' => (∃ v vs', e = .returned (.tuple #[v, .int .i64 (wrgErr c)]) ∧ RdLL iC 1 w' w'.heap.size v (wrgRes c) vs') ∧ Below w.heap.size w w' := by
  obtain ⟨Ac, cc_, rfl, _⟩ := hr.clocks.shape
  obtain ⟨Al, cl_, rfl, _⟩ := hr.clues.rd.shape
  have hbw := Below.refl w.heap.size w
  refine EC.marks 39 Try.func35 rfl rfl rfl ?_
  refine ECI.out ?_
  refine EC.seq ?_
  refine EC.region ?_
  refine EL.newP (bx_25 rfl) rfl ?_
  intro g1 w1 q1 hb1 hg1 hl1
  have bhbw_1 := Nat.le_trans hbw.size hg1
  replace hbw := Below.on hbw hb1 hbw.size
  clear hb1 hg1 hl1
  refine EL.newP al_41 rfl ?_
  intro g2 w2 q2 hb2 hg2 hl2
  have n1_2 : g1 ≠ g2 := Nat.ne_of_lt (Nat.lt_of_lt_of_le q1.lt hg2)
  have bhbw_2 := Nat.le_trans hbw.size hg2
  replace q1 := q1.below hb2 q1.lt
  replace hbw := Below.on hbw hb2 hbw.size
  clear hb2 hg2 hl2
  refine EL.val (x_assign rfl) rfl ?_
  refine EL.nil ?_
  refine EX.seq ?_
  refine EC.seq ?_
  refine EC.block ?_
  refine EC.seq ?_
  refine EC.region ?_
  refine EL.val (ld_25 rfl (q1.at (j := 0) rfl) (q1.at (j := 1) rfl) (q1.at (j := 2) rfl)) rfl ?_
  by_cases hcb : caseB c = true
  ·
    obtain ⟨hev, h8, h20, hck, hcl⟩ := caseB_ok hcb
    refine EL.call (cl_25 rfl) rfl (check_ok hcb _ _ vs _ B (hr.below (hbw.mono hB)) (Nat.le_trans hB hbw.size) hn1 hn2) ?_
    rintro e w3 ⟨rfl, hc3⟩
    refine ⟨_, rfl, ?_⟩
    replace q1 := q1.below hc3 q1.lt
    replace q2 := q2.below hc3 q2.lt
    replace hbw := Below.on hbw hc3 hbw.size
    clear hc3
    refine EL.val (x_neq (r := false) rfl rfl (by decide)) rfl ?_
    refine EL.val (x_assign rfl) rfl ?_
    refine EL.nil ?_
    refine EX.seq ?_
    refine EC.no rfl ?_
    refine EC.seq ?_
    refine EC.region ?_
    refine EL.val (fa_25_2 rfl) rfl ?_
    refine EL.val (ld_23 rfl (q1.at (j := 2) rfl)) rfl ?_
    refine EL.val (ln_23 rfl) rfl ?_
    by_cases h10 : 10 < c.clues.length
    ·
      refine EL.val (x_gtr rfl rfl (by first | assumption | exact decide_eq_true (by omega))) rfl ?_
      refine EL.val (x_move rfl) rfl ?_
      refine EL.skip rfl rfl rfl rfl ?_
      refine EL.skip rfl rfl rfl rfl ?_
      refine EL.val (x_pick_t rfl rfl) rfl ?_
      refine EL.val (x_assign rfl) rfl ?_
      refine EL.nil ?_
      refine EX.seq ?_
      refine EC.yes rfl ?_
      refine EC.seq ?_
      refine EC.region ?_
      refine EL.store rfl rfl q2 sz_41 rfl rfl rfl rfl ?_
      intro w4 hq4 hg4
      replace q1 := q1.grown hg4 (fun h => n1_2 (Option.some.inj h))
      replace hbw := below_store hbw hg4 bhbw_2
      replace q2 := hq4
      clear hg4 hq4
      refine EL.val (x_assign rfl) rfl ?_
      refine EL.nil ?_
      refine EX.seq ?_
      refine EC.ret ?_
      refine EX.blk_ret ?_
      refine EX.seq_ret ?_
      refine EX.doneM (resct rfl rfl rfl (lv_41 (q2.at (j := 0) rfl))) ?_
      exact ⟨⟨_, [], by rw [wrg_long hcb (.inl h10)], by rw [wrgRes, if_neg (by rw [wrg_long hcb (.inl h10)]; decide)]; exact rdll_nil⟩, hbw⟩
    ·
      refine EL.val (x_gtr rfl rfl (by first | assumption | exact decide_eq_false (by omega))) rfl ?_
      refine EL.val (x_move rfl) rfl ?_
      refine EL.valg rfl rfl (ld_25 rfl (q1.at (j := 0) rfl) (q1.at (j := 1) rfl) (q1.at (j := 2) rfl)) rfl ?_
      by_cases hmn : 512 < manyC c
      ·
        refine EL.callg rfl rfl (cl_44 rfl) rfl (tooMany_is (decide_eq_true hmn) _ _ vs _ B (hr.below (hbw.mono hB)) (Nat.le_trans hB hbw.size) hn1 hn2 hcb) ?_
        rintro e w5 ⟨rfl, hc5⟩
        refine ⟨_, rfl, ?_⟩
        replace q1 := q1.below hc5 q1.lt
        replace q2 := q2.below hc5 q2.lt
        replace hbw := Below.on hbw hc5 hbw.size
        clear hc5
        refine EL.val (x_pick_f rfl rfl) rfl ?_
        refine EL.val (x_assign rfl) rfl ?_
        refine EL.nil ?_
        refine EX.seq ?_
        refine EC.yes rfl ?_
        refine EC.seq ?_
        refine EC.region ?_
        refine EL.store rfl rfl q2 sz_41 rfl rfl rfl rfl ?_
        intro w6 hq6 hg6
        replace q1 := q1.grown hg6 (fun h => n1_2 (Option.some.inj h))
        replace hbw := below_store hbw hg6 bhbw_2
        replace q2 := hq6
        clear hg6 hq6
        refine EL.val (x_assign rfl) rfl ?_
        refine EL.nil ?_
        refine EX.seq ?_
        refine EC.ret ?_
        refine EX.blk_ret ?_
        refine EX.seq_ret ?_
        refine EX.doneM (resct rfl rfl rfl (lv_41 (q2.at (j := 0) rfl))) ?_
        exact ⟨⟨_, [], by rw [wrg_long hcb (.inr hmn)], by rw [wrgRes, if_neg (by rw [wrg_long hcb (.inr hmn)]; decide)]; exact rdll_nil⟩, hbw⟩
      ·
        refine EL.callg rfl rfl (cl_44 rfl) rfl (tooMany_is (decide_eq_false hmn) _ _ vs _ B (hr.below (hbw.mono hB)) (Nat.le_trans hB hbw.size) hn1 hn2 hcb) ?_
        rintro e w7 ⟨rfl, hc7⟩
        refine ⟨_, rfl, ?_⟩
        replace q1 := q1.below hc7 q1.lt
        replace q2 := q2.below hc7 q2.lt
        replace hbw := Below.on hbw hc7 hbw.size
        clear hc7
        refine EL.val (x_pick_f rfl rfl) rfl ?_
        refine EL.val (x_assign rfl) rfl ?_
        refine EL.nil ?_
        refine EX.seq ?_
        refine EC.no rfl ?_
        refine EC.skip ?_
        refine EX.blk ?_
        refine EX.seq ?_
        refine EC.seq ?_
        refine EC.seq ?_
        refine EC.region ?_
        refine EL.val (x_assign rfl) rfl ?_
        refine EL.nil ?_
        refine EX.seq ?_
        refine EC.block ?_
        have hg1 : w.heap.size ≤ g1 := bhbw_1
        have hg2 : w.heap.size ≤ g2 := bhbw_2
        obtain ⟨gl, egl⟩ : ∃ z, z = g2 := ⟨_, rfl⟩
        have qL := q2
        rw [← egl] at qL hg2
        subst egl
        refine EC.inn (k := 0) ?_
        refine ECI.loopD [4, 5, 19, 20, 21, 22, 23, 24, 25, 26, 27, 28, 29, 30, 31, 32, 33, 34, 35, 36, 37] (fun x : Nat × List It × List Deferred => [(4, .int .i64 (x.1 : Nat))]) (fun x => x.2.2) (fun x W => x.1 ≤ c.clues.length + 1 ∧ (∀ k, k + 1 < x.1 → wrongAt c k = []) ∧ (x.1 = 0 → x.2.1 = []) ∧ (0 < x.1 → x.2.1.map (·.1) = wrongAt c (x.1 - 1)) ∧ Blk W g1 25 #[.int .i64 c.events, .slice Ac c.clocks.length cc_, .slice Al c.clues.length cl_] ∧ Coll w.heap.size gl w x.2.1 W ∧ Marks w.heap.size x.2.2 W ∧ x.2.2.Nodup ∧ w.heap.size ≤ W.heap.size) (fun x => c.clues.length + 2 - x.1) (0, [], []) ⟨Nat.zero_le _, fun k hk => absurd hk (by omega), fun _ => rfl, fun h => absurd h (Nat.lt_irrefl 0), q1, ⟨⟨_, qL, ⟨rfl, .inl ⟨rfl, rfl⟩⟩⟩, fun x hx => absurd hx (by simp), hbw⟩, fun d hd => absurd hd (by simp), List.nodup_nil, hbw.size⟩ ⟨rfl, trivial⟩ rfl ?_
        clear q1 qL hbw
        rintro ⟨m, xs, dl⟩ wm ⟨hm, hno, hx0, hxs, qC, hcl, hmk, hnd, hszm⟩
        dsimp only at hm hno hx0 hxs hcl hmk hnd
        have hbw := hcl.low
        obtain ⟨v, qv, hov⟩ := hcl.l
        obtain ⟨Av, cv_, rfl, _⟩ := (Rd.of_own hov).shape
        by_cases hemp : xs = []
        ·
          subst hemp
          have hno2 : ∀ k, k < m → wrongAt c k = [] := fun k hk => by by_cases e : k + 1 < m; (exact hno k e); (rw [show k = m - 1 by omega, ← hxs (by omega)]; rfl)
          have hmn2 : m ≤ c.clues.length := by by_cases e : m ≤ c.clues.length; (exact e); (exact absurd (hno2 c.clues.length (by omega)) (wrong_last hcb))
          refine ECI.seq ?_
          refine ECI.seq ?_
          refine ECI.region ?_
          refine ELI.val (ld_41 rfl (qv.at (j := 0) rfl)) rfl ?_
          refine ELI.val (ln_41 rfl) rfl ?_
          refine ELI.val (x_eql (r := true) rfl rfl (decide_eq_true rfl)) rfl ?_
          refine ELI.nil ?_
          refine EXI.seq ?_
          refine ECI.yes rfl ?_
          refine ECI.skip ?_
          refine EXI.seq ?_
          refine ECI.seq ?_
          refine ECI.block ?_
          refine ECI.seq ?_
          refine ECI.region ?_
          refine ELI.val (fa_25_2 rfl) rfl ?_
          refine ELI.val (ld_23 rfl (qC.at (j := 2) rfl)) rfl ?_
          refine ELI.val (ln_23 rfl) rfl ?_
          refine ELI.val (x_move rfl) rfl ?_
          refine ELI.call (cl_58 rfl rfl) rfl (sets_fn c.clues.length m _) ?_
          rintro e w8 ⟨⟨gm, go, rfl, qm, qo, hgm, hgo⟩, hc8⟩
          refine ⟨_, rfl, ?_⟩
          replace hcl := hcl.below hc8 (Nat.le_refl _)
          replace hmk := hmk.below hc8
          replace qC := qC.below hc8 qC.lt
          replace qv := qv.below hc8 qv.lt
          replace hbw := Below.on hbw hc8 hbw.size
          clear hc8
          refine ELI.nil ?_
          refine EXI.seq ?_
          refine ECI.block ?_
          skip
          refine rangeF (σ1 := fun x => _) (ok := okRow) (n0 := w.heap.size) (S := [41, 26]) rfl (fun args w => by kernel_rfl) rfl (sets_iter c.clues.length m w.heap.size gm go [41, 26] w8 (by omega) rfl rfl rfl hbw.size qm qo) hbw.size (WrgI c w.heap.size gl g1 w #[.int .i64 c.events, .slice Ac c.clocks.length cc_, .slice Al c.clues.length cl_] w8 dl) (fun _ _ => False) (WrgI.from (Nat.le_refl _) hbw.size (Nat.le_refl _)) (fun _ _ _ _ h _ _ => h) ⟨[], rfl, hcl, qC, Marks.refl hmk⟩ (okRow_from _) (fun l x W K hK => assign1 rfl hK) ?_ ?_ ?_
          · rintro l pre ⟨xl, xv⟩ W hpf hokx ⟨ys, hys, hcl, qC, hmk⟩
            have hlow := hcl.low
            have hset : xl.length = m := sets_lt hpf
            have hlen : ys.length + 1 ≤ 1048576 := wrg_len (c := c) (m := m) hys hpf (by omega)
            obtain ⟨Ax, cx, ex_, _⟩ := (Rd.of_own hokx).shape
            have ex_ : xv = .slice Ax xl.length cx := ex_
            subst ex_
            refine ECI.block ?_
            refine ECI.seq ?_
            refine ECI.region ?_
            refine ELI.val (ld_25 rfl (qC.at (j := 0) rfl) (qC.at (j := 1) rfl) (qC.at (j := 2) rfl)) rfl ?_
            refine ELI.val (x_move rfl) rfl ?_
            refine ELI.call (cl_60 rfl rfl) rfl (without_any c _ _ vs W W.heap.size ((hr.below (hlow.mono hB)).more (Nat.le_trans hB hlow.size)) (Nat.le_refl _) hn1 hn2 xl _ (Rd.of_own hokx) (by omega) (by omega)) ?_
            rintro e W1 ⟨⟨v1, ls1, rfl, hr1⟩, hb1⟩
            refine ⟨_, rfl, ?_⟩
            replace hcl := hcl.below hb1 (Nat.le_refl _)
            replace qC := qC.below hb1 qC.lt
            replace hmk := hmk.below hb1
            have hokx1 : okRow (xl, Value.slice Ax xl.length cx) W1 := own_below hokx hb1 (Nat.le_refl _)
            have hko1 := keeps_below hb1
            have hkp1 := Kp.of_below (n0 := w.heap.size) (S := [41, 26]) hb1 hlow.size
            refine ELI.call (cl_59 rfl) rfl (has_any (withoutC c xl) _ _ ls1 W1 _ hr1 (Nat.le_refl _) (show c.clocks.length ≤ 1073741824 from hn1) (Nat.le_trans (withoutL_len _) hn2) (without_ok hcb)) ?_
            rintro e W2 ⟨rfl, hb2⟩
            refine ⟨_, rfl, ?_⟩
            replace hcl := hcl.below hb2 (Nat.le_refl _)
            replace qC := qC.below hb2 qC.lt
            replace hmk := hmk.below hb2
            have hokx2 : okRow (xl, Value.slice Ax xl.length cx) W2 := own_below hokx1 hb2 (Nat.le_refl _)
            have hko2 := hko1.trans (keeps_below hb2)
            have hkp2 := hkp1.trans (Kp.of_below (n0 := w.heap.size) (S := [41, 26]) hb2 (Nat.le_trans hlow.size hb1.size))
            refine ELI.nil ?_
            refine EXI.seq ?_
            clear hlow hokx hokx1
            have hlow := hcl.low
            cases hhas : hasC (withoutC c xl)
            ·
              refine ECI.no rfl ?_
              refine ECI.skip ?_
              refine EXI.blk ?_
              exact fun a ha => ⟨hko2, hkp2, .inl ⟨rfl, ys, by rw [List.map_append, List.filter_append, ← hys]; simp [hasW, hhas], hcl, qC, hmk⟩⟩
            ·
              refine ECI.yes rfl ?_
              refine ECI.region ?_
              obtain ⟨vy, qy, hoy⟩ := hcl.l
              have hrows := hcl.rows
              clear hcl
              refine ELI.val (ld_41 rfl (qy.at (j := 0) rfl)) rfl ?_
              refine ELI.val (x_move rfl) rfl ?_
              refine ELI.newS (bs_41_1 rfl) rfl ?_
              intro g1 W3 qn hb3 hge3 hlt3
              replace qy := qy.below hb3 qy.lt
              replace qC := qC.below hb3 qC.lt
              replace hmk := hmk.below hb3
              replace hoy := own_below hoy hb3 (Nat.le_refl _)
              have hrows1 : ∀ x ∈ ys ++ [(xl, .slice Ax xl.length cx)], okRow x W3 := fun x hx => by
                rcases List.mem_append.1 hx with h | h
                · exact own_below (hrows x h) hb3 (Nat.le_refl _)
                · rw [List.mem_singleton.1 h]; exact own_below hokx2 hb3 (Nat.le_refl _)
              have hlow1 := hlow.trans (hb3.mono hlow.size)
              refine ELI.push row_elem rfl rfl hoy (rd_one (l := [.slice Ax xl.length cx]) qn rfl) (by intro u hu; rw [List.mem_singleton.1 hu]; rfl) hlen rfl hlow1.size rfl ?_
              intro v2 W4 ho2 hgr hb4 hk4
              have qy2 := blk_grown qy hoy rfl hgr
              replace qC := blk_grown qC hoy rfl hgr
              replace hmk := hmk.keeps hk4 hgr.size
              have hrows2 : ∀ x ∈ ys ++ [(xl, .slice Ax xl.length cx)], okRow x W4 := fun x hx => own_grown (hrows1 x hx) hoy rfl hgr
              have hlow2 := hlow1.trans hb4
              obtain ⟨A2, c2, e2, _⟩ := (Rd.of_own ho2).shape
              subst e2
              refine ELI.store rfl rfl qy2 sz_41 rfl rfl rfl rfl ?_
              intro W5 q5 hgr5 hk5
              replace qC := blk_type qC qy2 rfl hgr5
              replace hmk := hmk.keeps hk5 hgr5.size
              refine ELI.nil ?_
              have hcl5 : Coll w.heap.size gl w (ys ++ [(xl, .slice Ax xl.length cx)]) W5 := ⟨⟨_, q5, by simpa using own_type ho2 qy2 rfl hgr5⟩, fun x hx => own_type (hrows2 x hx) qy2 rfl hgr5, hlow2.grown hgr5 hlow2.size (fun k e => by injection e with e; omega)⟩
              have hko5 := ((hko2.trans (keeps_below hb3)).trans hk4).trans hk5
              have hkp5 : Kp w.heap.size [41, 26] W W5 := ((hkp2.trans (Kp.of_below hb3 hlow.size)).trans (Kp.own hoy rfl (Nat.le_refl _) hlow1.size hgr)).trans (Kp.grown qy2 rfl hg2 hgr5)
              refine EXI.blk ?_
              exact fun a ha => ⟨hko5, hkp5, .inl ⟨rfl, ys ++ [(xl, .slice Ax xl.length cx)], by rw [List.map_append, List.map_append, List.filter_append, ← hys]; simp [hasW, hhas], hcl5, qC, hmk⟩⟩
          · rintro D ps W hD hall ⟨ys, hys, hcl, qC, hmk⟩ hkp hdef
            refine EXI.blk ?_
            refine EXI.blk ?_
            refine EXI.seq ?_
            refine ECI.region ?_
            refine ELI.val (x_move rfl) rfl ?_
            refine ELI.val (x_add rfl rfl (c := ((m + 1 : Nat) : Int)) ((IntWalk.i64_in _ ⟨by omega, by omega⟩).trans (by omega))) rfl ?_
            refine ELI.val (x_assign rfl) rfl ?_
            refine ELI.nil ?_
            refine EXI.roundD (m + 1, ys, { target := .collected D, args := #[] } :: dl) ⟨rfl, trivial⟩ (by repeat first | with_reducible exact Sub.refl _ | refine sub_past rfl ?_ | exact Sub.refl _ | refine sub_del rfl ?_ | refine sub_insL_nil ?_) rfl ⟨by omega, fun k hk => hno2 k (by omega), fun h => absurd h (by omega), fun _ => by rw [hys, hall]; rfl, qC, hcl, hmk.marks.cons (Nat.le_trans hbw.size hD) hdef, List.nodup_cons.2 ⟨fun h => hmk.fresh hD h, hnd⟩, hcl.low.size⟩ (by simp only; omega)
          · intro D pre W hD hne hall h
            exact absurd h id
        ·
          have hm0 : 0 < m := by by_cases e : m = 0; (exact absurd (hx0 e) hemp); omega
          have hxs := hxs hm0
          have hwl : wrongL c = wrongAt c (m - 1) := wrong_is (by rw [← hxs]; intro h; exact hemp (List.map_eq_nil_iff.1 h)) (by omega) (fun i hi => hno i (by omega))
          have hne1 : ¬((xs.length : Nat) : Int) = 0 := by have : xs.length ≠ 0 := fun h => hemp (List.eq_nil_of_length_eq_zero h); omega
          refine ECI.seq ?_
          refine ECI.seq ?_
          refine ECI.region ?_
          refine ELI.val (ld_41 rfl (qv.at (j := 0) rfl)) rfl ?_
          refine ELI.val (ln_41 rfl) rfl ?_
          refine ELI.val (x_eql (r := false) rfl rfl (decide_eq_false hne1)) rfl ?_
          refine ELI.nil ?_
          refine EXI.seq ?_
          refine ECI.no rfl ?_
          refine ECI.exit ?_
          refine EXI.seq_exit ?_
          refine EXI.seq_exit ?_
          refine EXI.blk_here ?_
          refine EXI.seqw ?_
          refine ECI.seq ?_
          refine ECI.region ?_
          refine ELI.val (ld_41 rfl (qv.at (j := 0) rfl)) rfl ?_
          refine ELI.store rfl rfl qv sz_41 rfl rfl rfl rfl ?_
          intro w9 hq9 hg9 hk_
          have qv0 := qv
          have hgX := hg9
          replace qC := qC.grown hg9 (fun h => n1_2 (Option.some.inj h))
          replace hbw := below_store hbw hg9 bhbw_2
          replace qv := hq9
          clear hg9 hq9
          refine ELI.val (x_assign rfl) rfl ?_
          refine ELI.nil ?_
          refine EXI.seq ?_
          refine ECI.ret ?_
          refine EXI.done (n0 := w.heap.size) (hmk.keeps hk_) hnd (v := .tuple #[.slice Av xs.length cv_, .int .i64 0]) (fun w' ht => resct rfl rfl rfl (lv_41 ((ht.blk _ _ _ qv).at (j := 0) rfl))) (fun w' ht => ?_)
          have hcl3 : Coll w.heap.size gl w xs w9 := ⟨⟨_, qv, own_type hov qv0 rfl hgX⟩, fun x hx => own_type (hcl.rows x hx) qv0 rfl hgX, hbw⟩
          exact ⟨⟨_, xs.map (·.2), by rw [wrg_ok hcb h10 hmn], by rw [wrgRes, if_pos (wrg_ok hcb h10 hmn), hwl, ← hxs]; exact (hcl3.took ht (Nat.le_refl _)).rd (ht.blk _ _ _ qv)⟩, hcl3.low.trans ht.below⟩
  ·
    refine EL.call (cl_25 rfl) rfl (check_bad hcb _ _ vs _ B (hr.below (hbw.mono hB)) (Nat.le_trans hB hbw.size) hn1 hn2) ?_
    rintro e w10 ⟨rfl, hc10⟩
    refine ⟨_, rfl, ?_⟩
    replace q1 := q1.below hc10 q1.lt
    replace q2 := q2.below hc10 q2.lt
    replace hbw := Below.on hbw hc10 hbw.size
    clear hc10
    refine EL.val (x_neq (r := true) rfl rfl (by decide)) rfl ?_
    refine EL.val (x_assign rfl) rfl ?_
    refine EL.nil ?_
    refine EX.seq ?_
    refine EC.yes rfl ?_
    refine EC.seq ?_
    refine EC.region ?_
    refine EL.store rfl rfl q2 sz_41 rfl rfl rfl rfl ?_
    intro w11 hq11 hg11
    replace q1 := q1.grown hg11 (fun h => n1_2 (Option.some.inj h))
    replace hbw := below_store hbw hg11 bhbw_2
    replace q2 := hq11
    clear hg11 hq11
    refine EL.val (x_assign rfl) rfl ?_
    refine EL.nil ?_
    refine EX.seq ?_
    refine EC.ret ?_
    refine EX.blk_ret ?_
    refine EX.seq_ret ?_
    refine EX.doneM (resct rfl rfl rfl (lv_41 (q2.at (j := 0) rfl))) ?_
    exact ⟨⟨_, [], by rw [wrg_bad hcb], by rw [wrgRes, if_neg (by rw [wrg_bad hcb]; decide)]; exact rdll_nil⟩, hbw⟩
end Go.Proofs.Ytmaiiigijjfjfaa
set_option linter.unusedVariables false
set_option linter.unusedSimpArgs false
namespace Go.Proofs.Ytmaiiigijjfjfaa
open Go Go.RowKit
/-! ### An order of lists -/
def lessL : List Int → List Int → Bool
  | x :: a, y :: b => if x = y then lessL a b else decide (x < y)
  | _, _ => false
theorem less_asymm : ∀ {a b : List Int}, lessL a b = true → lessL b a = true → False
  | [], _, h, _ => by simp [lessL] at h
  | _ :: _, [], h, _ => by simp [lessL] at h
  | x :: a, y :: b, h, k => by
    unfold lessL at h k
    by_cases e : x = y
    · subst e
      rw [if_pos rfl] at h k
      exact less_asymm h k
    · rw [if_neg e] at h
      rw [if_neg (Ne.symm e)] at k
      have := of_decide_eq_true h
      have := of_decide_eq_true k
      omega
theorem less_trans : ∀ {a b c : List Int}, lessL a b = true → lessL b c = true → lessL a c = true
  | [], _, _, h, _ => by simp [lessL] at h
  | _ :: _, [], _, h, _ => by simp [lessL] at h
  | _ :: _, _ :: _, [], _, h => by simp [lessL] at h
  | x :: a, y :: b, z :: c, h, k => by
    unfold lessL at h k ⊢
    by_cases e : x = y
    · subst e
      rw [if_pos rfl] at h
      by_cases e2 : x = z
      · subst e2
        rw [if_pos rfl] at k ⊢
        exact less_trans h k
      · rw [if_neg e2] at k ⊢
        exact k
    · rw [if_neg e] at h
      have h1 := of_decide_eq_true h
      by_cases e2 : y = z
      · subst e2
        rw [if_neg e]
        exact h
      · rw [if_neg e2] at k
        have h2 := of_decide_eq_true k
        rw [if_neg (by omega)]
        exact decide_eq_true (by omega)
theorem less_total : ∀ {a b : List Int}, a.length = b.length → a ≠ b → lessL a b = true ∨ lessL b a = true
  | [], [], _, h => absurd rfl h
  | [], _ :: _, h, _ => by simp at h
  | _ :: _, [], h, _ => by simp at h
  | x :: a, y :: b, hl, hne => by
    unfold lessL
    by_cases e : x = y
    · subst e
      rw [if_pos rfl, if_pos rfl]
      exact less_total (by simpa using hl) (fun e => hne (by rw [e]))
    · rw [if_neg e, if_neg (Ne.symm e)]
      by_cases h : x < y
      · exact .inl (decide_eq_true h)
      · exact .inr (decide_eq_true (by omega))
theorem less_pre {a b : Int} (h : a < b) (x y : List Int) : ∀ pre : List Int, lessL (pre ++ a :: x) (pre ++ b :: y) = true
  | [] => by
    show lessL (a :: x) (b :: y) = true
    unfold lessL
    rw [if_neg (by omega)]
    exact decide_eq_true h
  | c :: pre => by
    show lessL (c :: (pre ++ a :: x)) (c :: (pre ++ b :: y)) = true
    unfold lessL
    rw [if_pos rfl]
    exact less_pre h x y pre
theorem sorted_eq : ∀ {l m : List (List Int)}, l.Pairwise (fun a b => lessL a b = true) → m.Pairwise (fun a b => lessL a b = true) → (∀ x, x ∈ l ↔ x ∈ m) → l = m
  | [], [], _, _, _ => rfl
  | [], b :: m, _, _, h => absurd ((h b).2 List.mem_cons_self) (by simp)
  | a :: l, [], _, _, h => absurd ((h a).1 List.mem_cons_self) (by simp)
  | a :: l, b :: m, hl, hm, h => by
    rw [List.pairwise_cons] at hl hm
    have irr : ∀ x : List Int, ¬lessL x x = true := fun x hx => less_asymm hx hx
    have e : a = b := by
      rcases List.mem_cons.1 ((h a).1 List.mem_cons_self) with e | h1
      · exact e
      · rcases List.mem_cons.1 ((h b).2 List.mem_cons_self) with e | h2
        · exact e.symm
        · exact (less_asymm (hm.1 a h1) (hl.1 b h2)).elim
    subst e
    rw [sorted_eq hl.2 hm.2 fun x => ⟨fun hx => by
      rcases List.mem_cons.1 ((h x).1 (List.mem_cons_of_mem _ hx)) with e | h1
      · subst e; exact absurd (hl.1 x hx) (irr x)
      · exact h1, fun hx => by
      rcases List.mem_cons.1 ((h x).2 (List.mem_cons_of_mem _ hx)) with e | h1
      · subst e; exact absurd (hm.1 x hx) (irr x)
      · exact h1⟩]
/-! ### Sets as numbers -/
def bitsTo (s : Nat) : Nat → List Int
  | 0 => []
  | k + 1 => bitsTo s k ++ (if bitN s k = true then [((k : Nat) : Int)] else [])
theorem bitN_test (s i : Nat) : bitN s i = s.testBit i := by rw [bitN, Nat.testBit_eq_decide_div_mod_eq]
theorem bitsTo_mem (s : Nat) : ∀ (n : Nat) (x : Int), x ∈ bitsTo s n ↔ ∃ i : Nat, i < n ∧ bitN s i = true ∧ x = (i : Int)
  | 0, x => by simp [bitsTo]
  | n + 1, x => by
    rw [bitsTo, List.mem_append, bitsTo_mem s n x]
    constructor
    · rintro (⟨i, h1, h2, h3⟩ | h)
      · exact ⟨i, by omega, h2, h3⟩
      · split at h
        · next hb => exact ⟨n, by omega, hb, List.mem_singleton.1 h⟩
        · cases h
    · rintro ⟨i, h1, h2, h3⟩
      by_cases e : i = n
      · subst e
        rw [if_pos h2]
        exact .inr (List.mem_singleton.2 h3)
      · exact .inl ⟨i, by omega, h2, h3⟩
def goodS (n : Nat) (y : List Int) : Prop := y.Pairwise (· < ·) ∧ ∀ a ∈ y, 0 ≤ a ∧ a < (n : Nat)
theorem bitsTo_good (s : Nat) : ∀ n, goodS n (bitsTo s n)
  | 0 => ⟨List.Pairwise.nil, fun a h => by cases h⟩
  | n + 1 => by
    obtain ⟨h1, h2⟩ := bitsTo_good s n
    rw [bitsTo]
    split
    · refine ⟨List.pairwise_append.2 ⟨h1, List.pairwise_singleton _ _, fun a ha b hb => ?_⟩, fun a ha => ?_⟩
      · rw [List.mem_singleton.1 hb]; exact (h2 a ha).2
      · rcases List.mem_append.1 ha with h | h
        · have := h2 a h; omega
        · rw [List.mem_singleton.1 h]; omega
    · rw [List.append_nil]
      exact ⟨h1, fun a ha => by have := h2 a ha; omega⟩
theorem bitsTo_low {s n : Nat} (t : Nat) : ∀ k, k ≤ n → bitsTo (2 ^ n + s) k = bitsTo s k
  | 0, _ => rfl
  | k + 1, h => by
    rw [bitsTo, bitsTo, bitsTo_low t k (by omega), bitN_test, bitN_test, Nat.testBit_two_pow_add_gt (by omega)]
theorem good_bits : ∀ (n : Nat) (y : List Int), goodS n y → ∃ s, s < 2 ^ n ∧ bitsTo s n = y
  | 0, y, h => ⟨0, by simp, by
    cases y with
    | nil => rfl
    | cons a l => have := h.2 a List.mem_cons_self; omega⟩
  | n + 1, y, h => by
    by_cases hn : ((n : Nat) : Int) ∈ y
    · obtain ⟨a, b, rfl⟩ := List.append_of_mem hn
      obtain ⟨hp, hm⟩ := h
      rw [List.pairwise_append, List.pairwise_cons] at hp
      have hb : b = [] := by
        cases b with
        | nil => rfl
        | cons z b =>
          have h1 := hp.2.1.1 z List.mem_cons_self
          have h2 := hm z (by simp)
          omega
      subst hb
      obtain ⟨s, hs, e⟩ := good_bits n a ⟨hp.1, fun z hz => ⟨(hm z (by simp [hz])).1, hp.2.2 z hz _ (by simp)⟩⟩
      refine ⟨2 ^ n + s, by rw [Nat.pow_succ]; omega, ?_⟩
      rw [bitsTo, bitsTo_low 0 n (Nat.le_refl _), e, bitN_test, Nat.testBit_two_pow_add_eq, Nat.testBit_lt_two_pow hs]
      rfl
    · have hg : goodS n y := ⟨h.1, fun a ha => by
        have h1 := h.2 a ha
        refine ⟨h1.1, ?_⟩
        by_cases e : a = ((n : Nat) : Int)
        · subst e; exact absurd ha hn
        · omega⟩
      obtain ⟨s, hs, e⟩ := good_bits n y hg
      refine ⟨s, by rw [Nat.pow_succ]; omega, ?_⟩
      rw [bitsTo, e, bitN_test, Nat.testBit_lt_two_pow hs]
      simp
theorem bits_inj {s t n : Nat} (hs : s < 2 ^ n) (ht : t < 2 ^ n) (h : bitsTo s n = bitsTo t n) : s = t := by
  refine Nat.eq_of_testBit_eq fun i => ?_
  by_cases hi : i < n
  · rw [← bitN_test, ← bitN_test]
    have h1 := bitsTo_mem s n i
    have h2 := bitsTo_mem t n i
    rw [h] at h1
    have h3 := h1.symm.trans h2
    cases e1 : bitN s i <;> cases e2 : bitN t i
    · rfl
    · obtain ⟨j, _, hj, e⟩ := h3.2 ⟨i, hi, e2, rfl⟩
      rw [show j = i by omega, e1] at hj; cases hj
    · obtain ⟨j, _, hj, e⟩ := h3.1 ⟨i, hi, e1, rfl⟩
      rw [show j = i by omega, e2] at hj; cases hj
    · rfl
  · rw [Nat.testBit_lt_two_pow (Nat.lt_of_lt_of_le hs (Nat.pow_le_pow_right (by omega) (by omega))), Nat.testBit_lt_two_pow (Nat.lt_of_lt_of_le ht (Nat.pow_le_pow_right (by omega) (by omega)))]
/-! ### The sets of a size -/
theorem setsP_mem (n : Nat) : ∀ (d : Nat) (pre : List Int) (next : Nat) (x : List Int), x ∈ setsP n d pre next ↔ ∃ y, x = pre ++ y ∧ y.length = d ∧ y.Pairwise (· < ·) ∧ ∀ a ∈ y, ((next : Nat) : Int) ≤ a ∧ a < (n : Nat)
  | 0, pre, next, x => by
    simp only [setsP, List.mem_singleton]
    constructor
    · rintro rfl
      exact ⟨[], by simp, rfl, List.Pairwise.nil, fun a h => by cases h⟩
    · rintro ⟨y, rfl, hl, _⟩
      rw [List.eq_nil_of_length_eq_zero hl]; simp
  | d + 1, pre, next, x => by
    unfold setsP
    rw [mem_flatR]
    constructor
    · rintro ⟨k, hk, hx⟩
      obtain ⟨y, rfl, hl, hp, hm⟩ := (setsP_mem n d _ _ x).1 hx
      refine ⟨((next + k : Nat) : Int) :: y, by simp, by simp [hl], List.pairwise_cons.2 ⟨fun a ha => ?_, hp⟩, fun a ha => ?_⟩
      · have := hm a ha; omega
      · rcases List.mem_cons.1 ha with rfl | h
        · omega
        · have := hm a h; omega
    · rintro ⟨y, rfl, hl, hp, hm⟩
      cases y with
      | nil => simp at hl
      | cons a y =>
        rw [List.pairwise_cons] at hp
        have ha := hm a List.mem_cons_self
        obtain ⟨k, hk⟩ : ∃ k : Nat, a = ((next + k : Nat) : Int) := ⟨(a - next).toNat, by omega⟩
        subst hk
        refine ⟨k, by omega, (setsP_mem n d _ _ _).2 ⟨y, by simp, by simpa using hl, hp.2, fun b hb => ?_⟩⟩
        have := hp.1 b hb
        have := hm b (List.mem_cons_of_mem _ hb)
        omega
theorem setsP_sorted (n : Nat) : ∀ (d : Nat) (pre : List Int) (next : Nat), (setsP n d pre next).Pairwise (fun a b => lessL a b = true)
  | 0, pre, next => List.pairwise_singleton _ _
  | d + 1, pre, next => by
    unfold setsP
    have h : ∀ m, ((List.range m).flatMap fun k => setsP n d (pre ++ [((next + k : Nat) : Int)]) (next + k + 1)).Pairwise (fun a b => lessL a b = true) := by
      intro m
      induction m with
      | zero => exact List.Pairwise.nil
      | succ m ih =>
        rw [range_flat]
        refine List.pairwise_append.2 ⟨ih, setsP_sorted n d _ _, fun a ha b hb => ?_⟩
        obtain ⟨k, hk, ha⟩ := mem_flatR.1 ha
        obtain ⟨x, rfl, _⟩ := (setsP_mem n d _ _ a).1 ha
        obtain ⟨y, rfl, _⟩ := (setsP_mem n d _ _ b).1 hb
        rw [List.append_assoc, List.append_assoc]
        exact less_pre (by omega) x y pre
    exact h _
theorem wrongAt_sorted (c : Case) (m : Nat) : (wrongAt c m).Pairwise (fun a b => lessL a b = true) := (setsP_sorted _ _ _ _).filter _
theorem wrongAt_mem {c : Case} {m : Nat} {x : List Int} : x ∈ wrongAt c m ↔ goodS c.clues.length x ∧ x.length = m ∧ hasW c x = true := by
  unfold wrongAt
  rw [List.mem_filter, setsP_mem]
  constructor
  · rintro ⟨⟨y, rfl, hl, hp, hm⟩, hw⟩
    exact ⟨⟨by simpa using hp, fun a ha => by have := hm a (by simpa using ha); omega⟩, by simpa using hl, hw⟩
  · rintro ⟨⟨hp, hm⟩, hl, hw⟩
    exact ⟨⟨x, by simp, hl, hp, fun a ha => by have := hm a ha; omega⟩, hw⟩
/-! ### What is left out -/
theorem without_pre {c : Case} {set : List Int} {k : Nat} : ∀ {d : Nat}, withoutL c set k <+: withoutL c set (k + d)
  | 0 => List.prefix_rfl
  | d + 1 => by
    rw [show k + (d + 1) = k + d + 1 by omega, withoutL]
    exact (without_pre (d := d)).trans (List.prefix_append _ _)
theorem flat_empty {α : Type} {f : Nat → List α} : ∀ n, (List.range n).flatMap f = [] ↔ ∀ k, k < n → f k = []
  | 0 => by simp
  | n + 1 => by
    rw [range_flat, List.append_eq_nil_iff, flat_empty n]
    constructor
    · rintro ⟨h1, h2⟩ k hk
      by_cases e : k = n
      · subst e; exact h2
      · exact h1 k (by omega)
    · intro h
      exact ⟨fun k hk => h k (by omega), h n (by omega)⟩
theorem rcrs_without {c : Case} {s n : Nat} (hn : n = c.clues.length) {set : List Int} (hset : ∀ k, k < n → (((k : Nat) : Int) ∈ set ↔ bitN s k = true)) :
    ∀ (d : Nat) (pre pre' : List Int), pre.length + d = n → pre'.length = (withoutL c set pre.length).length → linksOf (withoutC c set) pre' = linksOf c pre → (rcrs c s d pre = [] ↔ rcrs (withoutC c set) 0 ((withoutL c set n).length - pre'.length) pre' = [])
  | 0, pre, pre', hd, hl, hlk => by
    have e : pre.length = n := by omega
    rw [hl, e, Nat.sub_self]
    unfold rcrs
    have h : okC (withoutC c set) pre' = okC c pre := by
      unfold okC
      rw [hlk]
      rfl
    rw [h]
    split <;> simp
  | d + 1, pre, pre', hd, hl, hlk => by
    have hk : pre.length < n := by omega
    cases hb : bitN s pre.length
    · have hns : ¬((pre.length : Nat) : Int) ∈ set := fun h => by rw [(hset _ hk).1 h] at hb; cases hb
      have hsu := without_succ_out (c := c) hns
      obtain ⟨rest, hrest⟩ := without_pre (c := c) (set := set) (k := pre.length + 1) (d := n - (pre.length + 1))
      rw [show pre.length + 1 + (n - (pre.length + 1)) = n by omega, hsu] at hrest
      have hlen : (withoutL c set n).length = pre'.length + 1 + rest.length := by
        rw [← hrest, List.length_append, List.length_append, List.length_singleton, hl]
      have hcl : (withoutC c set).clues.getD pre'.length [] = c.clues.getD pre.length [] := by
        show (withoutL c set c.clues.length).getD pre'.length [] = _
        rw [← hn, ← hrest, hl]
        simp [List.getD, List.getElem?_append]
      have hopt : optN (withoutC c set) pre' = optN c pre := by
        unfold optN
        rw [hcl]
      obtain ⟨d', hd'⟩ : ∃ d', (withoutL c set n).length - pre'.length = d' + 1 := ⟨rest.length, by omega⟩
      rw [rcrs_in hb, hd', rcrs_in (bitN_zero _), flat_empty, flat_empty, hopt]
      have step : ∀ k, rcrs c s d (pre ++ [((k : Nat) : Int)]) = [] ↔ rcrs (withoutC c set) 0 d' (pre' ++ [((k : Nat) : Int)]) = [] := fun k => by
        have := rcrs_without hn hset d (pre ++ [((k : Nat) : Int)]) (pre' ++ [((k : Nat) : Int)]) (by simp; omega) (by rw [List.length_append, List.length_append, List.length_singleton, hsu, List.length_append, hl]; rfl) (by
          rw [linksOf_app, linksOf_app, hlk, if_neg (by omega), if_neg (by omega)]
          congr 1
          unfold optAt
          rw [hcl]
          rfl)
        rw [this, List.length_append, List.length_singleton, show (withoutL c set n).length - (pre'.length + 1) = d' by omega]
      exact ⟨fun h k hk => (step k).1 (h k hk), fun h k hk => (step k).2 (h k hk)⟩
    · have hs : ((pre.length : Nat) : Int) ∈ set := (hset _ hk).2 hb
      rw [rcrs_out hb]
      exact rcrs_without hn hset d (pre ++ [-1]) pre' (by simp; omega) (by rw [List.length_append, List.length_singleton, without_succ_in hs]; exact hl) (by
        rw [linksOf_app, hlk]
        simp)
/-- a set leaves a course just if the reference finds one -/
theorem has_bits {c : Case} (hc : caseB c = true) (s : Nat) : hasW c (bitsTo s c.clues.length) = true ↔ rcrs c s c.clues.length [] ≠ [] := by
  have hw := without_ok (set := bitsTo s c.clues.length) hc
  have h := rcrs_without (c := c) (s := s) rfl (set := bitsTo s c.clues.length) (fun k hk => by
    rw [bitsTo_mem]
    constructor
    · rintro ⟨i, _, h1, h2⟩
      rw [show k = i by omega]; exact h1
    · intro h1
      exact ⟨k, hk, h1, rfl⟩) c.clues.length [] [] (by simp) rfl (by rfl)
  unfold hasW hasC
  rw [← rcrs_courses hw]
  rw [List.length_nil, Nat.sub_zero] at h
  rw [show (withoutC c (bitsTo s c.clues.length)).clues.length = (withoutL c (bitsTo s c.clues.length) c.clues.length).length from rfl, Bool.not_eq_true', List.isEmpty_eq_false_iff]
  exact not_congr h.symm
/-! ### The reference's search -/
/-- how many of the first ones are before a list -/
def atL (l : List Int) : List (List Int) → Nat
  | [] => 0
  | x :: b => if lessL x l = true then atL l b + 1 else 0
def insL_ (b : List (List Int)) (l : List Int) : List (List Int) := b.take (atL l b) ++ [l] ++ b.drop (atL l b)
def skipW (c : Case) (b : List (List Int)) (s : Nat) : Bool := (decide (0 < b.length) && decide ((b.getD 0 []).length < (bitsTo s c.clues.length).length)) || (rcrs c s c.clues.length []).isEmpty
def cutW (c : Case) (b : List (List Int)) (s : Nat) : List (List Int) := if (decide (0 < b.length) && decide ((bitsTo s c.clues.length).length < (b.getD 0 []).length)) = true then [] else b
def stepW (c : Case) (b : List (List Int)) (s : Nat) : List (List Int) := if skipW c b s = true then b else insL_ (cutW c b s) (bitsTo s c.clues.length)
def refW (c : Case) : Nat → List (List Int)
  | 0 => []
  | k + 1 => stepW c (refW c k) k
theorem ins_mem {b : List (List Int)} {l x : List Int} : x ∈ insL_ b l ↔ x = l ∨ x ∈ b := by
  unfold insL_
  rw [List.mem_append, List.mem_append, List.mem_singleton]
  constructor
  · rintro ((h | h) | h)
    · exact .inr (List.mem_of_mem_take h)
    · exact .inl h
    · exact .inr (List.mem_of_mem_drop h)
  · rintro (h | h)
    · exact .inl (.inr h)
    · rw [← List.take_append_drop (atL l b) b, List.mem_append] at h
      rcases h with h | h
      · exact .inl (.inl h)
      · exact .inr h
theorem at_less {l : List Int} : ∀ {b : List (List Int)}, ∀ x ∈ b.take (atL l b), lessL x l = true
  | [], x, h => by simp at h
  | y :: b, x, h => by
    unfold atL at h
    split at h
    · next hy =>
      rw [List.take_succ_cons, List.mem_cons] at h
      rcases h with rfl | h
      · exact hy
      · exact at_less x h
    · simp at h
theorem at_more {l : List Int} : ∀ {b : List (List Int)}, b.Pairwise (fun a b => lessL a b = true) → (∀ x ∈ b, x.length = l.length ∧ x ≠ l) → ∀ x ∈ b.drop (atL l b), lessL l x = true
  | [], _, _, x, h => by simp at h
  | y :: b, hp, hl, x, h => by
    unfold atL at h
    rw [List.pairwise_cons] at hp
    split at h
    · rw [List.drop_succ_cons] at h
      exact at_more hp.2 (fun x hx => hl x (List.mem_cons_of_mem _ hx)) x h
    · next hy =>
      have h1 := hl y List.mem_cons_self
      have h2 : lessL l y = true := (less_total h1.1 h1.2).resolve_left hy
      rw [List.drop_zero, List.mem_cons] at h
      rcases h with rfl | h
      · exact h2
      · exact less_trans h2 (hp.1 x h)
theorem ins_sorted {b : List (List Int)} {l : List Int} (hp : b.Pairwise (fun a b => lessL a b = true)) (hl : ∀ x ∈ b, x.length = l.length ∧ x ≠ l) : (insL_ b l).Pairwise (fun a b => lessL a b = true) := by
  unfold insL_
  have hsp := hp
  rw [← List.take_append_drop (atL l b) b, List.pairwise_append] at hsp
  rw [List.append_assoc]
  refine List.pairwise_append.2 ⟨hsp.1, ?_, fun a ha d hd => ?_⟩
  · rw [List.singleton_append, List.pairwise_cons]
    exact ⟨at_more hp hl, hsp.2.1⟩
  · rw [List.singleton_append, List.mem_cons] at hd
    rcases hd with rfl | h
    · exact at_less a ha
    · exact hsp.2.2 a ha d h
structure InvW (c : Case) (k : Nat) (b : List (List Int)) : Prop where
  sound : ∀ x ∈ b, ∃ s, s < k ∧ rcrs c s c.clues.length [] ≠ [] ∧ x = bitsTo s c.clues.length ∧ ∀ t, t < k → rcrs c t c.clues.length [] ≠ [] → x.length ≤ (bitsTo t c.clues.length).length
  full : ∀ s, s < k → rcrs c s c.clues.length [] ≠ [] → (∀ t, t < k → rcrs c t c.clues.length [] ≠ [] → (bitsTo s c.clues.length).length ≤ (bitsTo t c.clues.length).length) → bitsTo s c.clues.length ∈ b
  some : ∀ s, s < k → rcrs c s c.clues.length [] ≠ [] → b ≠ []
  sorted : b.Pairwise (fun a b => lessL a b = true)
theorem InvW.len {c : Case} {k : Nat} {b : List (List Int)} (h : InvW c k b) {x y : List Int} (hx : x ∈ b) (hy : y ∈ b) : x.length = y.length := by
  obtain ⟨s, h1, h2, e1, h3⟩ := h.sound x hx
  obtain ⟨t, k1, k2, e2, k3⟩ := h.sound y hy
  have a := h3 t k1 k2
  have b := k3 s h1 h2
  rw [← e2] at a
  rw [← e1] at b
  omega
theorem refW_inv (c : Case) : ∀ k, k ≤ 2 ^ c.clues.length → InvW c k (refW c k)
  | 0, _ => ⟨fun x h => (nomatch h), fun s h => absurd h (by omega), fun s h => absurd h (by omega), List.Pairwise.nil⟩
  | k + 1, hk => by
    have ih := refW_inv c k (by omega)
    rw [refW]
    generalize refW c k = b at ih ⊢
    have hhead : ∀ x ∈ b, x.length = (b.getD 0 []).length := fun x hx => by
      cases b with
      | nil => cases hx
      | cons y b => exact ih.len hx List.mem_cons_self
    unfold stepW
    by_cases hs : skipW c b k = true
    · rw [if_pos hs]
      unfold skipW at hs
      rw [Bool.or_eq_true, Bool.and_eq_true, decide_eq_true_eq, decide_eq_true_eq, List.isEmpty_iff] at hs
      have hns : ∀ {s : Nat}, s < k + 1 → rcrs c s c.clues.length [] ≠ [] → (s < k ∨ (s = k ∧ 0 < b.length ∧ (b.getD 0 []).length < (bitsTo k c.clues.length).length)) := @fun s h1 h2 => by
        rcases Nat.lt_or_ge s k with h | h
        · exact .inl h
        · obtain rfl : s = k := by omega
          rcases hs with h3 | h3
          · exact .inr ⟨rfl, h3⟩
          · exact absurd h3 h2
      refine ⟨fun x hx => ?_, fun s h1 h2 h3 => ?_, fun s h1 h2 => ?_, ih.sorted⟩
      · obtain ⟨s, a1, a2, a3, a4⟩ := ih.sound x hx
        refine ⟨s, by omega, a2, a3, fun t t1 t2 => ?_⟩
        rcases hns t1 t2 with h | ⟨rfl, _, h⟩
        · exact a4 t h t2
        · have := hhead x hx; omega
      · rcases hns h1 h2 with h | ⟨rfl, h0, h⟩
        · exact ih.full s h h2 fun t t1 t2 => h3 t (by omega) t2
        · exfalso
          have hm : b.getD 0 [] ∈ b := by
            rw [show b.getD 0 [] = b[0] by simp [List.getD, h0]]
            exact List.getElem_mem h0
          obtain ⟨t, t1, t2, t3, _⟩ := ih.sound _ hm
          have := h3 t (by omega) t2
          rw [← t3] at this
          omega
      · rcases hns h1 h2 with h | ⟨rfl, h0, _⟩
        · exact ih.some s h h2
        · exact List.ne_nil_of_length_pos h0
    · rw [if_neg hs]
      unfold skipW at hs
      rw [Bool.or_eq_true, Bool.and_eq_true, decide_eq_true_eq, decide_eq_true_eq, List.isEmpty_iff, not_or] at hs
      obtain ⟨hs1, hs2⟩ := hs
      have hlt : ∀ {t}, t < k → bitsTo t c.clues.length ≠ bitsTo k c.clues.length := fun h e => by
        have := bits_inj (by omega) (by omega) e
        omega
      unfold cutW
      by_cases hcut : (decide (0 < b.length) && decide ((bitsTo k c.clues.length).length < (b.getD 0 []).length)) = true
      · rw [if_pos hcut]
        rw [Bool.and_eq_true, decide_eq_true_eq, decide_eq_true_eq] at hcut
        obtain ⟨h0, hc2⟩ := hcut
        have hm : b.getD 0 [] ∈ b := by
          rw [show b.getD 0 [] = b[0] by simp [List.getD, h0]]
          exact List.getElem_mem h0
        have hmin : ∀ t, t < k → rcrs c t c.clues.length [] ≠ [] → (bitsTo k c.clues.length).length < (bitsTo t c.clues.length).length := fun t t1 t2 => by
          obtain ⟨s, _, _, _, a4⟩ := ih.sound _ hm
          have := a4 t t1 t2
          omega
        have e : insL_ [] (bitsTo k c.clues.length) = [bitsTo k c.clues.length] := rfl
        rw [e]
        refine ⟨fun x hx => ?_, fun s h1 h2 h3 => ?_, fun s h1 h2 => by simp, List.pairwise_singleton _ _⟩
        · rw [List.mem_singleton.1 hx]
          refine ⟨k, by omega, hs2, rfl, fun t t1 t2 => ?_⟩
          by_cases e : t = k
          · subst e; exact Nat.le_refl _
          · exact Nat.le_of_lt (hmin t (by omega) t2)
        · by_cases e : s = k
          · subst e; exact List.mem_singleton.2 rfl
          · have h4 := h3 k (by omega) hs2
            have h5 := hmin s (by omega) h2
            omega
      · rw [if_neg hcut]
        rw [Bool.and_eq_true, decide_eq_true_eq, decide_eq_true_eq] at hcut
        have heq : ∀ x ∈ b, x.length = (bitsTo k c.clues.length).length := fun x hx => by
          have h0 : 0 < b.length := List.length_pos_of_mem hx
          have := hhead x hx
          omega
        refine ⟨fun x hx => ?_, fun s h1 h2 h3 => ?_, fun s h1 h2 => List.ne_nil_of_mem (ins_mem.2 (.inl rfl)), ins_sorted ih.sorted fun x hx => ⟨heq x hx, fun e => ?_⟩⟩
        · rcases ins_mem.1 hx with rfl | h
          · refine ⟨k, by omega, hs2, rfl, fun t t1 t2 => ?_⟩
            by_cases e : t = k
            · subst e; exact Nat.le_refl _
            · have hb := ih.some t (by omega) t2
              obtain ⟨y, hy⟩ := List.exists_mem_of_ne_nil _ hb
              obtain ⟨_, _, _, _, a4⟩ := ih.sound y hy
              rw [← heq y hy]
              exact a4 t (by omega) t2
          · obtain ⟨s, a1, a2, a3, a4⟩ := ih.sound x h
            refine ⟨s, by omega, a2, a3, fun t t1 t2 => ?_⟩
            by_cases e : t = k
            · subst e; exact Nat.le_of_eq (heq x h)
            · exact a4 t (by omega) t2
        · by_cases e : s = k
          · subst e; exact ins_mem.2 (.inl rfl)
          · exact ins_mem.2 (.inr (ih.full s (by omega) h2 fun t t1 t2 => h3 t (by omega) t2))
        · obtain ⟨s, a1, _, a3, _⟩ := ih.sound x hx
          exact hlt a1 (a3.symm.trans e)
/-- the reference finds what is found in order -/
theorem refW_wrong {c : Case} (hc : caseB c = true) : refW c (2 ^ c.clues.length) = wrongL c := by
  have hinv := refW_inv c _ (Nat.le_refl _)
  generalize refW c (2 ^ c.clues.length) = b at hinv ⊢
  -- the least size
  obtain ⟨m, hm, hne, hlow⟩ : ∃ m, m ≤ c.clues.length ∧ wrongAt c m ≠ [] ∧ ∀ i, i < m → wrongAt c i = [] := by
    have key : ∀ k, k ≤ c.clues.length → (∀ i, i < k → wrongAt c i = []) ∨ ∃ m, m ≤ c.clues.length ∧ wrongAt c m ≠ [] ∧ ∀ i, i < m → wrongAt c i = [] := by
      intro k
      induction k with
      | zero => intro _; exact .inl fun i hi => absurd hi (by omega)
      | succ k ih =>
        intro hk
        rcases ih (by omega) with h | h
        · by_cases e : wrongAt c k = []
          · exact .inl fun i hi => by
              by_cases e2 : i = k
              · subst e2; exact e
              · exact h i (by omega)
          · exact .inr ⟨k, by omega, e, h⟩
        · exact .inr h
    rcases key c.clues.length (Nat.le_refl _) with h | h
    · exact ⟨_, Nat.le_refl _, wrong_last hc, h⟩
    · exact h
  rw [wrong_is hne hm hlow]
  have hP : ∀ s, s < 2 ^ c.clues.length → rcrs c s c.clues.length [] ≠ [] → m ≤ (bitsTo s c.clues.length).length := fun s hs h => by
    rcases Nat.lt_or_ge (bitsTo s c.clues.length).length m with h1 | h1
    · have := hlow _ h1
      have h2 : bitsTo s c.clues.length ∈ wrongAt c (bitsTo s c.clues.length).length := wrongAt_mem.2 ⟨bitsTo_good _ _, rfl, (has_bits hc s).2 h⟩
      rw [this] at h2
      cases h2
    · exact h1
  refine sorted_eq hinv.sorted (wrongAt_sorted _ _) fun x => ⟨fun hx => ?_, fun hx => ?_⟩
  · obtain ⟨s, h1, h2, rfl, h3⟩ := hinv.sound x hx
    obtain ⟨y, hy⟩ := List.exists_mem_of_ne_nil _ hne
    obtain ⟨hg, hl, hw⟩ := wrongAt_mem.1 hy
    obtain ⟨t, ht, et⟩ := good_bits _ y hg
    have h4 := h3 t ht ((has_bits hc t).1 (by rw [et]; exact hw))
    rw [et, hl] at h4
    exact wrongAt_mem.2 ⟨bitsTo_good _ _, Nat.le_antisymm h4 (hP s h1 h2), (has_bits hc s).2 h2⟩
  · obtain ⟨hg, hl, hw⟩ := wrongAt_mem.1 hx
    obtain ⟨s, hs, es⟩ := good_bits _ x hg
    subst es
    exact hinv.full s hs ((has_bits hc s).1 hw) fun t ht h => by rw [hl]; exact hP t ht h
end Go.Proofs.Ytmaiiigijjfjfaa
set_option linter.unusedVariables false
set_option linter.unusedSimpArgs false
namespace Go.Proofs.Ytmaiiigijjfjfaa
open Go Go.RowKit
theorem refW_len (c : Case) : ∀ k, (refW c k).length ≤ k
  | 0 => Nat.le_refl _
  | k + 1 => by
    have ih := refW_len c k
    rw [refW, stepW]
    split
    · omega
    · unfold insL_
      have h1 : (cutW c (refW c k) k).length ≤ k := by
        unfold cutW
        split
        · simp
        · exact ih
      rw [List.length_append, List.length_append, List.length_singleton, List.length_take, List.length_drop]
      omega
theorem OwnLL.ins {W W' : World} {base k : Nat} {v v' vl : Value} {L : List (List Int)} {l : List Int} {fs : List Value} (h : OwnLL W base v L fs) (hl : W.ownsRow 0 3 1 vl l.length (ints l)) (hb : Below W.heap.size W W') (hk : k ≤ L.length) (ho : W'.ownsRow base 26 1 v' (k + 1 + (L.length - k)) (fs.take k ++ [vl] ++ fs.drop k)) : OwnLL W' base v' (L.take k ++ [l] ++ L.drop k) (fs.take k ++ [vl] ++ fs.drop k) := by
  have hlen : (L.take k ++ [l] ++ L.drop k).length = k + 1 + (L.length - k) := by
    rw [List.length_append, List.length_append, List.length_take, List.length_drop, List.length_singleton, Nat.min_eq_left hk]
  have hf := h.len
  refine ⟨by rw [hlen, List.length_append, List.length_append, List.length_take, List.length_drop, List.length_singleton, hf, Nat.min_eq_left hk], by rw [hlen]; exact ho, fun i hi => ?_⟩
  rw [hlen] at hi
  have get : ∀ {α : Type} (m : List α) (y d : α), m.length = L.length → (m.take k ++ [y] ++ m.drop k).getD i d = if i < k then m.getD i d else if i = k then y else m.getD (i - 1) d := fun m y d hm => by
    have h1 : (m.take k).length = k := by rw [List.length_take]; omega
    rw [List.append_assoc, List.getD_eq_getElem?_getD, List.getElem?_append, h1]
    by_cases e1 : i < k
    · rw [if_pos e1, if_pos e1, List.getElem?_take, if_pos e1, List.getD_eq_getElem?_getD]
    · rw [if_neg e1, if_neg e1, List.singleton_append]
      by_cases e2 : i = k
      · rw [if_pos e2, e2, Nat.sub_self]; rfl
      · rw [if_neg e2, show i - k = (i - 1 - k) + 1 by omega, List.getElem?_cons_succ, List.getElem?_drop, show k + (i - 1 - k) = i - 1 by omega, List.getD_eq_getElem?_getD]
  rw [get L l [] rfl, get fs vl undef hf]
  by_cases e1 : i < k
  · rw [if_pos e1, if_pos e1]
    exact own_below (h.row i (by omega)) hb (Nat.le_refl _)
  · rw [if_neg e1, if_neg e1]
    by_cases e2 : i = k
    · rw [if_pos e2, if_pos e2]
      exact own_below hl hb (Nat.le_refl _)
    · rw [if_neg e2, if_neg e2]
      exact own_below (h.row (i - 1) (by omega)) hb (Nat.le_refl _)
end Go.Proofs.Ytmaiiigijjfjfaa
set_option linter.unusedVariables false
set_option linter.unusedSimpArgs false
namespace Go.Proofs.Ytmaiiigijjfjfaa
open Go Go.RowKit
section
variable {n : Nat} {σ : Sg} {w : World} {dst : Option Tmp} {ty : TypeId} {pos : String} {af : Array Edge} {g : Option (Nat × Bool)} {x y z : Operand} {at' : Array TypeId}
theorem cl_35 {x0 : Operand} {v0 : Value} (h0 : evS σ x0 = some v0) (a : Act) (ha : Env n σ a) : (execOp a.eval ⟨dst, .call { callee := .value (.func 35), args := #[x0], argTypes := at' }, ty, pos, af, g⟩).run Try.prog w = .ok (.enter 35 #[v0]) w := by
  simp only [execOp, resolve, List.map_toArray, List.map_cons, List.map_nil, ha.eval h0]
  simp [go_sem, Act.eval]
end
end Go.Proofs.Ytmaiiigijjfjfaa
set_option linter.unusedVariables false
set_option linter.unusedSimpArgs false
namespace Go.Proofs.Ytmaiiigijjfjfaa
open Go Go.RowKit
theorem wrong_to {c : Case} {E : Int} {L : List (List Int)} (he : wrgErr c = E) (hL : wrgRes c = L) (vc vl : Value) (vs : List Value) (w : World) (B : Nat) (hr : RdCase w B vc vl c vs) (hB : B ≤ w.heap.size) (hn1 : c.clocks.length ≤ 1073741824) (hn2 : c.clues.length ≤ 1073741824) :
    Calls Try.prog 35 #[.agg #[.int .i64 c.events, vc, vl]] w fun e w' => (∃ v vs', e = .returned (.tuple #[v, .int .i64 E]) ∧ RdLL iC 1 w' w'.heap.size v L vs') ∧ Below w.heap.size w w' := he ▸ hL ▸ wrong_any c vc vl vs w B hr hB hn1 hn2
theorem wrgRes_ok {c : Case} (h : wrgErr c = 0) : wrgRes c = wrongL c := if_pos h
theorem wrong_len {c : Case} (hc : caseB c = true) (h : c.clues.length ≤ 10) : (wrongL c).length ≤ 1024 := by
  rw [← refW_wrong hc]
  have h1 := refW_len c (2 ^ c.clues.length)
  have h2 : (2 : Nat) ^ c.clues.length ≤ 2 ^ 10 := Nat.pow_le_pow_right (by omega) h
  omega
end Go.Proofs.Ytmaiiigijjfjfaa
set_option linter.unusedVariables false
set_option linter.unusedSimpArgs false
namespace Go.Proofs.Ytmaiiigijjfjfaa
open Go Go.RowKit
section
variable {c : Case} {s t : List Int}
theorem without_congr : ∀ k, (∀ j : Nat, j < k → ((j : Int) ∈ s ↔ (j : Int) ∈ t)) → withoutL c s k = withoutL c t k
  | 0, _ => rfl
  | k + 1, h => by
    have ih := without_congr k fun j hj => h j (by omega)
    have hk := h k (by omega)
    by_cases e : ((k : Nat) : Int) ∈ s
    · rw [without_succ_in e, without_succ_in (hk.1 e), ih]
    · rw [without_succ_out e, without_succ_out (fun x => e (hk.2 x)), ih]
theorem take_at {k : Nat} (hk : k < c.clues.length) : c.clues.take (k + 1) = c.clues.take k ++ [c.clues.getD k []] := by
  rw [List.take_add_one]
  simp [List.getD, hk]
theorem without_sub : ∀ k, k ≤ c.clues.length → (withoutL c s k).Sublist (c.clues.take k)
  | 0, _ => by simp [withoutL]
  | k + 1, hk => by
    have ih := without_sub k (by omega)
    rw [take_at (by omega)]
    by_cases e : ((k : Nat) : Int) ∈ s
    · rw [without_succ_in e]
      exact ih.trans (List.sublist_append_left _ _)
    · rw [without_succ_out e]
      exact List.Sublist.append ih (List.Sublist.refl _)
theorem without_subW : (withoutL c s c.clues.length).Sublist c.clues := by
  have := without_sub (c := c) (s := s) _ (Nat.le_refl _)
  rwa [List.take_length] at this
/-- what is left out with more numbers is part of what is left out with fewer -/
theorem without_mono (h : ∀ x ∈ t, x ∈ s) : ∀ k, (withoutL c s k).Sublist (withoutL c t k)
  | 0 => by simp [withoutL]
  | k + 1 => by
    have ih := without_mono h k
    by_cases e : ((k : Nat) : Int) ∈ s
    · rw [without_succ_in e]
      exact ih.trans (List.sublist_append_left (withoutL c t k) _)
    · rw [without_succ_out e, without_succ_out (fun x => e (h _ x))]
      exact List.Sublist.append ih (List.Sublist.refl _)
theorem without_one (x : Int) : ∀ k : Nat, (withoutL c s k).length ≤ (withoutL c (x :: s) k).length + (if x < (k : Int) then 1 else 0)
  | 0 => by simp [withoutL]
  | k + 1 => by
    have ih := without_one x k
    by_cases e : ((k : Nat) : Int) ∈ s
    · rw [without_succ_in e, without_succ_in (List.mem_cons_of_mem _ e)]
      refine Nat.le_trans ih (Nat.add_le_add_left ?_ _)
      split <;> split <;> omega
    · by_cases ex : ((k : Nat) : Int) = x
      · rw [without_succ_out e, without_succ_in (by rw [ex]; exact List.mem_cons_self), List.length_append, List.length_singleton]
        rw [if_neg (by omega)] at ih
        rw [if_pos (by omega)]
        omega
      · rw [without_succ_out e, without_succ_out (by intro h; rcases List.mem_cons.1 h with h | h; exact ex h; exact e h), List.length_append, List.length_append]
        have : (if x < ((k : Nat) : Int) then 1 else 0) ≤ (if x < ((k + 1 : Nat) : Int) then 1 else 0) := by split <;> split <;> omega
        omega
theorem without_ge (k : Nat) : ∀ s : List Int, k ≤ (withoutL c s k).length + s.length
  | [] => by
    have : ∀ k, (withoutL c [] k).length = k := by
      intro k
      induction k with
      | zero => rfl
      | succ k ih => rw [without_succ_out (by simp), List.length_append, ih]; rfl
    rw [this]; simp
  | x :: s => by
    have ih := without_ge k s
    have h1 := without_one (c := c) (s := s) x k
    have h2 : (if x < ((k : Nat) : Int) then 1 else 0) ≤ 1 := by split <;> omega
    rw [List.length_cons]
    omega
theorem without_lt {x : Nat} (hx : ((x : Nat) : Int) ∈ s) : ∀ k, x < k → (withoutL c s k).length + 1 ≤ k
  | 0, h => by omega
  | k + 1, h => by
    by_cases e : x = k
    · subst e
      rw [without_succ_in hx]
      have := withoutL_len (c := c) (set := s) x
      omega
    · have ih := without_lt hx k (by omega)
      unfold withoutL
      rw [List.length_append]
      split <;> simp <;> omega
/-- each part of the clues is what a set leaves -/
theorem sub_set : ∀ (k : Nat), k ≤ c.clues.length → ∀ l : List (List Opt), l.Sublist (c.clues.take k) → ∃ y, goodS k y ∧ withoutL c y k = l ∧ y.length + l.length = k
  | 0, _, l, h => by
    rw [List.take_zero] at h
    obtain rfl := List.eq_nil_of_sublist_nil h
    exact ⟨[], ⟨List.Pairwise.nil, by simp⟩, rfl, rfl⟩
  | k + 1, hk, l, h => by
    rw [take_at (by omega), List.sublist_append_iff] at h
    obtain ⟨l1, l2, rfl, h1, h2⟩ := h
    obtain ⟨y, hg, hw, hn⟩ := sub_set k (by omega) l1 h1
    have hlast : l2 = [] ∨ l2 = [c.clues.getD k []] := by
      cases h2 with
      | cons _ h => exact .inl (List.eq_nil_of_sublist_nil h)
      | cons_cons _ h => rw [List.eq_nil_of_sublist_nil h]; exact .inr rfl
    rcases hlast with rfl | rfl
    · refine ⟨y ++ [((k : Nat) : Int)], ⟨List.pairwise_append.2 ⟨hg.1, List.pairwise_singleton _ _, fun a ha b hb => ?_⟩, fun a ha => ?_⟩, ?_, ?_⟩
      · rw [List.mem_singleton.1 hb]
        exact (hg.2 a ha).2
      · rcases List.mem_append.1 ha with h | h
        · have := hg.2 a h
          omega
        · rw [List.mem_singleton.1 h]
          omega
      · rw [without_succ_in (by simp), List.append_nil, ← hw]
        refine without_congr k fun j hj => ?_
        simp
        omega
      · simp
        omega
    · refine ⟨y, ⟨hg.1, fun a ha => ?_⟩, ?_, ?_⟩
      · have := hg.2 a ha
        omega
      · rw [without_succ_out (fun h => by have := hg.2 _ h; omega), hw]
      · simp
        omega
end
section
variable {c : Case}
theorem min_wrong (hc : caseB c = true) : ∃ m, m ≤ c.clues.length ∧ wrongL c = wrongAt c m ∧ wrongAt c m ≠ [] ∧ ∀ i, i < m → wrongAt c i = [] := by
  have h : ∀ k, (∀ i, i < k → wrongAt c i = []) ∨ ∃ m, m < k ∧ wrongAt c m ≠ [] ∧ ∀ i, i < m → wrongAt c i = [] := by
    intro k
    induction k with
    | zero => exact .inl fun i hi => absurd hi (Nat.not_lt_zero _)
    | succ k ih =>
      rcases ih with h | ⟨m, h1, h2⟩
      · by_cases e : wrongAt c k = []
        · exact .inl fun i hi => by
            by_cases e2 : i = k
            · rw [e2]; exact e
            · exact h i (by omega)
        · exact .inr ⟨k, by omega, e, h⟩
      · exact .inr ⟨m, by omega, h2⟩
  rcases h (c.clues.length + 1) with h | ⟨m, h1, h2, h3⟩
  · exact absurd (h _ (Nat.lt_succ_self _)) (wrong_last hc)
  · exact ⟨m, by omega, wrong_is h2 (by omega) h3, h2, h3⟩
/-- with more clues than a smallest set leaves, no course is possible -/
theorem min_sub {m : Nat} (hmin : ∀ i, i < m → wrongAt c i = []) {l : List (List Opt)} (hl : l.Sublist c.clues) (hn : c.clues.length < l.length + m) : hasC ⟨c.events, c.clocks, l⟩ = false := by
  obtain ⟨y, hg, hw, hy⟩ := sub_set c.clues.length (Nat.le_refl _) l (by rw [List.take_length]; exact hl)
  cases e : hasC ⟨c.events, c.clocks, l⟩ with
  | false => rfl
  | true =>
    have h := hmin y.length (by omega)
    have : y ∈ wrongAt c y.length := wrongAt_mem.2 ⟨hg, rfl, by unfold hasW withoutC; rw [hw]; exact e⟩
    rw [h] at this
    cases this
/-- the sets of a case without one clue of a smallest set -/
theorem wrong_less (hc : caseB c = true) {m : Nat} (hmin : ∀ i, i < m → wrongAt c i = []) {S : List Int} (hS : S ∈ wrongAt c m) {x : Nat} (hx : ((x : Nat) : Int) ∈ S) :
    ∃ m1, m1 + 1 = m ∧ wrongL (withoutC c [((x : Nat) : Int)]) = wrongAt (withoutC c [((x : Nat) : Int)]) m1 ∧ wrongAt (withoutC c [((x : Nat) : Int)]) m1 ≠ [] := by
  obtain ⟨hg, hlS, hw⟩ := wrongAt_mem.1 hS
  have hxn := (hg.2 _ hx).2
  have hd : caseB (withoutC c [((x : Nat) : Int)]) = true := without_ok hc
  obtain ⟨m1, hm1, hL, hne, hmn⟩ := min_wrong hd
  have hn1 : (withoutC c [((x : Nat) : Int)]).clues.length + 1 ≤ c.clues.length := without_lt (c := c) (s := [((x : Nat) : Int)]) (x := x) (by simp) _ (by omega)
  have hn2 : c.clues.length ≤ (withoutC c [((x : Nat) : Int)]).clues.length + 1 := without_ge (c := c) c.clues.length [((x : Nat) : Int)]
  refine ⟨m1, ?_, hL, hne⟩
  -- not more
  have a : m1 + 1 ≤ m := by
    have hT : (withoutL c S c.clues.length).Sublist (withoutC c [((x : Nat) : Int)]).clues := without_mono (fun y hy => by rw [List.mem_singleton.1 hy]; exact hx) _
    have hTl := without_ge (c := c) c.clues.length S
    rcases Nat.lt_or_ge m (m1 + 1) with h | h
    · have h2 : hasW c S = false := min_sub hmn hT (by omega)
      rw [h2] at hw
      cases hw
    · exact h
  -- not less
  have b : m ≤ m1 + 1 := by
    obtain ⟨y, hy⟩ := List.exists_mem_of_ne_nil _ hne
    obtain ⟨_, hyl, hyw⟩ := wrongAt_mem.1 hy
    have hT : (withoutL (withoutC c [((x : Nat) : Int)]) y (withoutC c [((x : Nat) : Int)]).clues.length).Sublist c.clues := without_subW.trans without_subW
    have hTl := without_ge (c := withoutC c [((x : Nat) : Int)]) (withoutC c [((x : Nat) : Int)]).clues.length y
    rcases Nat.lt_or_ge (m1 + 1) m with h | h
    · have h2 : hasW (withoutC c [((x : Nat) : Int)]) y = false := min_sub hmin hT (by omega)
      rw [h2] at hyw
      cases hyw
    · exact h
  omega
/-- a set without clues is alone -/
theorem wrong_zero : (wrongAt c 0).length ≤ 1 := by
  unfold wrongAt setsP
  exact Nat.le_trans (List.length_filter_le _ _) (Nat.le_refl _)
/-! ### How many courses -/
def prodL : List (List Opt) → Nat
  | [] => 1
  | x :: l => x.length * prodL l
theorem prodL_app (l : List (List Opt)) (x : List Opt) : prodL (l ++ [x]) = prodL l * x.length := by
  induction l with
  | nil => simp [prodL]
  | cons y l ih => rw [List.cons_append, prodL, prodL, ih, Nat.mul_assoc]
theorem prodTo_list {d : Case} : ∀ k, k ≤ d.clues.length → prodTo d k = prodL (d.clues.take k)
  | 0, _ => rfl
  | k + 1, hk => by rw [take_at (by omega), prodL_app, prodTo, prodTo_list k (by omega)]
theorem many_list (d : Case) : manyC d = prodL d.clues := by
  have := prodTo_list (d := d) _ (Nat.le_refl _)
  rwa [List.take_length] at this
theorem prodL_sub {l m : List (List Opt)} (h : l.Sublist m) : (∀ x ∈ m, 1 ≤ x.length) → prodL l ≤ prodL m := by
  induction h with
  | slnil => intro _; exact Nat.le_refl _
  | cons x h ih =>
    intro hm
    exact Nat.le_trans (ih fun y hy => hm y (List.mem_cons_of_mem _ hy)) (Nat.le_mul_of_pos_left _ (hm x List.mem_cons_self))
  | cons_cons x h ih =>
    intro hm
    exact Nat.mul_le_mul_left _ (ih fun y hy => hm y (List.mem_cons_of_mem _ hy))
theorem many_without {s : List Int} (h : ∀ x ∈ c.clues, 1 ≤ x.length) : manyC (withoutC c s) ≤ manyC c := by
  rw [many_list, many_list]
  exact prodL_sub without_subW h
theorem prodTo_le (h : ∀ i, i < c.clues.length → (c.clues.getD i []).length ≤ 5) : ∀ k, k ≤ c.clues.length → prodTo c k ≤ 5 ^ k
  | 0, _ => Nat.le_refl _
  | k + 1, hk => by
    rw [prodTo, Nat.pow_succ]
    exact Nat.mul_le_mul (prodTo_le h k (by omega)) (h k (by omega))
/-! ### Clues that are chosen -/
def someL (b : List Int) (i n : Nat) : Nat → List Int
  | 0 => []
  | k + 1 => if 0 < k then someL b i n k ++ [(((partI b (i + k)).toNat % n : Nat) : Int)] else someL b i n k
theorem someL_len {b : List Int} {i n : Nat} : ∀ k, (someL b i n k).length = k - 1
  | 0 => rfl
  | k + 1 => by
    rw [someL]
    by_cases h : 0 < k
    · rw [if_pos h, List.length_append, someL_len k, List.length_singleton]; omega
    · rw [if_neg h, someL_len k]; omega
/-- without fewer clues than a smallest set has, no course is possible -/
theorem fewer_none {m : Nat} (hmin : ∀ i, i < m → wrongAt c i = []) {s : List Int} (hs : s.length < m) : coursesL (withoutC c s) = [] := by
  have h := min_sub hmin (l := withoutL c s c.clues.length) without_subW (by have := without_ge (c := c) c.clues.length s; omega)
  unfold hasC at h
  have h2 : (coursesL (withoutC c s)).isEmpty = true := by
    have h3 : (!(coursesL (withoutC c s)).isEmpty) = false := h
    simpa using h3
  exact List.isEmpty_iff.1 h2
theorem wrong_some {S : List Int} (h : hasW c S = true) : coursesL (withoutC c S) ≠ [] := by
  intro e
  unfold hasW hasC at h
  rw [e] at h
  cases h
end
end Go.Proofs.Ytmaiiigijjfjfaa
namespace Go.Proofs.Ytmaiiigijjfjfaa
open Go Go.RowKit Go.Maps
/-- block b is a set of at most n numbers: those below 64 of which f tells -/
def SetAt (w : World) (b n : Nat) (f : Nat → Bool) : Prop :=
  ∃ D : DataW Unit, w.ownsMap Try.prog 3 (plainElem Try.prog 4) b n D ∧ IsMap D ∧ ∀ i : Nat, i < 64 → D.atKey (.int .i64 i) (.lit (.bool false)) = .lit (.bool (f i))
theorem plainElem_bool_inv {P : Program} {e : TypeId} (he : P.underlying e = some .bool) {v : Value} {x : Bool} {ps : List MemPlace} (h : plainElem (H := Unit) P e v = some (.lit (.bool x), ps)) : v = .bool x := by
  unfold plainElem at h
  rw [he] at h
  cases v <;> simp at h
  rw [h.1]
theorem key_wf {i : Nat} (h : i < 64) : (Lit.int .i64 (i : Int)).wf = true := WalkArith.wf_i64 (by omega)
section
variable {w w' : World} {b n : Nat} {f : Nat → Bool}
theorem SetAt.made (w : World) : SetAt (w.alloc (.map #[] 0)) w.heap.size 0 fun _ => false :=
  ⟨.map [], World.ownsMap_made _ _ _ _, isMap_empty, fun _ _ => rfl⟩
theorem SetAt.kept {row : Option Nat} (h : SetAt w b n f) (hg : w.grownBy w' row) (hne : some b ≠ row) : SetAt w' b n f := by
  obtain ⟨D, h1, h2, h3⟩ := h
  exact ⟨D, h1.kept hg hne, h2, h3⟩
theorem SetAt.lt (h : SetAt w b n f) : b < w.heap.size := by
  obtain ⟨D, h1, _⟩ := h
  exact h1.lt
theorem SetAt.map (h : SetAt w b n f) : ∃ es clock, w.heap[b]? = some (.map es clock) := by
  obtain ⟨D, ⟨es, clock, h, _⟩, _⟩ := h
  exact ⟨es, clock, h⟩
theorem SetAt.below (h : SetAt w b n f) (hb : Below w.heap.size w w') : SetAt w' b n f :=
  h.kept (row := none) ⟨hb.os, hb.tape, hb.output, hb.size, fun k hk _ => hb.block k hk⟩ (by simp)
/-- a box is another block -/
theorem SetAt.ne {g T : Nat} {cs : Array Value} (h : SetAt w b n f) (hq : Blk w g T cs) : b ≠ g := fun e => by
  obtain ⟨es, clock, h⟩ := h.map
  subst e
  unfold Blk at hq
  rw [hq] at h
  cases h
theorem SetAt.type {g T : Nat} {cs : Array Value} (h : SetAt w b n f) (hq : Blk w g T cs) (hg : w.grownBy w' (some g)) : SetAt w' b n f := h.kept hg fun e => h.ne hq (Option.some.inj e)
theorem SetAt.grown {base e size m : Nat} {u : Value} {xs : List Value} (h : SetAt w b n f) (hu : w.ownsRow base e size u m xs) (hg : w.grownBy w' u.ownBlock) : SetAt w' b n f := h.kept hg fun e => by
  obtain ⟨es, clock, hm⟩ := h.map
  obtain ⟨_, ⟨rfl, _⟩ | ⟨k, cap, cur, rfl, _, hk, _⟩⟩ := hu
  · cases e
  · have e1 : b = k := by simpa [Value.ownBlock] using e
    subst e1
    rw [hk] at hm
    cases hm
/-- what lies elsewhere while a set is written -/
theorem blk_set {g T : Nat} {cs : Array Value} (h : Blk w g T cs) (hs : SetAt w b n f) (hg : w.grownBy w' (some b)) : Blk w' g T cs := h.grown hg fun e => hs.ne h (Option.some.inj e).symm
theorem below_set {B : Nat} (hg : w.grownBy w' (some b)) (h1 : B ≤ b) (h2 : B ≤ w.heap.size) : Below B w w' := (Below.refl _ _).grown hg h2 fun g hk => by injection hk with hk; omega
theorem bool_zero (w : World) : (zeroValue 4).run Try.prog w = .ok (.bool false) w := by kernel_rfl
end
section
variable {n : Nat} {L : List Oper} {Q : Exit → Act → World → Prop} {rest : List Oper} {σ : Sg} {w : World}
theorem look_set {m i : Nat} {b : Nat} {f : Nat → Bool} {dst : Option Tmp} {ty : TypeId} {pos : String} {af : Array Edge} {g : Option (Nat × Bool)} {x y : Operand} {r : Bool} (hx : evS σ x = some (.map (some b))) (hy : evS σ y = some (.int .i64 (i : Nat))) (hs : SetAt w b m f) (hi : i < 64) (hr : f i = r) :
    Gives Try.prog n σ w ⟨dst, .lookup 78 x y false, ty, pos, af, g⟩ (.bool r) := fun a ha => by
  subst hr
  obtain ⟨D, h1, h2, h3⟩ := hs
  obtain ⟨v, ps, hrun, hv⟩ := h1.lookup (int_keyed Try.underlying3) Try.underlying78 (bool_zero w) (plainElem_bool Try.underlying4 false) (keyOf_int_mk Try.underlying3 (key_wf hi))
  rw [h3 i hi] at hv
  obtain rfl := plainElem_bool_inv Try.underlying4 hv
  simp only [execOp, ha.eval hx, ha.eval hy]
  simp [hrun, Result.andThen]
def putS (f : Nat → Bool) (i : Nat) : Nat → Bool := fun j => if j = i then true else f j
theorem run_putSet {b m : Nat} {f : Nat → Bool} (hs : SetAt w b m f) (hm : m ≤ 1048576) {i : Nat} (hi : i < 64) : ∃ w', (Instr.mapUpdate 78 (.map (some b)) (.int .i64 (i : Nat)) (.bool true)).run Try.prog w = .ok () w' ∧ SetAt w' b (m + 1) (putS f i) ∧ w.grownBy w' (some b) := by
  obtain ⟨D, h1, h2, h3⟩ := hs
  obtain ⟨w', hrun, h4, h5⟩ := h1.update (int_keyed Try.underlying3) Try.underlying78 (by simp only [maxLen]; omega) (keyOf_int_mk Try.underlying3 (key_wf hi)) (plainElem_bool Try.underlying4 true)
  refine ⟨w', hrun, ⟨_, h4, h2.put _ _, fun j hj => ?_⟩, h5⟩
  by_cases hji : j = i
  · subst hji
    rw [atKey_put_same h2 (by simp [WideAt.IsKeyLit]), putS, if_pos rfl]
  · rw [atKey_put_other (by simp; omega), putS, if_neg hji]
    exact h3 j hj
theorem EL.putSet {ty : Nat} {b m i : Nat} {f : Nat → Bool} {x y z : Operand} {pos : String} {af : Array Edge} (hx : evS σ x = some (.map (some b))) (hy : evS σ y = some (.int .i64 (i : Nat))) (hz : evS σ z = some (.bool true)) (hs : SetAt w b m f) (hm : m ≤ 1048576) (hi : i < 64)
    (next : ∀ w', SetAt w' b (m + 1) (putS f i) → w.grownBy w' (some b) → EL Try.prog n L Q rest σ w') : EL Try.prog n L Q (⟨none, .mapUpdate 78 x y z, ty, pos, af, none⟩ :: rest) σ w := fun a ha => by
  obtain ⟨w', hrun, h1, h2⟩ := run_putSet hs hm hi
  unfold wpList
  rw [if_pos (wanted_none rfl _)]
  left
  unfold Oper.wp
  have hr : (execOp a.eval ⟨none, .mapUpdate 78 x y z, ty, pos, af, none⟩).run Try.prog w = .ok .skip w' := by
    simp only [execOp, ha.eval hx, ha.eval hy, ha.eval hz]
    simp [hrun, Result.andThen]
  rw [hr, Oper.upon_skip]
  exact next w' h1 h2 a ha
theorem EL.newSet {d ty : Nat} {pos : String} {af : Array Edge} (hd : Nat.blt d n = true)
    (next : ∀ b w', SetAt w' b 0 (fun _ => false) → Below w.heap.size w w' → w.heap.size ≤ b → EL Try.prog n L Q rest (ins σ d (.map (some b))) w') : EL Try.prog n L Q (⟨some d, .makeMap 78 none, ty, pos, af, none⟩ :: rest) σ w := fun a ha =>
  wpL_run (wanted_none rfl _) (by simp only [execOp]; kernel_rfl) (next _ _ (SetAt.made w) ((Below.refl _ _).alloc (Nat.le_refl _) _) (Nat.le_refl _) _ (ha.put hd _))
end
end Go.Proofs.Ytmaiiigijjfjfaa
set_option linter.unusedVariables false
set_option linter.unusedSimpArgs false
namespace Go.Proofs.Ytmaiiigijjfjfaa
open Go Go.RowKit
theorem getD_in {α : Type} {l : List α} {i : Nat} {d : α} (h : i < l.length) : l.getD i d = l[i] := by simp [List.getD, h]
def setS (l : List Int) : Nat → Bool := fun j => decide (((j : Nat) : Int) ∈ l)
theorem setS_nil : (fun _ : Nat => false) = setS [] := by funext j; simp [setS]
theorem putS_set {l : List Int} {a : Nat} : putS (setS l) a = setS (l ++ [((a : Nat) : Int)]) := by
  funext j
  unfold putS setS
  by_cases e : j = a
  · rw [if_pos e]; symm; exact decide_eq_true (by rw [e]; simp)
  · rw [if_neg e]
    have : ((j : Nat) : Int) ≠ ((a : Nat) : Int) := by omega
    simp [this]
theorem set_dec {l : List Int} {k : Nat} {r : Bool} (h : if r = true then ((k : Nat) : Int) ∈ l else ¬((k : Nat) : Int) ∈ l) : setS l k = r := by
  cases r
  · exact decide_eq_false (by simpa using h)
  · exact decide_eq_true (by simpa using h)
theorem SetAt.mono {w : World} {b n n' : Nat} {f : Nat → Bool} (h : SetAt w b n f) (hn : n ≤ n') : SetAt w b n' f := by
  obtain ⟨D, h1, h2, h3⟩ := h
  exact ⟨D, h1.mono hn, h2, h3⟩
theorem good_at {n k : Nat} {S : List Int} (h : goodS n S) (hk : k < S.length) : ∃ a : Nat, S.getD k 0 = (a : Int) ∧ a < n := by
  have := h.2 _ (List.getElem_mem hk)
  refine ⟨(S[k]).toNat, ?_, by omega⟩
  rw [getD_in hk]
  omega
theorem good_lt {n j k : Nat} {S : List Int} (h : goodS n S) (hjk : j < k) (hk : k < S.length) : S.getD j 0 < S.getD k 0 := by
  rw [getD_in hk, getD_in (show j < S.length by omega)]
  exact List.pairwise_iff_getElem.1 h.1 j k (by omega) hk hjk
theorem take_snoc {k : Nat} {S : List Int} (hk : k < S.length) : S.take (k + 1) = S.take k ++ [S.getD k 0] := by
  rw [List.take_add_one]
  simp [List.getD, hk]
theorem many_no {c : Case} {s : List Int} (h : ∀ x ∈ c.clues, 1 ≤ x.length) (hm : ¬512 < manyC c) : ¬512 < manyC (withoutC c s) := by
  have := many_without (s := s) h
  omega
theorem without_n {c : Case} {s : List Int} {k : Nat} (h : c.clues.length ≤ k) : (withoutC c s).clues.length ≤ k := Nat.le_trans (withoutL_len _) h
theorem small_without {c : Case} {s : List Int} (h : Small c) : Small (withoutC c s) := ⟨Nat.le_trans (withoutL_len _) h.clues, h.clocks, fun j hj => by
  obtain ⟨i, hi, e⟩ := withoutL_each (c := c) (set := s) _ _ (List.getElem_mem hj)
  rw [getD_in hj]
  have e2 : (withoutC c s).clues[j] = c.clues.getD i [] := e
  rw [e2]
  exact h.opts i hi⟩
theorem own_none {w : World} {base e size : Nat} : w.ownsRow base e size (.slice none 0 0) 0 [] := ⟨by simp, .inl ⟨rfl, rfl⟩⟩
set_option maxHeartbeats 8000000 in
set_option maxRecDepth 100000 in
theorem fewer_law (c : Case) (vc vl : Value) (vs : List Value) (w : World) (B : Nat) (hr : RdCase w B vc vl c vs) (hB : B ≤ w.heap.size) (hn1 : c.clocks.length ≤ 9223372036854775807) (hn2 : c.clues.length ≤ 9223372036854775807) (b : List Int) (vb : Value) (hrb : Rd w B 1 vb b.length (u8s b)) (hbb : ∀ y ∈ b, 0 ≤ y ∧ y ≤ 255) (hnb : b.length ≤ 9223372036854775807) :
    Calls Try.prog 9 #[.agg #[.int .i64 c.events, vc, vl], vb] w fun e w' => e = .returned (.bool true) ∧ Below w.heap.size w w' := by
  obtain ⟨Ac, cc_, rfl, _⟩ := hr.clocks.shape
  obtain ⟨Al, cl_, rfl, _⟩ := hr.clues.rd.shape
  obtain ⟨Ab, cb_, rfl, _⟩ := hrb.shape
  have hbw := Below.refl w.heap.size w
  refine EC.enter 310 Try.func9 rfl rfl rfl ?_
  refine EC.seq ?_
  refine EC.region ?_
  refine EL.newP (bx_25 rfl) rfl ?_
  intro g1 w1 q1 hb1 hg1 hl1
  have bhbw_1 := Nat.le_trans hbw.size hg1
  replace hbw := Below.on hbw hb1 hbw.size
  clear hb1 hg1 hl1
  refine EL.val (x_assign rfl) rfl ?_
  refine EL.nil ?_
  refine EX.seq ?_
  refine EC.seq ?_
  refine EC.seq ?_
  refine EC.region ?_
  refine EL.val (ld_25 rfl (q1.at (j := 0) rfl) (q1.at (j := 1) rfl) (q1.at (j := 2) rfl)) rfl ?_
  refine EL.call (cl_11 rfl) rfl (large_any c _ _ vs _ B (hr.below (hbw.mono hB)) (Nat.le_trans hB hbw.size) hn1 hn2) ?_
  rintro e wB ⟨⟨bB, rfl, hsm⟩, hcB⟩
  cases bB
  ·
    replace hsm := hsm rfl
    have hn1 : c.clocks.length ≤ 1073741824 := by have := hsm.clocks; omega
    have hn2 : c.clues.length ≤ 1073741824 := by have := hsm.clues; omega
    refine ⟨_, rfl, ?_⟩
    replace q1 := q1.below hcB q1.lt
    replace hbw := Below.on hbw hcB hbw.size
    clear hcB
    refine EL.val (x_move rfl) rfl ?_
    refine EL.valg rfl rfl (fa_25_2 rfl) rfl ?_
    refine EL.valg rfl rfl (ld_23 rfl (q1.at (j := 2) rfl)) rfl ?_
    refine EL.valg rfl rfl (ln_23 rfl) rfl ?_
    by_cases h8 : 8 < c.clues.length
    ·
      refine EL.valg rfl rfl (x_gtr (r := true) rfl rfl (decide_eq_true (by omega))) rfl ?_
      refine EL.val (x_pick_f rfl rfl) rfl ?_
      refine EL.val (x_move rfl) rfl ?_
      refine EL.skip rfl rfl rfl rfl ?_
      refine EL.skip rfl rfl rfl rfl ?_
      refine EL.skip rfl rfl rfl rfl ?_
      refine EL.skip rfl rfl rfl rfl ?_
      refine EL.val (x_pick_t rfl rfl) rfl ?_
      refine EL.nil ?_
      refine EX.seq ?_
      refine EC.yes rfl ?_
      refine EC.seq ?_
      refine EC.region ?_
      refine EL.call cl_12 rfl (known_any _) ?_
      rintro e w2 ⟨rfl, hc2⟩
      refine ⟨_, rfl, ?_⟩
      replace q1 := q1.below hc2 q1.lt
      replace hbw := Below.on hbw hc2 hbw.size
      clear hc2
      refine EL.val (x_assign rfl) rfl ?_
      refine EL.nil ?_
      refine EX.seq ?_
      refine EC.ret ?_
      refine EX.seq_ret ?_
      exact EX.done (res1 rfl rfl) ⟨rfl, hbw⟩
    ·
      refine EL.valg rfl rfl (x_gtr (r := false) rfl rfl (decide_eq_false (by omega))) rfl ?_
      refine EL.val (x_pick_f rfl rfl) rfl ?_
      refine EL.val (x_move rfl) rfl ?_
      refine EL.valg rfl rfl (ld_25 rfl (q1.at (j := 0) rfl) (q1.at (j := 1) rfl) (q1.at (j := 2) rfl)) rfl ?_
      refine EL.callg rfl rfl (cl_14 rfl) rfl (copied_any c _ _ vs _ B (hr.below (hbw.mono hB)) (Nat.le_trans hB hbw.size) hn1 hn2 hsm) ?_
      rintro e w4 ⟨⟨vaq3, vbq3, wsq3, rfl, hoq3⟩, hc4⟩
      refine ⟨_, rfl, ?_⟩
      replace q1 := q1.below hc4 q1.lt
      replace hbw := Below.on hbw hc4 hbw.size
      clear hc4
      have hrq3 := hoq3.rd
      obtain ⟨Adq3, cdq3, rfl, _⟩ := hrq3.clocks.shape
      obtain ⟨Amq3, cmq3, rfl, _⟩ := hrq3.clues.rd.shape
      have hbq3 := Below.refl w4.heap.size w4
      by_cases hcb : caseB c = true
      ·
        obtain ⟨hev, h8c, h20, hck, hcl⟩ := caseB_ok hcb
        have hn8 : c.clues.length ≤ 8 := by omega
        have hopt : ∀ x ∈ c.clues, 1 ≤ x.length := fun x hx => by obtain ⟨j, hj, rfl⟩ := List.mem_iff_getElem.1 hx; have := (hcl j hj).1.1; rwa [getD_in hj] at this
        refine EL.callg rfl rfl (cl_25 rfl) rfl (check_ok hcb _ _ wsq3 _ _ (hrq3.below hbq3) hbq3.size hn1 hn2) ?_
        rintro e w5 ⟨rfl, hc5⟩
        refine ⟨_, rfl, ?_⟩
        replace q1 := q1.below hc5 q1.lt
        replace hbw := Below.on hbw hc5 hbw.size
        replace hbq3 := Below.on hbq3 hc5 hbq3.size
        clear hc5
        refine EL.valg rfl rfl (x_neq (r := false) rfl rfl (by decide)) rfl ?_
        refine EL.val (x_pick_f rfl rfl) rfl ?_
        refine EL.nil ?_
        refine EX.seq ?_
        refine EC.no rfl ?_
        refine EC.skip ?_
        refine EX.seq ?_
        refine EC.seq ?_
        refine EC.region ?_
        refine EL.val (x_assign rfl) rfl ?_
        refine EL.nil ?_
        refine EX.seq ?_
        refine EC.seq ?_
        refine EC.seq ?_
        refine EC.region ?_
        refine EL.val (x_assign rfl) rfl ?_
        refine EL.nil ?_
        refine EX.seq ?_
        refine EC.block ?_
        refine EC.loopD [5, 6, 39, 40, 41, 42, 43, 44, 45, 46, 47, 48, 49, 50, 51, 52, 53, 54] (fun y : Nat => [(5, .int .i64 ((prodTo c y : Nat) : Int)), (6, .int .i64 (y : Nat))]) (fun y W => y ≤ c.clues.length ∧ Blk W g1 25 #[.int .i64 c.events, .slice Ac c.clocks.length cc_, .slice Al c.clues.length cl_] ∧ Below w.heap.size w W) (fun y => c.clues.length - y) 0 ⟨Nat.zero_le _, q1, hbw⟩ ⟨rfl, rfl, trivial⟩ ?_
        clear q1 hbw
        rintro y wy ⟨hy, q2y, hbw⟩
        have hpy := prodTo_le (c := c) (fun i hi => by have := (hcl i hi).1.2; omega) y hy
        have hpy2 : (5 : Nat) ^ y ≤ 5 ^ 8 := Nat.pow_le_pow_right (by omega) (by omega)
        have h58 : (5 : Nat) ^ 8 = 390625 := rfl
        by_cases hlt : y < c.clues.length
        ·
          obtain ⟨bl, ol, e_, _, hcell⟩ := rdll_cell hr.clues y hlt
          subst e_
          have hrow := hr.clues.row y hlt
          obtain ⟨Ao, co, eo, _⟩ := hrow.shape
          rw [eo] at hcell hrow
          have hsucc : prodTo c (y + 1) = prodTo c y * (c.clues.getD y []).length := rfl
          have hpy3 := prodTo_le (c := c) (fun i hi => by have := (hcl i hi).1.2; omega) (y + 1) hlt
          have hpy4 : (5 : Nat) ^ (y + 1) ≤ 5 ^ 8 := Nat.pow_le_pow_right (by omega) (by omega)
          rw [hsucc] at hpy3
          refine EC.seq ?_
          refine EC.seq ?_
          refine EC.region ?_
          refine EL.val (x_move rfl) rfl ?_
          refine EL.val (fa_25_2 rfl) rfl ?_
          refine EL.val (ld_23 rfl (q2y.at (j := 2) rfl)) rfl ?_
          refine EL.val (ln_23 rfl) rfl ?_
          refine EL.val (x_lss rfl rfl (decide_eq_true (show (((y : Nat) : Int) < ((c.clues.length : Nat) : Int)) by omega))) rfl ?_
          refine EL.nil ?_
          refine EX.seq ?_
          refine EC.yes rfl ?_
          refine EC.skip ?_
          refine EX.seq ?_
          refine EC.seq ?_
          refine EC.block ?_
          refine EC.region ?_
          refine EL.val (x_move rfl) rfl ?_
          refine EL.val (fa_25_2 rfl) rfl ?_
          refine EL.val (ld_23 rfl (q2y.at (j := 2) rfl)) rfl ?_
          refine EL.val (x_move rfl) rfl ?_
          refine EL.val (ix_23 rfl rfl hlt) rfl ?_
          refine EL.val (fa_74_0 rfl) rfl ?_
          refine EL.val (ld_72 rfl (below_load hbw hcell)) rfl ?_
          refine EL.val (ln_72 rfl) rfl ?_
          refine EL.val (x_mul rfl rfl (c := ((prodTo c (y + 1) : Nat) : Int)) (by rw [hsucc, Int.natCast_mul]; exact IntWalk.i64_in _ ⟨by rw [← Int.natCast_mul]; omega, by rw [← Int.natCast_mul]; omega⟩)) rfl ?_
          refine EL.val (x_assign rfl) rfl ?_
          refine EL.nil ?_
          refine EX.blk ?_
          refine EX.seq ?_
          refine EC.region ?_
          refine EL.val (x_move rfl) rfl ?_
          refine EL.val (x_add rfl rfl (c := ((y + 1 : Nat) : Int)) ((IntWalk.i64_in _ ⟨by first | omega | (simp only; omega), by first | omega | (simp only; omega)⟩).trans (by first | omega | (simp only; omega)))) rfl ?_
          refine EL.val (x_assign rfl) rfl ?_
          refine EL.nil ?_
          refine EX.roundD (y + 1) ⟨rfl, rfl, trivial⟩ (by repeat first | with_reducible exact Sub.refl _ | refine sub_past rfl ?_ | exact Sub.refl _ | refine sub_del rfl ?_ | refine sub_insL_nil ?_) ⟨hlt, q2y, hbw⟩ (by omega)
        ·
          have hye : y = c.clues.length := by omega
          subst hye
          refine EC.seq ?_
          refine EC.seq ?_
          refine EC.region ?_
          refine EL.val (x_move rfl) rfl ?_
          refine EL.val (fa_25_2 rfl) rfl ?_
          refine EL.val (ld_23 rfl (q2y.at (j := 2) rfl)) rfl ?_
          refine EL.val (ln_23 rfl) rfl ?_
          refine EL.val (x_lss rfl rfl (decide_eq_false (show ¬(((c.clues.length : Nat) : Int) < ((c.clues.length : Nat) : Int)) by omega))) rfl ?_
          refine EL.nil ?_
          refine EX.seq ?_
          refine EC.no rfl ?_
          refine EC.exit ?_
          refine EX.seq_exit ?_
          refine EX.seq_exit ?_
          refine EX.blk_here ?_
          refine EX.seq ?_
          refine EC.seq ?_
          refine EC.seq ?_
          refine EC.region ?_
          refine EL.val (x_move rfl) rfl ?_
          by_cases h64 : 64 < prodTo c c.clues.length
          ·
            refine EL.val (x_gtr (r := true) rfl rfl (decide_eq_true (by omega))) rfl ?_
            refine EL.nil ?_
            refine EX.seq ?_
            refine EC.yes rfl ?_
            refine EC.seq ?_
            refine EC.region ?_
            refine EL.call cl_12 rfl (known_any _) ?_
            rintro e w6 ⟨rfl, hc6⟩
            refine ⟨_, rfl, ?_⟩
            replace q2y := q2y.below hc6 q2y.lt
            replace hbw := Below.on hbw hc6 hbw.size
            clear hc6
            refine EL.val (x_assign rfl) rfl ?_
            refine EL.nil ?_
            refine EX.seq ?_
            refine EC.ret ?_
            refine EX.seq_ret ?_
            exact EX.done (res1 rfl rfl) ⟨rfl, hbw⟩
          ·
            have hmn : ¬512 < manyC c := by unfold manyC; omega
            refine EL.val (x_gtr (r := false) rfl rfl (decide_eq_false (by omega))) rfl ?_
            refine EL.nil ?_
            refine EX.seq ?_
            refine EC.no rfl ?_
            refine EC.skip ?_
            refine EX.seq ?_
            refine EC.seq ?_
            refine EC.region ?_
            refine EL.val (ld_25 rfl (q2y.at (j := 0) rfl) (q2y.at (j := 1) rfl) (q2y.at (j := 2) rfl)) rfl ?_
            refine EL.call (cl_14 rfl) rfl (copied_any c _ _ vs _ B (hr.below (hbw.mono hB)) (Nat.le_trans hB hbw.size) hn1 hn2 hsm) ?_
            rintro e w8 ⟨⟨vaq7, vbq7, wsq7, rfl, hoq7⟩, hc8⟩
            refine ⟨_, rfl, ?_⟩
            replace q2y := q2y.below hc8 q2y.lt
            replace hbw := Below.on hbw hc8 hbw.size
            clear hc8
            have hrq7 := hoq7.rd
            obtain ⟨Adq7, cdq7, rfl, _⟩ := hrq7.clocks.shape
            obtain ⟨Amq7, cmq7, rfl, _⟩ := hrq7.clues.rd.shape
            have hbq7 := Below.refl w8.heap.size w8
            refine EL.call (cl_35 rfl) rfl (wrong_to (wrg_ok hcb (by omega) hmn) (wrgRes_ok (wrg_ok hcb (by omega) hmn)) _ _ wsq7 _ _ (hrq7.below hbq7) hbq7.size hn1 hn2) ?_
            rintro e w9 ⟨⟨vQ, us, rfl, hrQ⟩, hc9⟩
            refine ⟨_, rfl, ?_⟩
            replace q2y := q2y.below hc9 q2y.lt
            replace hbw := Below.on hbw hc9 hbw.size
            replace hbq7 := Below.on hbq7 hc9 hbq7.size
            clear hc9
            obtain ⟨m, hm, hWm, hWne, hmin⟩ := min_wrong hcb
            have hQall : ∀ i, i < (wrongL c).length → (wrongL c).getD i [] ∈ wrongAt c m := fun i hi => by rw [getD_in hi, ← hWm]; exact List.getElem_mem hi
            have hQpos : 0 < (wrongL c).length := by rw [hWm]; exact List.length_pos_iff.2 hWne
            have hQone : m = 0 → (wrongL c).length = 1 := fun h => by have h1 := wrong_zero (c := c); rw [← h, ← hWm] at h1; omega
            have hQ1k : (wrongL c).length ≤ 1024 := wrong_len hcb (by omega)
            obtain ⟨QL, eQ⟩ : ∃ z, z = wrongL c := ⟨_, rfl⟩
            rw [← eQ] at hrQ hQall hQpos hQone hQ1k
            obtain ⟨AQ, cQ, rfl, _⟩ := hrQ.rd.shape
            obtain ⟨bq, oq, e_, _, cq0⟩ := rdll_cell hrQ 0 hQpos
            subst e_
            have rq0 := hrQ.row 0 hQpos
            obtain ⟨S0, eS0⟩ : ∃ z, z = QL.getD 0 [] := ⟨_, rfl⟩
            have hS0 := hQall 0 hQpos
            rw [← eS0] at rq0 hS0
            obtain ⟨hg0, hl0, hw0⟩ := wrongAt_mem.1 hS0
            obtain ⟨A0, c0, f0, _⟩ := rq0.shape
            rw [f0] at cq0 rq0
            rw [← ints_flat] at rq0
            rw [hl0] at cq0 rq0
            have hbQ := Below.refl w9.heap.size w9
            have hszQ := hbw.size
            refine EL.val (x_move rfl) rfl ?_
            refine EL.val (x_extract rfl rfl) rfl ?_
            refine EL.val (x_extract rfl rfl) rfl ?_
            refine EL.val (x_assign rfl) rfl ?_
            refine EL.val (x_assign rfl) rfl ?_
            refine EL.nil ?_
            refine EX.seq ?_
            refine EC.seq ?_
            refine EC.seq ?_
            refine EC.region ?_
            refine EL.val (x_move rfl) rfl ?_
            refine EL.val (x_neq (r := false) rfl rfl (by decide)) rfl ?_
            refine EL.nil ?_
            refine EX.seq ?_
            refine EC.no rfl ?_
            refine EC.skip ?_
            refine EX.seq ?_
            refine EC.seq ?_
            refine EC.seq ?_
            refine EC.region ?_
            refine EL.val (x_move rfl) rfl ?_
            refine EL.val (ln_41 rfl) rfl ?_
            refine EL.val (x_lss (r := false) rfl rfl (decide_eq_false (by omega))) rfl ?_
            refine EL.nil ?_
            refine EX.seq ?_
            refine EC.no rfl ?_
            refine EC.skip ?_
            refine EX.seq ?_
            refine EC.seq ?_
            refine EC.seq ?_
            refine EC.region ?_
            refine EL.val (x_assign rfl) rfl ?_
            refine EL.nil ?_
            refine EX.seq ?_
            refine EC.block ?_
            refine EC.loopD [4, 9, 10, 11, 12, 13, 14, 15, 16, 17, 18, 19, 20, 79, 80, 81, 82, 83, 84, 85, 86, 87, 88, 89, 90, 91, 92, 93, 94, 95, 96, 97, 98, 99, 100, 101, 102, 103, 104, 105, 106, 107, 108, 109, 110, 111, 112, 113, 114, 115, 116, 117, 118, 119, 120, 121, 122, 123, 124, 125, 126, 127, 128, 129, 130, 131, 132, 133, 134, 135, 136, 137, 138, 139, 140, 141, 142, 143, 144, 145, 146, 147, 148, 149, 150, 151, 152, 153, 154, 155, 156, 157, 158, 159, 160, 161, 162, 163, 164, 165, 166, 167, 168, 169, 170, 171, 172, 173, 174, 175, 176, 177, 178, 179, 180, 181, 182, 183, 184, 185, 186, 187, 188, 189, 190, 191, 192, 193, 194, 195, 196, 197, 198, 199, 200, 201, 202, 203, 204, 205, 206, 207, 208, 209, 210, 211, 212, 213, 214, 215, 216, 217, 218, 219, 220, 221, 222, 223, 224, 225, 226, 227, 228, 229, 230, 231, 232, 233, 234, 235, 236, 237, 238, 239, 240, 241] (fun x : Nat => [(9, .int .i64 (x : Nat))]) (fun x W => x ≤ QL.length ∧ Blk W g1 25 #[.int .i64 c.events, .slice Ac c.clocks.length cc_, .slice Al c.clues.length cl_] ∧ Below w.heap.size w W ∧ Below w9.heap.size w9 W) (fun x => QL.length - x) 0 ⟨Nat.zero_le _, q2y, hbw, hbQ⟩ ⟨rfl, trivial⟩ ?_
            clear q2y hbw hbQ
            rintro x wx ⟨hx, q2x, hbw, hbQ⟩
            by_cases hlt : x < QL.length
            ·
              obtain ⟨bq2, oq2, e_, _, cq⟩ := rdll_cell hrQ x hlt
              obtain ⟨rfl, rfl⟩ : bq = bq2 ∧ oq = oq2 := by injection e_ with e_; injection e_ with h1 h2; exact ⟨h1, h2⟩
              have rq := hrQ.row x hlt
              obtain ⟨S, eS⟩ : ∃ z, z = QL.getD x [] := ⟨_, rfl⟩
              have hS := hQall x hlt
              rw [← eS] at rq hS
              obtain ⟨hSg, hSm, hSw⟩ := wrongAt_mem.1 hS
              obtain ⟨A1, c1, f1, _⟩ := rq.shape
              rw [f1] at cq rq
              rw [← ints_flat] at rq
              rw [hSm] at cq rq
              refine EC.seq ?_
              refine EC.seq ?_
              refine EC.region ?_
              refine EL.val (x_move rfl) rfl ?_
              refine EL.val (x_move rfl) rfl ?_
              refine EL.val (ln_41 rfl) rfl ?_
              refine EL.val (x_lss rfl rfl (decide_eq_true (show (((x : Nat) : Int) < ((QL.length : Nat) : Int)) by omega))) rfl ?_
              refine EL.nil ?_
              refine EX.seq ?_
              refine EC.yes rfl ?_
              refine EC.skip ?_
              refine EX.seq ?_
              refine EC.seq ?_
              refine EC.block ?_
              refine EC.seq ?_
              refine EC.region ?_
              refine EL.newSet rfl ?_
              intro m1_ w10 hs1 hb10 hg10
              have ghbw_m1_ := Nat.le_trans hbw.size hg10
              have ghbQ_m1_ := Nat.le_trans hbQ.size hg10
              replace q2x := q2x.below hb10 q2x.lt
              replace hbw := Below.on hbw hb10 hbw.size
              replace hbQ := Below.on hbQ hb10 hbQ.size
              clear hb10 hg10
              refine EL.newSet rfl ?_
              intro m2_ w11 hs2 hb11 hg11
              have ghbw_m2_ := Nat.le_trans hbw.size hg11
              have ghbQ_m2_ := Nat.le_trans hbQ.size hg11
              have hne12 : m1_ ≠ m2_ := Nat.ne_of_lt (Nat.lt_of_lt_of_le hs1.lt hg11)
              replace q2x := q2x.below hb11 q2x.lt
              replace hs1 := hs1.below hb11
              replace hbw := Below.on hbw hb11 hbw.size
              replace hbQ := Below.on hbQ hb11 hbQ.size
              clear hb11 hg11
              refine EL.val (x_assign rfl) rfl ?_
              refine EL.val (x_assign rfl) rfl ?_
              refine EL.nil ?_
              refine EX.seq ?_
              refine EC.seq ?_
              refine EC.seq ?_
              refine EC.region ?_
              refine EL.val (x_assign rfl) rfl ?_
              refine EL.nil ?_
              refine EX.seq ?_
              refine EC.block ?_
              have hsm8 : m ≤ 8 := by omega
              rw [setS_nil] at hs1 hs2
              refine EC.loopD [4, 12, 13, 87, 88, 89, 90, 91, 92, 93, 94, 95, 96, 97, 98, 99, 100, 101, 102, 103, 104, 105, 106, 107, 108, 109, 110, 111, 112, 113, 114, 115, 116, 117, 118, 119, 120, 121, 122, 123, 124, 125, 126, 127, 128, 129, 130, 131, 132, 133, 134, 135, 136, 137, 138, 139, 140, 141, 142, 143, 144, 145, 146, 147, 148] (fun y : Nat => [(12, .int .i64 (y : Nat))]) (fun y W => y ≤ m ∧ SetAt W m1_ y (setS (S.take y)) ∧ SetAt W m2_ y (setS (someL b x c.clues.length y)) ∧ Blk W g1 25 #[.int .i64 c.events, .slice Ac c.clocks.length cc_, .slice Al c.clues.length cl_] ∧ Below w.heap.size w W ∧ Below w9.heap.size w9 W) (fun y => m - y) 0 ⟨Nat.zero_le _, hs1, hs2, q2x, hbw, hbQ⟩ ⟨rfl, trivial⟩ ?_
              clear q2x hbw hbQ hs1 hs2
              rintro y wy ⟨hy, hs1, hs2, q2y, hbw, hbQ⟩
              by_cases hly : y < m
              ·
                obtain ⟨b1, o1, e1_, _, cy⟩ := ints_cells S y (by omega) _ _ _ _ _ rq
                subst e1_
                obtain ⟨a, ea, han⟩ := good_at hSg (k := y) (by omega)
                rw [ea] at cy
                have htk : S.take (y + 1) = S.take y ++ [((a : Nat) : Int)] := by rw [take_snoc (by omega), ea]
                by_cases hy0 : y = 0
                ·
                  have hsl : someL b x c.clues.length (y + 1) = someL b x c.clues.length y := by rw [someL, if_neg (by omega)]
                  refine EC.seq ?_
                  refine EC.seq ?_
                  refine EC.region ?_
                  refine EL.val (x_move rfl) rfl ?_
                  refine EL.val (x_move rfl) rfl ?_
                  refine EL.val (x_move rfl) rfl ?_
                  refine EL.val (ix_41 rfl rfl hlt) rfl ?_
                  refine EL.val (ld_26 rfl (below_load hbQ cq)) rfl ?_
                  refine EL.val (ln_26 rfl) rfl ?_
                  refine EL.val (x_lss rfl rfl (decide_eq_true (show (((y : Nat) : Int) < ((m : Nat) : Int)) by omega))) rfl ?_
                  refine EL.nil ?_
                  refine EX.seq ?_
                  refine EC.yes rfl ?_
                  refine EC.skip ?_
                  refine EX.seq ?_
                  refine EC.seq ?_
                  refine EC.block ?_
                  refine EC.seq ?_
                  refine EC.seq ?_
                  refine EC.region ?_
                  refine EL.val (x_move rfl) rfl ?_
                  refine EL.val (x_move rfl) rfl ?_
                  refine EL.val (ix_41 rfl rfl hlt) rfl ?_
                  refine EL.val (ld_26 rfl (below_load hbQ cq)) rfl ?_
                  refine EL.val (x_move rfl) rfl ?_
                  refine EL.val (ix_26 rfl rfl hly) rfl ?_
                  refine EL.val (ld_3 rfl (below_load hbQ cy)) rfl ?_
                  refine EL.val (x_assign rfl) rfl ?_
                  refine EL.nil ?_
                  refine EX.seq ?_
                  refine EC.seq ?_
                  refine EC.region ?_
                  refine EL.val (x_move rfl) rfl ?_
                  refine EL.val (x_lss (r := false) rfl rfl (decide_eq_false (by omega))) rfl ?_
                  refine EL.val (x_move rfl) rfl ?_
                  refine EL.valg rfl rfl (x_move rfl) rfl ?_
                  refine EL.valg rfl rfl (fa_25_2 rfl) rfl ?_
                  refine EL.valg rfl rfl (ld_23 rfl (q2y.at (j := 2) rfl)) rfl ?_
                  refine EL.valg rfl rfl (ln_23 rfl) rfl ?_
                  refine EL.valg rfl rfl (x_geq (r := false) rfl rfl (decide_eq_false (by omega))) rfl ?_
                  refine EL.val (x_pick_f rfl rfl) rfl ?_
                  refine EL.val (x_move rfl) rfl ?_
                  refine EL.valg rfl rfl (x_move rfl) rfl ?_
                  refine EL.valg rfl rfl (x_gtr (r := false) rfl rfl (decide_eq_false (by omega))) rfl ?_
                  refine EL.valg rfl rfl (x_move rfl) rfl ?_
                  refine EL.skip rfl rfl rfl rfl ?_
                  refine EL.skip rfl rfl rfl rfl ?_
                  refine EL.skip rfl rfl rfl rfl ?_
                  refine EL.skip rfl rfl rfl rfl ?_
                  refine EL.skip rfl rfl rfl rfl ?_
                  refine EL.skip rfl rfl rfl rfl ?_
                  refine EL.skip rfl rfl rfl rfl ?_
                  refine EL.skip rfl rfl rfl rfl ?_
                  refine EL.skip rfl rfl rfl rfl ?_
                  refine EL.skip rfl rfl rfl rfl ?_
                  refine EL.valg rfl rfl (x_pick_f rfl rfl) rfl ?_
                  refine EL.val (x_pick_f rfl rfl) rfl ?_
                  refine EL.nil ?_
                  refine EX.seq ?_
                  refine EC.no rfl ?_
                  refine EC.skip ?_
                  refine EX.seq ?_
                  refine EC.seq ?_
                  refine EC.region ?_
                  refine EL.val (x_move rfl) rfl ?_
                  refine EL.val (x_move rfl) rfl ?_
                  refine EL.val (x_move rfl) rfl ?_
                  refine EL.val (ix_41 rfl rfl hlt) rfl ?_
                  refine EL.val (ld_26 rfl (below_load hbQ cq)) rfl ?_
                  refine EL.val (x_move rfl) rfl ?_
                  refine EL.val (ix_26 rfl rfl hly) rfl ?_
                  refine EL.val (ld_3 rfl (below_load hbQ cy)) rfl ?_
                  refine EL.putSet rfl rfl rfl hs1 (by omega) (by omega) ?_
                  intro w12 hs1n hg12
                  replace q2y := blk_set q2y hs1 hg12
                  replace hbw := hbw.trans (below_set hg12 ghbw_m1_ hbw.size)
                  replace hbQ := hbQ.trans (below_set hg12 ghbQ_m1_ hbQ.size)
                  replace hs2 := hs2.kept hg12 (fun e => hne12 (Option.some.inj e).symm)
                  clear hs1 hg12
                  have hs1 := hs1n
                  clear hs1n
                  refine EL.nil ?_
                  refine EX.seq ?_
                  refine EC.seq ?_
                  refine EC.region ?_
                  refine EL.val (x_move rfl) rfl ?_
                  refine EL.val (x_gtr (r := false) rfl rfl (decide_eq_false (by omega))) rfl ?_
                  refine EL.nil ?_
                  refine EX.seq ?_
                  refine EC.no rfl ?_
                  refine EC.skip ?_
                  refine EX.blk ?_
                  refine EX.seq ?_
                  refine EC.region ?_
                  refine EL.val (x_move rfl) rfl ?_
                  refine EL.val (x_add rfl rfl (c := ((y + 1 : Nat) : Int)) ((IntWalk.i64_in _ ⟨by first | omega | (simp only; omega), by first | omega | (simp only; omega)⟩).trans (by first | omega | (simp only; omega)))) rfl ?_
                  refine EL.val (x_assign rfl) rfl ?_
                  refine EL.nil ?_
                  refine EX.roundD (y + 1) ⟨rfl, trivial⟩ (by repeat first | with_reducible exact Sub.refl _ | refine sub_past rfl ?_ | exact Sub.refl _ | refine sub_del rfl ?_ | refine sub_insL_nil ?_) ⟨hly, by rw [htk, ← putS_set]; exact hs1, by rw [hsl]; exact hs2.mono (by omega), q2y, hbw, hbQ⟩ (by omega)
                ·
                  have hly2 : y - 1 < m := by omega
                  obtain ⟨b3, o3, e3_, _, cz⟩ := ints_cells S (y - 1) (by omega) _ _ _ _ _ rq
                  obtain ⟨rfl, rfl⟩ : b1 = b3 ∧ o1 = o3 := by injection e3_ with e_; injection e_ with h1 h2; exact ⟨h1, h2⟩
                  have hinc := good_lt hSg (j := y - 1) (k := y) (by omega) (by omega)
                  rw [ea] at hinc
                  have hpr := part_bd hbb (x + y)
                  obtain ⟨K, eK⟩ : ∃ z, z = (partI b (x + y)).toNat % c.clues.length := ⟨_, rfl⟩
                  have hKn : K < c.clues.length := by rw [eK]; exact Nat.mod_lt _ (by omega)
                  have eK2 : (partI b (x + y)).tmod ((c.clues.length : Nat) : Int) = ((K : Nat) : Int) := by rw [eK]; exact part_mod hpr.1
                  have hsl : someL b x c.clues.length (y + 1) = someL b x c.clues.length y ++ [((K : Nat) : Int)] := by rw [someL, if_pos (by omega), ← eK]
                  refine EC.seq ?_
                  refine EC.seq ?_
                  refine EC.region ?_
                  refine EL.val (x_move rfl) rfl ?_
                  refine EL.val (x_move rfl) rfl ?_
                  refine EL.val (x_move rfl) rfl ?_
                  refine EL.val (ix_41 rfl rfl hlt) rfl ?_
                  refine EL.val (ld_26 rfl (below_load hbQ cq)) rfl ?_
                  refine EL.val (ln_26 rfl) rfl ?_
                  refine EL.val (x_lss rfl rfl (decide_eq_true (show (((y : Nat) : Int) < ((m : Nat) : Int)) by omega))) rfl ?_
                  refine EL.nil ?_
                  refine EX.seq ?_
                  refine EC.yes rfl ?_
                  refine EC.skip ?_
                  refine EX.seq ?_
                  refine EC.seq ?_
                  refine EC.block ?_
                  refine EC.seq ?_
                  refine EC.seq ?_
                  refine EC.region ?_
                  refine EL.val (x_move rfl) rfl ?_
                  refine EL.val (x_move rfl) rfl ?_
                  refine EL.val (ix_41 rfl rfl hlt) rfl ?_
                  refine EL.val (ld_26 rfl (below_load hbQ cq)) rfl ?_
                  refine EL.val (x_move rfl) rfl ?_
                  refine EL.val (ix_26 rfl rfl hly) rfl ?_
                  refine EL.val (ld_3 rfl (below_load hbQ cy)) rfl ?_
                  refine EL.val (x_assign rfl) rfl ?_
                  refine EL.nil ?_
                  refine EX.seq ?_
                  refine EC.seq ?_
                  refine EC.region ?_
                  refine EL.val (x_move rfl) rfl ?_
                  refine EL.val (x_lss (r := false) rfl rfl (decide_eq_false (by omega))) rfl ?_
                  refine EL.val (x_move rfl) rfl ?_
                  refine EL.valg rfl rfl (x_move rfl) rfl ?_
                  refine EL.valg rfl rfl (fa_25_2 rfl) rfl ?_
                  refine EL.valg rfl rfl (ld_23 rfl (q2y.at (j := 2) rfl)) rfl ?_
                  refine EL.valg rfl rfl (ln_23 rfl) rfl ?_
                  refine EL.valg rfl rfl (x_geq (r := false) rfl rfl (decide_eq_false (by omega))) rfl ?_
                  refine EL.val (x_pick_f rfl rfl) rfl ?_
                  refine EL.val (x_move rfl) rfl ?_
                  refine EL.valg rfl rfl (x_move rfl) rfl ?_
                  refine EL.valg rfl rfl (x_gtr (r := true) rfl rfl (decide_eq_true (by omega))) rfl ?_
                  refine EL.valg rfl rfl (x_move rfl) rfl ?_
                  refine EL.valg rfl rfl (x_move rfl) rfl ?_
                  refine EL.valg rfl rfl (x_move rfl) rfl ?_
                  refine EL.valg rfl rfl (x_move rfl) rfl ?_
                  refine EL.valg rfl rfl (ix_41 rfl rfl hlt) rfl ?_
                  refine EL.valg rfl rfl (ld_26 rfl (below_load hbQ cq)) rfl ?_
                  refine EL.valg rfl rfl (x_move rfl) rfl ?_
                  refine EL.valg rfl rfl (x_sub rfl rfl (c := ((y - 1 : Nat) : Int)) ((IntWalk.i64_in _ ⟨by omega, by omega⟩).trans (by omega))) rfl ?_
                  refine EL.valg rfl rfl (ix_26 rfl rfl hly2) rfl ?_
                  refine EL.valg rfl rfl (ld_3 rfl (below_load hbQ cz)) rfl ?_
                  refine EL.valg rfl rfl (x_leq (r := false) rfl rfl (decide_eq_false (by omega))) rfl ?_
                  refine EL.valg rfl rfl (x_pick_t rfl rfl) rfl ?_
                  refine EL.val (x_pick_f rfl rfl) rfl ?_
                  refine EL.nil ?_
                  refine EX.seq ?_
                  refine EC.no rfl ?_
                  refine EC.skip ?_
                  refine EX.seq ?_
                  refine EC.seq ?_
                  refine EC.region ?_
                  refine EL.val (x_move rfl) rfl ?_
                  refine EL.val (x_move rfl) rfl ?_
                  refine EL.val (x_move rfl) rfl ?_
                  refine EL.val (ix_41 rfl rfl hlt) rfl ?_
                  refine EL.val (ld_26 rfl (below_load hbQ cq)) rfl ?_
                  refine EL.val (x_move rfl) rfl ?_
                  refine EL.val (ix_26 rfl rfl hly) rfl ?_
                  refine EL.val (ld_3 rfl (below_load hbQ cy)) rfl ?_
                  refine EL.putSet rfl rfl rfl hs1 (by omega) (by omega) ?_
                  intro w13 hs1n hg13
                  replace q2y := blk_set q2y hs1 hg13
                  replace hbw := hbw.trans (below_set hg13 ghbw_m1_ hbw.size)
                  replace hbQ := hbQ.trans (below_set hg13 ghbQ_m1_ hbQ.size)
                  replace hs2 := hs2.kept hg13 (fun e => hne12 (Option.some.inj e).symm)
                  clear hs1 hg13
                  have hs1 := hs1n
                  clear hs1n
                  refine EL.nil ?_
                  refine EX.seq ?_
                  refine EC.seq ?_
                  refine EC.region ?_
                  refine EL.val (x_move rfl) rfl ?_
                  refine EL.val (x_gtr (r := true) rfl rfl (decide_eq_true (by omega))) rfl ?_
                  refine EL.nil ?_
                  refine EX.seq ?_
                  refine EC.yes rfl ?_
                  have lt_1 := q2y.lt
                  refine EC.regionP [[], [], [], [], [2, 3], [1, 2, 3, 4], [1, 2, 3, 4, 5], [], [7], [7, 8], [1, 2, 3, 4, 5, 6, 7, 8, 9], [0, 1, 2, 3, 4, 5, 6, 7, 8, 9, 10]] 11 [] (phi (fun i_ r => match i_ with | 0 => r 0 = .map (some m2_) | 1 => r 1 = .slice Ab b.length cb_ | 2 => r 2 = .int .i64 (x : Nat) | 3 => r 3 = .int .i64 (y : Nat) | 4 => r 4 = .int .i64 ((x + y : Nat) : Int) | 5 => r 5 = .int .u8 (partI b (x + y)) | 6 => r 6 = .int .i64 (partI b (x + y)) | 7 => r 7 = .pointer (some ⟨g1, 2, none⟩) | 8 => r 8 = .slice Al c.clues.length cl_ | 9 => r 9 = .int .i64 (c.clues.length : Nat) | 10 => r 10 = .int .i64 ((K : Nat) : Int) | _ => True) []) (by kernel_rfl) rfl rfl (phi_nil) (fun i_ hi_ => ?_) ?_
                  · match i_, hi_ with
                    | 0, _ =>
                      intro val w1 a hb ha hd
                      have ha := ha.sub (Sub.ins (d := 11) (Sub.nil _) rfl)
                      exact hs_val ha rfl rfl (x_move rfl) rfl rfl
                    | 1, _ =>
                      intro val w1 a hb ha hd
                      have ha := ha.sub (Sub.ins (d := 1) (Sub.nil _) rfl)
                      exact hs_val ha rfl rfl (x_move rfl) rfl rfl
                    | 2, _ =>
                      intro val w1 a hb ha hd
                      have ha := ha.sub (Sub.ins (d := 9) (Sub.nil _) rfl)
                      exact hs_val ha rfl rfl (x_move rfl) rfl rfl
                    | 3, _ =>
                      intro val w1 a hb ha hd
                      have ha := ha.sub (Sub.ins (d := 12) (Sub.nil _) rfl)
                      exact hs_val ha rfl rfl (x_move rfl) rfl rfl
                    | 4, _ =>
                      intro val w1 a hb ha hd
                      have e2 : val 2 = .int .i64 (x : Nat) := hd 2 (memB_mem.1 rfl)
                      have e3 : val 3 = .int .i64 (y : Nat) := hd 3 (memB_mem.1 rfl)
                      have ha := ha.sub (Sub.ins (d := 141) (Sub.ins (d := 140) (Sub.nil _) (dep_get rfl e2)) (dep_get rfl e3))
                      exact hs_val ha rfl rfl (x_add rfl rfl (c := ((x + y : Nat) : Int)) ((IntWalk.i64_in _ ⟨by omega, by omega⟩).trans (by omega))) rfl rfl
                    | 5, _ =>
                      intro val w1 a hb ha hd
                      have e1 : val 1 = .slice Ab b.length cb_ := hd 1 (memB_mem.1 rfl)
                      have e4 : val 4 = .int .i64 ((x + y : Nat) : Int) := hd 4 (memB_mem.1 rfl)
                      have ha := ha.sub (Sub.ins (d := 142) (Sub.ins (d := 139) (Sub.nil _) (dep_get rfl e1)) (dep_get rfl e4))
                      refine hs_call ha rfl rfl (cl_34 rfl rfl) (part_any b _ (x + y) w1 B (hrb.below ((Below.on hbw hb hbw.size).mono hB)) hnb) rfl ?_
                      rintro e w' ⟨rfl, hb'⟩
                      exact ⟨_, rfl, hb', rfl⟩
                    | 6, _ =>
                      intro val w1 a hb ha hd
                      have e5 : val 5 = .int .u8 (partI b (x + y)) := hd 5 (memB_mem.1 rfl)
                      have ha := ha.sub (Sub.ins (d := 143) (Sub.nil _) (dep_get rfl e5))
                      exact hs_val ha rfl rfl (cv_5_3 rfl (IntWalk.i64_in _ ⟨by omega, by omega⟩)) rfl rfl
                    | 7, _ =>
                      intro val w1 a hb ha hd
                      have ha := ha.sub (Sub.ins (d := 2) (Sub.nil _) rfl)
                      exact hs_val ha rfl rfl (fa_25_2 rfl) rfl rfl
                    | 8, _ =>
                      intro val w1 a hb ha hd
                      have e7 : val 7 = .pointer (some ⟨g1, 2, none⟩) := hd 7 (memB_mem.1 rfl)
                      have ha := ha.sub (Sub.ins (d := 145) (Sub.nil _) (dep_get rfl e7))
                      exact hs_val ha rfl rfl (ld_23 rfl ((q2y.below hb q2y.lt).at (j := 2) rfl)) rfl rfl
                    | 9, _ =>
                      intro val w1 a hb ha hd
                      have e8 : val 8 = .slice Al c.clues.length cl_ := hd 8 (memB_mem.1 rfl)
                      have ha := ha.sub (Sub.ins (d := 146) (Sub.nil _) (dep_get rfl e8))
                      exact hs_val ha rfl rfl (ln_23 rfl) rfl rfl
                    | 10, _ =>
                      intro val w1 a hb ha hd
                      have e6 : val 6 = .int .i64 (partI b (x + y)) := hd 6 (memB_mem.1 rfl)
                      have e9 : val 9 = .int .i64 (c.clues.length : Nat) := hd 9 (memB_mem.1 rfl)
                      have ha := ha.sub (Sub.ins (d := 147) (Sub.ins (d := 144) (Sub.nil _) (dep_get rfl e6)) (dep_get rfl e9))
                      exact hs_val ha rfl rfl (x_rem rfl rfl (c := ((K : Nat) : Int)) (by omega) eK2) rfl rfl
                    | k + 11, h => exact absurd h (by omega)
                  · intro val wR27 hb halc hd
                    have e0 : val 0 = .map (some m2_) := hd 0 (by omega)
                    have e1 : val 1 = .slice Ab b.length cb_ := hd 1 (by omega)
                    have e2 : val 2 = .int .i64 (x : Nat) := hd 2 (by omega)
                    have e3 : val 3 = .int .i64 (y : Nat) := hd 3 (by omega)
                    have e4 : val 4 = .int .i64 ((x + y : Nat) : Int) := hd 4 (by omega)
                    have e5 : val 5 = .int .u8 (partI b (x + y)) := hd 5 (by omega)
                    have e6 : val 6 = .int .i64 (partI b (x + y)) := hd 6 (by omega)
                    have e7 : val 7 = .pointer (some ⟨g1, 2, none⟩) := hd 7 (by omega)
                    have e8 : val 8 = .slice Al c.clues.length cl_ := hd 8 (by omega)
                    have e9 : val 9 = .int .i64 (c.clues.length : Nat) := hd 9 (by omega)
                    have e10 : val 10 = .int .i64 ((K : Nat) : Int) := hd 10 (by omega)
                    refine EL.ends (cs := [.map (some m2_), .slice Ab b.length cb_, .int .i64 (x : Nat), .int .i64 (y : Nat), .int .i64 ((x + y : Nat) : Int), .int .u8 (partI b (x + y)), .int .i64 (partI b (x + y)), .pointer (some ⟨g1, 2, none⟩), .slice Al c.clues.length cl_, .int .i64 (c.clues.length : Nat), .int .i64 ((K : Nat) : Int)]) ⟨e0, e1, e2, e3, e4, e5, e6, e7, e8, e9, e10, trivial⟩ rfl ?_
                    replace q2y := q2y.below hb q2y.lt
                    replace hs1 := hs1.below hb
                    replace hs2 := hs2.below hb
                    replace hbw := Below.on hbw hb hbw.size
                    replace hbQ := Below.on hbQ hb hbQ.size
                    clear hb
                    refine EL.putSet rfl rfl rfl hs2 (by omega) (by omega) ?_
                    intro w14 hs2n hg14
                    replace q2y := blk_set q2y hs2 hg14
                    replace hbw := hbw.trans (below_set hg14 ghbw_m2_ hbw.size)
                    replace hbQ := hbQ.trans (below_set hg14 ghbQ_m2_ hbQ.size)
                    replace hs1 := hs1.kept hg14 (fun e => hne12 (Option.some.inj e))
                    clear hs2 hg14
                    have hs2 := hs2n
                    clear hs2n
                    refine EL.nil ?_
                    refine EX.blk ?_
                    refine EX.seq ?_
                    refine EC.region ?_
                    refine EL.val (x_move rfl) rfl ?_
                    refine EL.val (x_add rfl rfl (c := ((y + 1 : Nat) : Int)) ((IntWalk.i64_in _ ⟨by first | omega | (simp only; omega), by first | omega | (simp only; omega)⟩).trans (by first | omega | (simp only; omega)))) rfl ?_
                    refine EL.val (x_assign rfl) rfl ?_
                    refine EL.nil ?_
                    refine EX.roundD (y + 1) ⟨rfl, trivial⟩ (by repeat first | with_reducible exact Sub.refl _ | refine sub_past rfl ?_ | exact Sub.refl _ | refine sub_del rfl ?_ | refine sub_insL_nil ?_) ⟨hly, by rw [htk, ← putS_set]; exact hs1, by rw [hsl, ← putS_set]; exact hs2, q2y, hbw, hbQ⟩ (by omega)
              ·
                have hye : y = m := by omega
                subst hye
                rw [show S.take y = S from List.take_of_length_le (by omega)] at hs1
                refine EC.seq ?_
                refine EC.seq ?_
                refine EC.region ?_
                refine EL.val (x_move rfl) rfl ?_
                refine EL.val (x_move rfl) rfl ?_
                refine EL.val (x_move rfl) rfl ?_
                refine EL.val (ix_41 rfl rfl hlt) rfl ?_
                refine EL.val (ld_26 rfl (below_load hbQ cq)) rfl ?_
                refine EL.val (ln_26 rfl) rfl ?_
                refine EL.val (x_lss rfl rfl (decide_eq_false (show ¬(((y : Nat) : Int) < ((y : Nat) : Int)) by omega))) rfl ?_
                refine EL.nil ?_
                refine EX.seq ?_
                refine EC.no rfl ?_
                refine EC.exit ?_
                refine EX.seq_exit ?_
                refine EX.seq_exit ?_
                refine EX.blk_here ?_
                refine EX.seq ?_
                refine EC.seq ?_
                have lt_1 := q2y.lt
                refine EC.regionS [[], [0], [], [2], [0, 1, 2, 3], [], [5], [], [7], [5, 6, 7, 8], [], [], [0, 1, 2, 3, 4, 10, 11], [0, 1, 2, 3, 4, 5, 6, 7, 8, 9, 10, 11, 12]] 14 [10, 11] [12, 13] (fun _ w_ => Below wy.heap.size wy w_) (phiS (fun i_ r => match i_ with | 0 => r 0 = .pointer (some ⟨g1, 0, none⟩) | 1 => r 1 = .int .i64 c.events | 2 => r 2 = .pointer (some ⟨g1, 1, none⟩) | 3 => r 3 = .slice Ac c.clocks.length cc_ | 4 => r 4 = .agg #[.int .i64 c.events, .slice Ac c.clocks.length cc_, .slice none 0 0] | 5 => r 5 = .pointer (some ⟨g1, 0, none⟩) | 6 => r 6 = .int .i64 c.events | 7 => r 7 = .pointer (some ⟨g1, 1, none⟩) | 8 => r 8 = .slice Ac c.clocks.length cc_ | 9 => r 9 = .agg #[.int .i64 c.events, .slice Ac c.clocks.length cc_, .slice none 0 0] | _ => True) [(10, fun fl r w_ => ∃ g_, r 10 = .pointer (some ⟨g_, 0, none⟩) ∧ wy.heap.size ≤ g_ ∧ (fl 12 = false → Blk w_ g_ 25 #[.int .i64 0, .slice none 0 0, .slice none 0 0])), (11, fun fl r w_ => ∃ g_, r 11 = .pointer (some ⟨g_, 0, none⟩) ∧ wy.heap.size ≤ g_ ∧ (fl 13 = false → Blk w_ g_ 25 #[.int .i64 0, .slice none 0 0, .slice none 0 0])), (12, fun _ r w_ => ∃ g_, r 10 = .pointer (some ⟨g_, 0, none⟩) ∧ Blk w_ g_ 25 #[.int .i64 c.events, .slice Ac c.clocks.length cc_, .slice none 0 0]), (13, fun _ r w_ => ∃ g_, r 11 = .pointer (some ⟨g_, 0, none⟩) ∧ Blk w_ g_ 25 #[.int .i64 c.events, .slice Ac c.clocks.length cc_, .slice none 0 0])]) (by kernel_rfl) rfl rfl (by intro i hi; simp at hi; first | (subst hi; exact ⟨by simp, by omega⟩) | (rcases hi with rfl | rfl | rfl <;> exact ⟨by simp, by omega⟩) | (rcases hi with rfl | rfl <;> exact ⟨by simp, by omega⟩)) (base_below wy) (phiS_cons monoS_alloc (phiS_cons monoS_alloc (phiS_cons monoS_store (phiS_cons monoS_store (phiS_nil))))) (fun i_ hi_ hs_ => ?_) (fun i_ hi_ => ?_) ?_
                · match i_, hi_ with
                  | 0, _ =>
                    intro val fl w1 a hb ha hd hfl
                    have ha := ha.sub (Sub.ins (d := 2) (Sub.nil _) rfl)
                    exact ss_val ha rfl rfl (fa_25_0 rfl) rfl rfl
                  | 1, _ =>
                    intro val fl w1 a hb ha hd hfl
                    have e0 : val 0 = .pointer (some ⟨g1, 0, none⟩) := hd 0 (memB_mem.1 rfl)
                    have ha := ha.sub (Sub.ins (d := 149) (Sub.nil _) (dep_get rfl e0))
                    exact ss_val ha rfl rfl (ld_3 rfl ((q2y.below hb q2y.lt).at (j := 0) rfl)) rfl rfl
                  | 2, _ =>
                    intro val fl w1 a hb ha hd hfl
                    have ha := ha.sub (Sub.ins (d := 2) (Sub.nil _) rfl)
                    exact ss_val ha rfl rfl (fa_25_1 rfl) rfl rfl
                  | 3, _ =>
                    intro val fl w1 a hb ha hd hfl
                    have e2 : val 2 = .pointer (some ⟨g1, 1, none⟩) := hd 2 (memB_mem.1 rfl)
                    have ha := ha.sub (Sub.ins (d := 151) (Sub.nil _) (dep_get rfl e2))
                    exact ss_val ha rfl rfl (ld_22 rfl ((q2y.below hb q2y.lt).at (j := 1) rfl)) rfl rfl
                  | 4, _ =>
                    intro val fl w1 a hb ha hd hfl
                    have e1 : val 1 = .int .i64 c.events := hd 1 (memB_mem.1 rfl)
                    have e3 : val 3 = .slice Ac c.clocks.length cc_ := hd 3 (memB_mem.1 rfl)
                    have ha := ha.sub (Sub.ins (d := 152) (Sub.ins (d := 150) (Sub.nil _) (dep_get rfl e1)) (dep_get rfl e3))
                    exact ss_val ha rfl rfl (bd_25_0_1 rfl rfl) rfl rfl
                  | 5, _ =>
                    intro val fl w1 a hb ha hd hfl
                    have ha := ha.sub (Sub.ins (d := 2) (Sub.nil _) rfl)
                    exact ss_val ha rfl rfl (fa_25_0 rfl) rfl rfl
                  | 6, _ =>
                    intro val fl w1 a hb ha hd hfl
                    have e5 : val 5 = .pointer (some ⟨g1, 0, none⟩) := hd 5 (memB_mem.1 rfl)
                    have ha := ha.sub (Sub.ins (d := 154) (Sub.nil _) (dep_get rfl e5))
                    exact ss_val ha rfl rfl (ld_3 rfl ((q2y.below hb q2y.lt).at (j := 0) rfl)) rfl rfl
                  | 7, _ =>
                    intro val fl w1 a hb ha hd hfl
                    have ha := ha.sub (Sub.ins (d := 2) (Sub.nil _) rfl)
                    exact ss_val ha rfl rfl (fa_25_1 rfl) rfl rfl
                  | 8, _ =>
                    intro val fl w1 a hb ha hd hfl
                    have e7 : val 7 = .pointer (some ⟨g1, 1, none⟩) := hd 7 (memB_mem.1 rfl)
                    have ha := ha.sub (Sub.ins (d := 156) (Sub.nil _) (dep_get rfl e7))
                    exact ss_val ha rfl rfl (ld_22 rfl ((q2y.below hb q2y.lt).at (j := 1) rfl)) rfl rfl
                  | 9, _ =>
                    intro val fl w1 a hb ha hd hfl
                    have e6 : val 6 = .int .i64 c.events := hd 6 (memB_mem.1 rfl)
                    have e8 : val 8 = .slice Ac c.clocks.length cc_ := hd 8 (memB_mem.1 rfl)
                    have ha := ha.sub (Sub.ins (d := 157) (Sub.ins (d := 155) (Sub.nil _) (dep_get rfl e6)) (dep_get rfl e8))
                    exact ss_val ha rfl rfl (bd_25_0_1 rfl rfl) rfl rfl
                  | 10, _ =>
                    intro val fl w1 a hb ha hd hfl
                    have ha := ha.sub (Sub.nil _)
                    exact ss_newP ha rfl rfl al_25 (fun g w' hq _ hge => ⟨g, rfl, Nat.le_trans hb.size hge, fun _ => hq⟩)
                  | 11, _ =>
                    intro val fl w1 a hb ha hd hfl
                    have ha := ha.sub (Sub.nil _)
                    exact ss_newP ha rfl rfl al_25 (fun g w' hq _ hge => ⟨g, rfl, Nat.le_trans hb.size hge, fun _ => hq⟩)
                  | 12, _ =>
                    exact absurd (by simp) hs_
                  | 13, _ =>
                    exact absurd (by simp) hs_
                  | k + 14, h => exact absurd h (by omega)
                · simp only [List.mem_cons, List.not_mem_nil, or_false] at hi_; rcases hi_ with rfl | rfl
                  ·
                    intro val fl w1 a hb hfi ha hd hfl
                    obtain ⟨g10_, e10, hg10_, q10_⟩ := hd 10 (memB_mem.1 rfl)
                    change val 10 = _ at e10
                    have e4 : val 4 = .agg #[.int .i64 c.events, .slice Ac c.clocks.length cc_, .slice none 0 0] := hd 4 (memB_mem.1 rfl)
                    have ha := ha.sub (Sub.ins (d := 153) (Sub.ins (d := 14) (Sub.nil _) (dep_get rfl e10)) (dep_get rfl e4))
                    refine ts_store ha rfl rfl rfl (q10_ hfi) sz_25 rfl rfl rfl rfl ?_
                    intro w' hq hgr
                    refine ⟨undef, rfl, hgr.size, below_store hb hgr hg10_, ⟨g10_, e10, hq⟩, fun j _ hj hn hA => ?_⟩
                    exact phiS_cons_st (C := fun j => j ≠ 12 ∧ 12 ∉ clsAt [[], [0], [], [2], [0, 1, 2, 3], [], [5], [], [7], [5, 6, 7, 8], [], [], [0, 1, 2, 3, 4, 10, 11], [0, 1, 2, 3, 4, 5, 6, 7, 8, 9, 10, 11, 12]] j ∧ ∀ p ∈ [10, 11], (p = j ∨ p ∈ clsAt [[], [0], [], [2], [0, 1, 2, 3], [], [5], [], [7], [5, 6, 7, 8], [], [], [0, 1, 2, 3, 4, 10, 11], [0, 1, 2, 3, 4, 5, 6, 7, 8, 9, 10, 11, 12]] j) → ∀ q ∈ [10, 11], (q = 12 ∨ q ∈ clsAt [[], [0], [], [2], [0, 1, 2, 3], [], [5], [], [7], [5, 6, 7, 8], [], [], [0, 1, 2, 3, 4, 10, 11], [0, 1, 2, 3, 4, 5, 6, 7, 8, 9, 10, 11, 12]] 12) → p ≠ q → val p ≠ val q) (fun _ ⟨g, h1, h2, _⟩ => ⟨g, h1, h2, fun h => by rw [fset_eq] at h; cases h⟩) (phiS_cons_st (C := fun j => j ≠ 12 ∧ 12 ∉ clsAt [[], [0], [], [2], [0, 1, 2, 3], [], [5], [], [7], [5, 6, 7, 8], [], [], [0, 1, 2, 3, 4, 10, 11], [0, 1, 2, 3, 4, 5, 6, 7, 8, 9, 10, 11, 12]] j ∧ ∀ p ∈ [10, 11], (p = j ∨ p ∈ clsAt [[], [0], [], [2], [0, 1, 2, 3], [], [5], [], [7], [5, 6, 7, 8], [], [], [0, 1, 2, 3, 4, 10, 11], [0, 1, 2, 3, 4, 5, 6, 7, 8, 9, 10, 11, 12]] j) → ∀ q ∈ [10, 11], (q = 12 ∨ q ∈ clsAt [[], [0], [], [2], [0, 1, 2, 3], [], [5], [], [7], [5, 6, 7, 8], [], [], [0, 1, 2, 3, 4, 10, 11], [0, 1, 2, 3, 4, 5, 6, 7, 8, 9, 10, 11, 12]] 12) → p ≠ q → val p ≠ val q) (fun hc ⟨g, h1, h2, h3⟩ => ⟨g, h1, h2, fun h => (h3 (by rwa [fset_ne rfl] at h)).grown hgr (fun h => hc.2.2 11 (by simp) (.inl rfl) 10 (by simp) (.inr (memB_mem.1 rfl)) (by simp) (by have h1' : val 11 = _ := h1; rw [h1', e10]; injection h with h; rw [h]))⟩) (phiS_cons_st (C := fun j => j ≠ 12 ∧ 12 ∉ clsAt [[], [0], [], [2], [0, 1, 2, 3], [], [5], [], [7], [5, 6, 7, 8], [], [], [0, 1, 2, 3, 4, 10, 11], [0, 1, 2, 3, 4, 5, 6, 7, 8, 9, 10, 11, 12]] j ∧ ∀ p ∈ [10, 11], (p = j ∨ p ∈ clsAt [[], [0], [], [2], [0, 1, 2, 3], [], [5], [], [7], [5, 6, 7, 8], [], [], [0, 1, 2, 3, 4, 10, 11], [0, 1, 2, 3, 4, 5, 6, 7, 8, 9, 10, 11, 12]] j) → ∀ q ∈ [10, 11], (q = 12 ∨ q ∈ clsAt [[], [0], [], [2], [0, 1, 2, 3], [], [5], [], [7], [5, 6, 7, 8], [], [], [0, 1, 2, 3, 4, 10, 11], [0, 1, 2, 3, 4, 5, 6, 7, 8, 9, 10, 11, 12]] 12) → p ≠ q → val p ≠ val q) (fun hc => absurd rfl hc.1) (phiS_cons_st (C := fun j => j ≠ 12 ∧ 12 ∉ clsAt [[], [0], [], [2], [0, 1, 2, 3], [], [5], [], [7], [5, 6, 7, 8], [], [], [0, 1, 2, 3, 4, 10, 11], [0, 1, 2, 3, 4, 5, 6, 7, 8, 9, 10, 11, 12]] j ∧ ∀ p ∈ [10, 11], (p = j ∨ p ∈ clsAt [[], [0], [], [2], [0, 1, 2, 3], [], [5], [], [7], [5, 6, 7, 8], [], [], [0, 1, 2, 3, 4, 10, 11], [0, 1, 2, 3, 4, 5, 6, 7, 8, 9, 10, 11, 12]] j) → ∀ q ∈ [10, 11], (q = 12 ∨ q ∈ clsAt [[], [0], [], [2], [0, 1, 2, 3], [], [5], [], [7], [5, 6, 7, 8], [], [], [0, 1, 2, 3, 4, 10, 11], [0, 1, 2, 3, 4, 5, 6, 7, 8, 9, 10, 11, 12]] 12) → p ≠ q → val p ≠ val q) (fun hc ⟨g, h1, h2⟩ => ⟨g, h1, h2.grown hgr (fun h => hc.2.2 11 (by simp) (.inr (memB_mem.1 rfl)) 10 (by simp) (.inr (memB_mem.1 rfl)) (by simp) (by have h1' : val 11 = _ := h1; rw [h1', e10]; injection h with h; rw [h]))⟩) (fun _ _ h => h)))) j ⟨hj, hn, hA⟩
                  ·
                    intro val fl w1 a hb hfi ha hd hfl
                    obtain ⟨g11_, e11, hg11_, q11_⟩ := hd 11 (memB_mem.1 rfl)
                    change val 11 = _ at e11
                    have e9 : val 9 = .agg #[.int .i64 c.events, .slice Ac c.clocks.length cc_, .slice none 0 0] := hd 9 (memB_mem.1 rfl)
                    have ha := ha.sub (Sub.ins (d := 158) (Sub.ins (d := 15) (Sub.nil _) (dep_get rfl e11)) (dep_get rfl e9))
                    refine ts_store ha rfl rfl rfl (q11_ hfi) sz_25 rfl rfl rfl rfl ?_
                    intro w' hq hgr
                    refine ⟨undef, rfl, hgr.size, below_store hb hgr hg11_, ⟨g11_, e11, hq⟩, fun j _ hj hn hA => ?_⟩
                    exact phiS_cons_st (C := fun j => j ≠ 13 ∧ 13 ∉ clsAt [[], [0], [], [2], [0, 1, 2, 3], [], [5], [], [7], [5, 6, 7, 8], [], [], [0, 1, 2, 3, 4, 10, 11], [0, 1, 2, 3, 4, 5, 6, 7, 8, 9, 10, 11, 12]] j ∧ ∀ p ∈ [10, 11], (p = j ∨ p ∈ clsAt [[], [0], [], [2], [0, 1, 2, 3], [], [5], [], [7], [5, 6, 7, 8], [], [], [0, 1, 2, 3, 4, 10, 11], [0, 1, 2, 3, 4, 5, 6, 7, 8, 9, 10, 11, 12]] j) → ∀ q ∈ [10, 11], (q = 13 ∨ q ∈ clsAt [[], [0], [], [2], [0, 1, 2, 3], [], [5], [], [7], [5, 6, 7, 8], [], [], [0, 1, 2, 3, 4, 10, 11], [0, 1, 2, 3, 4, 5, 6, 7, 8, 9, 10, 11, 12]] 13) → p ≠ q → val p ≠ val q) (fun hc ⟨g, h1, h2, h3⟩ => ⟨g, h1, h2, fun h => (h3 (by rwa [fset_ne rfl] at h)).grown hgr (fun h => hc.2.2 10 (by simp) (.inl rfl) 11 (by simp) (.inr (memB_mem.1 rfl)) (by simp) (by have h1' : val 10 = _ := h1; rw [h1', e11]; injection h with h; rw [h]))⟩) (phiS_cons_st (C := fun j => j ≠ 13 ∧ 13 ∉ clsAt [[], [0], [], [2], [0, 1, 2, 3], [], [5], [], [7], [5, 6, 7, 8], [], [], [0, 1, 2, 3, 4, 10, 11], [0, 1, 2, 3, 4, 5, 6, 7, 8, 9, 10, 11, 12]] j ∧ ∀ p ∈ [10, 11], (p = j ∨ p ∈ clsAt [[], [0], [], [2], [0, 1, 2, 3], [], [5], [], [7], [5, 6, 7, 8], [], [], [0, 1, 2, 3, 4, 10, 11], [0, 1, 2, 3, 4, 5, 6, 7, 8, 9, 10, 11, 12]] j) → ∀ q ∈ [10, 11], (q = 13 ∨ q ∈ clsAt [[], [0], [], [2], [0, 1, 2, 3], [], [5], [], [7], [5, 6, 7, 8], [], [], [0, 1, 2, 3, 4, 10, 11], [0, 1, 2, 3, 4, 5, 6, 7, 8, 9, 10, 11, 12]] 13) → p ≠ q → val p ≠ val q) (fun _ ⟨g, h1, h2, _⟩ => ⟨g, h1, h2, fun h => by rw [fset_eq] at h; cases h⟩) (phiS_cons_st (C := fun j => j ≠ 13 ∧ 13 ∉ clsAt [[], [0], [], [2], [0, 1, 2, 3], [], [5], [], [7], [5, 6, 7, 8], [], [], [0, 1, 2, 3, 4, 10, 11], [0, 1, 2, 3, 4, 5, 6, 7, 8, 9, 10, 11, 12]] j ∧ ∀ p ∈ [10, 11], (p = j ∨ p ∈ clsAt [[], [0], [], [2], [0, 1, 2, 3], [], [5], [], [7], [5, 6, 7, 8], [], [], [0, 1, 2, 3, 4, 10, 11], [0, 1, 2, 3, 4, 5, 6, 7, 8, 9, 10, 11, 12]] j) → ∀ q ∈ [10, 11], (q = 13 ∨ q ∈ clsAt [[], [0], [], [2], [0, 1, 2, 3], [], [5], [], [7], [5, 6, 7, 8], [], [], [0, 1, 2, 3, 4, 10, 11], [0, 1, 2, 3, 4, 5, 6, 7, 8, 9, 10, 11, 12]] 13) → p ≠ q → val p ≠ val q) (fun hc ⟨g, h1, h2⟩ => ⟨g, h1, h2.grown hgr (fun h => hc.2.2 10 (by simp) (.inr (memB_mem.1 rfl)) 11 (by simp) (.inr (memB_mem.1 rfl)) (by simp) (by have h1' : val 10 = _ := h1; rw [h1', e11]; injection h with h; rw [h]))⟩) (phiS_cons_st (C := fun j => j ≠ 13 ∧ 13 ∉ clsAt [[], [0], [], [2], [0, 1, 2, 3], [], [5], [], [7], [5, 6, 7, 8], [], [], [0, 1, 2, 3, 4, 10, 11], [0, 1, 2, 3, 4, 5, 6, 7, 8, 9, 10, 11, 12]] j ∧ ∀ p ∈ [10, 11], (p = j ∨ p ∈ clsAt [[], [0], [], [2], [0, 1, 2, 3], [], [5], [], [7], [5, 6, 7, 8], [], [], [0, 1, 2, 3, 4, 10, 11], [0, 1, 2, 3, 4, 5, 6, 7, 8, 9, 10, 11, 12]] j) → ∀ q ∈ [10, 11], (q = 13 ∨ q ∈ clsAt [[], [0], [], [2], [0, 1, 2, 3], [], [5], [], [7], [5, 6, 7, 8], [], [], [0, 1, 2, 3, 4, 10, 11], [0, 1, 2, 3, 4, 5, 6, 7, 8, 9, 10, 11, 12]] 13) → p ≠ q → val p ≠ val q) (fun hc => absurd rfl hc.1) (fun _ _ h => h)))) j ⟨hj, hn, hA⟩
                · intro val fl wR28 hfl hb halc hd
                  have e0 : val 0 = .pointer (some ⟨g1, 0, none⟩) := hd 0 (by omega)
                  have e1 : val 1 = .int .i64 c.events := hd 1 (by omega)
                  have e2 : val 2 = .pointer (some ⟨g1, 1, none⟩) := hd 2 (by omega)
                  have e3 : val 3 = .slice Ac c.clocks.length cc_ := hd 3 (by omega)
                  have e4 : val 4 = .agg #[.int .i64 c.events, .slice Ac c.clocks.length cc_, .slice none 0 0] := hd 4 (by omega)
                  have e5 : val 5 = .pointer (some ⟨g1, 0, none⟩) := hd 5 (by omega)
                  have e6 : val 6 = .int .i64 c.events := hd 6 (by omega)
                  have e7 : val 7 = .pointer (some ⟨g1, 1, none⟩) := hd 7 (by omega)
                  have e8 : val 8 = .slice Ac c.clocks.length cc_ := hd 8 (by omega)
                  have e9 : val 9 = .agg #[.int .i64 c.events, .slice Ac c.clocks.length cc_, .slice none 0 0] := hd 9 (by omega)
                  obtain ⟨ga10_28, e10, qa10_28⟩ := hd 12 (by omega)
                  change val 10 = _ at e10
                  obtain ⟨ga11_28, e11, qa11_28⟩ := hd 13 (by omega)
                  change val 11 = _ at e11
                  refine EL.ends (cs := [.pointer (some ⟨g1, 0, none⟩), .int .i64 c.events, .pointer (some ⟨g1, 1, none⟩), .slice Ac c.clocks.length cc_, .agg #[.int .i64 c.events, .slice Ac c.clocks.length cc_, .slice none 0 0], .pointer (some ⟨g1, 0, none⟩), .int .i64 c.events, .pointer (some ⟨g1, 1, none⟩), .slice Ac c.clocks.length cc_, .agg #[.int .i64 c.events, .slice Ac c.clocks.length cc_, .slice none 0 0], .pointer (some ⟨ga10_28, 0, none⟩), .pointer (some ⟨ga11_28, 0, none⟩), val 12, val 13]) ⟨e0, e1, e2, e3, e4, e5, e6, e7, e8, e9, e10, e11, rfl, rfl, trivial⟩ rfl ?_
                  replace q2y := q2y.below hb q2y.lt
                  replace hs1 := hs1.below hb
                  replace hs2 := hs2.below hb
                  have bge15 := alc_ge halc (i := 10) rfl rfl e10
                  have n1_15 : g1 ≠ ga10_28 := Nat.ne_of_lt (Nat.lt_of_lt_of_le lt_1 bge15)
                  have bhbw_15 := Nat.le_trans hbw.size bge15
                  have bhbQ_15 := Nat.le_trans hbQ.size bge15
                  have bge16 := alc_ge halc (i := 11) rfl rfl e11
                  have n1_16 : g1 ≠ ga11_28 := Nat.ne_of_lt (Nat.lt_of_lt_of_le lt_1 bge16)
                  have n15_16 : ga10_28 ≠ ga11_28 := alc_ne halc (i := 10) (j := 11) rfl rfl rfl rfl rfl e10 e11
                  have bhbw_16 := Nat.le_trans hbw.size bge16
                  have bhbQ_16 := Nat.le_trans hbQ.size bge16
                  replace hbw := Below.on hbw hb hbw.size
                  replace hbQ := Below.on hbQ hb hbQ.size
                  refine EL.nil ?_
                  refine EX.seq ?_
                  refine EC.seq ?_
                  refine EC.seq ?_
                  refine EC.region ?_
                  refine EL.val (x_assign rfl) rfl ?_
                  refine EL.nil ?_
                  refine EX.seq ?_
                  refine EC.block ?_
                  refine EC.loopD [16, 159, 160, 161, 162, 163, 164, 165, 166, 167, 168, 169, 170, 171, 172, 173, 174, 175, 176, 177, 178, 179, 180, 181, 182, 183, 184, 185, 186, 187, 188, 189, 190, 191, 192, 193] (fun k : Nat × Value × Value × List Value × List Value => [(16, .int .i64 (k.1 : Nat))]) (fun k W => k.1 ≤ c.clues.length ∧ Blk W g1 25 #[.int .i64 c.events, .slice Ac c.clocks.length cc_, .slice Al c.clues.length cl_] ∧ Blk W ga10_28 25 #[.int .i64 c.events, .slice Ac c.clocks.length cc_, k.2.1] ∧ Blk W ga11_28 25 #[.int .i64 c.events, .slice Ac c.clocks.length cc_, k.2.2.1] ∧ W.ownsRow w9.heap.size 74 1 k.2.1 (withoutL c S k.1).length k.2.2.2.1 ∧ k.2.2.2.1.length = (withoutL c S k.1).length ∧ (∀ i, i < (withoutL c S k.1).length → Rd w B 6 (k.2.2.2.1.getD i undef) ((withoutL c S k.1).getD i []).length (optsC ((withoutL c S k.1).getD i []))) ∧ W.ownsRow w9.heap.size 74 1 k.2.2.1 (withoutL c (someL b x c.clues.length y) k.1).length k.2.2.2.2 ∧ k.2.2.2.2.length = (withoutL c (someL b x c.clues.length y) k.1).length ∧ (∀ i, i < (withoutL c (someL b x c.clues.length y) k.1).length → Rd w B 6 (k.2.2.2.2.getD i undef) ((withoutL c (someL b x c.clues.length y) k.1).getD i []).length (optsC ((withoutL c (someL b x c.clues.length y) k.1).getD i []))) ∧ Apart k.2.1 k.2.2.1 ∧ SetAt W m1_ y (setS S) ∧ SetAt W m2_ y (setS (someL b x c.clues.length y)) ∧ Below w.heap.size w W ∧ Below w9.heap.size w9 W) (fun k => c.clues.length - k.1) (0, .slice none 0 0, .slice none 0 0, [], []) ⟨Nat.zero_le _, q2y, qa10_28, qa11_28, own_none, rfl, fun i hi => absurd hi (Nat.not_lt_zero _), own_none, rfl, fun i hi => absurd hi (Nat.not_lt_zero _), Apart.nil_left _, hs1, hs2, hbw, hbQ⟩ ⟨rfl, trivial⟩ ?_
                  clear q2y qa10_28 qa11_28 hbw hbQ hs1 hs2
                  rintro ⟨k, vR, vM, lR, lM⟩ wz ⟨hk, q2z, q14z, q15z, hoR, hlR, hrR, hoM, hlM, hrM, hap, hs1, hs2, hbw, hbQ⟩
                  dsimp only at hk q14z q15z hoR hlR hrR hoM hlM hrM hap
                  obtain ⟨AR, cR, eR, _⟩ := (Rd.of_own hoR).shape
                  subst eR
                  obtain ⟨AM, cM, eM, _⟩ := (Rd.of_own hoM).shape
                  subst eM
                  have hwR := withoutL_len (c := c) (set := S) k
                  have hwM := withoutL_len (c := c) (set := (someL b x c.clues.length y)) k
                  by_cases hlk : k < c.clues.length
                  ·
                    obtain ⟨bl, ol, e_, _, hcell⟩ := rdll_cell hr.clues k hlk
                    subst e_
                    have hrow := hr.clues.row k hlk
                    obtain ⟨Ao, co, eo, _⟩ := hrow.shape
                    rw [eo] at hcell hrow
                    by_cases hR : ((k : Nat) : Int) ∈ S
                    ·
                      by_cases hM : ((k : Nat) : Int) ∈ (someL b x c.clues.length y)
                      ·
                        refine EC.seq ?_
                        refine EC.seq ?_
                        refine EC.region ?_
                        refine EL.val (x_move rfl) rfl ?_
                        refine EL.val (fa_25_2 rfl) rfl ?_
                        refine EL.val (ld_23 rfl (q2z.at (j := 2) rfl)) rfl ?_
                        refine EL.val (ln_23 rfl) rfl ?_
                        refine EL.val (x_lss rfl rfl (decide_eq_true (show (((k : Nat) : Int) < ((c.clues.length : Nat) : Int)) by omega))) rfl ?_
                        refine EL.nil ?_
                        refine EX.seq ?_
                        refine EC.yes rfl ?_
                        refine EC.skip ?_
                        refine EX.seq ?_
                        refine EC.seq ?_
                        refine EC.block ?_
                        refine EC.seq ?_
                        refine EC.seq ?_
                        refine EC.region ?_
                        refine EL.val (x_move rfl) rfl ?_
                        refine EL.val (x_move rfl) rfl ?_
                        refine EL.val (look_set (r := true) rfl rfl hs1 (by omega) (set_dec hR)) rfl ?_
                        refine EL.val (x_not rfl) rfl ?_
                        refine EL.nil ?_
                        refine EX.seq ?_
                        refine EC.no rfl ?_
                        refine EC.skip ?_
                        refine EX.seq ?_
                        refine EC.seq ?_
                        refine EC.region ?_
                        refine EL.val (x_move rfl) rfl ?_
                        refine EL.val (x_move rfl) rfl ?_
                        refine EL.val (look_set (r := true) rfl rfl hs2 (by omega) (set_dec hM)) rfl ?_
                        refine EL.val (x_not rfl) rfl ?_
                        refine EL.nil ?_
                        refine EX.seq ?_
                        refine EC.no rfl ?_
                        refine EC.skip ?_
                        refine EX.blk ?_
                        refine EX.seq ?_
                        refine EC.region ?_
                        refine EL.val (x_move rfl) rfl ?_
                        refine EL.val (x_add rfl rfl (c := ((k + 1 : Nat) : Int)) ((IntWalk.i64_in _ ⟨by first | omega | (simp only; omega), by first | omega | (simp only; omega)⟩).trans (by first | omega | (simp only; omega)))) rfl ?_
                        refine EL.val (x_assign rfl) rfl ?_
                        refine EL.nil ?_
                        refine EX.roundD (k + 1, _, _, lR, lM) ⟨rfl, trivial⟩ (by repeat first | with_reducible exact Sub.refl _ | refine sub_past rfl ?_ | exact Sub.refl _ | refine sub_del rfl ?_ | refine sub_insL_nil ?_) ⟨hlk, q2z, q14z, q15z, by rw [without_succ_in hR]; exact hoR, by rw [without_succ_in hR]; exact hlR, by rw [without_succ_in hR]; exact hrR, by rw [without_succ_in hM]; exact hoM, by rw [without_succ_in hM]; exact hlM, by rw [without_succ_in hM]; exact hrM, hap, hs1, hs2, hbw, hbQ⟩ (by simp only; omega)
                      ·
                        refine EC.seq ?_
                        refine EC.seq ?_
                        refine EC.region ?_
                        refine EL.val (x_move rfl) rfl ?_
                        refine EL.val (fa_25_2 rfl) rfl ?_
                        refine EL.val (ld_23 rfl (q2z.at (j := 2) rfl)) rfl ?_
                        refine EL.val (ln_23 rfl) rfl ?_
                        refine EL.val (x_lss rfl rfl (decide_eq_true (show (((k : Nat) : Int) < ((c.clues.length : Nat) : Int)) by omega))) rfl ?_
                        refine EL.nil ?_
                        refine EX.seq ?_
                        refine EC.yes rfl ?_
                        refine EC.skip ?_
                        refine EX.seq ?_
                        refine EC.seq ?_
                        refine EC.block ?_
                        refine EC.seq ?_
                        refine EC.seq ?_
                        refine EC.region ?_
                        refine EL.val (x_move rfl) rfl ?_
                        refine EL.val (x_move rfl) rfl ?_
                        refine EL.val (look_set (r := true) rfl rfl hs1 (by omega) (set_dec hR)) rfl ?_
                        refine EL.val (x_not rfl) rfl ?_
                        refine EL.nil ?_
                        refine EX.seq ?_
                        refine EC.no rfl ?_
                        refine EC.skip ?_
                        refine EX.seq ?_
                        refine EC.seq ?_
                        refine EC.region ?_
                        refine EL.val (x_move rfl) rfl ?_
                        refine EL.val (x_move rfl) rfl ?_
                        refine EL.val (look_set (r := false) rfl rfl hs2 (by omega) (set_dec hM)) rfl ?_
                        refine EL.val (x_not rfl) rfl ?_
                        refine EL.nil ?_
                        refine EX.seq ?_
                        refine EC.yes rfl ?_
                        have lt_1 := q2z.lt
                        have lt_15 := q14z.lt
                        have lt_16 := q15z.lt
                        refine EC.regionP [[], [0], [], [2], [], [2, 3, 4], [2, 3, 4, 5], [2, 3, 4, 5, 6], [0, 1, 2, 3, 4, 5, 6, 7], [0, 1, 2, 3, 4, 5, 6, 7, 8], [0, 1, 2, 3, 4, 5, 6, 7, 8, 9]] 8 [] (phi (fun i_ r => match i_ with | 0 => r 0 = .pointer (some ⟨ga11_28, 2, none⟩) | 1 => r 1 = .slice AM (withoutL c (someL b x c.clues.length y) k).length cM | 2 => r 2 = .pointer (some ⟨g1, 2, none⟩) | 3 => r 3 = .slice (some ⟨bl, ol, none⟩) c.clues.length cl_ | 4 => r 4 = .int .i64 (k : Nat) | 5 => r 5 = .pointer (some ⟨bl, ol + k, none⟩) | 6 => r 6 = .agg #[.slice Ao (c.clues.getD k []).length co] | _ => True) [(7, fun r w_ => ∃ g_, r 7 = .slice (some ⟨g_, 0, none⟩) 1 1 ∧ Blk w_ g_ 74 #[.slice Ao (c.clues.getD k []).length co] ∧ wz.heap.size ≤ g_)]) (by kernel_rfl) rfl rfl (phi_cons mono_bs (phi_nil)) (fun i_ hi_ => ?_) ?_
                        · match i_, hi_ with
                          | 0, _ =>
                            intro val w1 a hb ha hd
                            have ha := ha.sub (Sub.ins (d := 15) (Sub.nil _) rfl)
                            exact hs_val ha rfl rfl (fa_25_2 rfl) rfl rfl
                          | 1, _ =>
                            intro val w1 a hb ha hd
                            have e0 : val 0 = .pointer (some ⟨ga11_28, 2, none⟩) := hd 0 (memB_mem.1 rfl)
                            have ha := ha.sub (Sub.ins (d := 184) (Sub.nil _) (dep_get rfl e0))
                            exact hs_val ha rfl rfl (ld_23 rfl ((q15z.below hb q15z.lt).at (j := 2) rfl)) rfl rfl
                          | 2, _ =>
                            intro val w1 a hb ha hd
                            have ha := ha.sub (Sub.ins (d := 2) (Sub.nil _) rfl)
                            exact hs_val ha rfl rfl (fa_25_2 rfl) rfl rfl
                          | 3, _ =>
                            intro val w1 a hb ha hd
                            have e2 : val 2 = .pointer (some ⟨g1, 2, none⟩) := hd 2 (memB_mem.1 rfl)
                            have ha := ha.sub (Sub.ins (d := 186) (Sub.nil _) (dep_get rfl e2))
                            exact hs_val ha rfl rfl (ld_23 rfl ((q2z.below hb q2z.lt).at (j := 2) rfl)) rfl rfl
                          | 4, _ =>
                            intro val w1 a hb ha hd
                            have ha := ha.sub (Sub.ins (d := 16) (Sub.nil _) rfl)
                            exact hs_val ha rfl rfl (x_move rfl) rfl rfl
                          | 5, _ =>
                            intro val w1 a hb ha hd
                            have e3 : val 3 = .slice (some ⟨bl, ol, none⟩) c.clues.length cl_ := hd 3 (memB_mem.1 rfl)
                            have e4 : val 4 = .int .i64 (k : Nat) := hd 4 (memB_mem.1 rfl)
                            have ha := ha.sub (Sub.ins (d := 188) (Sub.ins (d := 187) (Sub.nil _) (dep_get rfl e3)) (dep_get rfl e4))
                            exact hs_val ha rfl rfl (ix_23 rfl rfl hlk) rfl rfl
                          | 6, _ =>
                            intro val w1 a hb ha hd
                            have e5 : val 5 = .pointer (some ⟨bl, ol + k, none⟩) := hd 5 (memB_mem.1 rfl)
                            have ha := ha.sub (Sub.ins (d := 189) (Sub.nil _) (dep_get rfl e5))
                            exact hs_val ha rfl rfl (ld_74 rfl (below_load (Below.on hbw hb hbw.size) hcell)) rfl rfl
                          | 7, _ =>
                            intro val w1 a hb ha hd
                            have e6 : val 6 = .agg #[.slice Ao (c.clues.getD k []).length co] := hd 6 (memB_mem.1 rfl)
                            have ha := ha.sub (Sub.ins (d := 190) (Sub.nil _) (dep_get rfl e6))
                            exact hs_newS ha rfl rfl (bs_23_1 rfl) rfl (fun g w' hq _ hge => ⟨g, rfl, hq, Nat.le_trans hb.size hge⟩)
                          | k + 8, h => exact absurd h (by omega)
                        · intro val wR35 hb halc hd
                          have e0 : val 0 = .pointer (some ⟨ga11_28, 2, none⟩) := hd 0 (by omega)
                          have e1 : val 1 = .slice AM (withoutL c (someL b x c.clues.length y) k).length cM := hd 1 (by omega)
                          have e2 : val 2 = .pointer (some ⟨g1, 2, none⟩) := hd 2 (by omega)
                          have e3 : val 3 = .slice (some ⟨bl, ol, none⟩) c.clues.length cl_ := hd 3 (by omega)
                          have e4 : val 4 = .int .i64 (k : Nat) := hd 4 (by omega)
                          have e5 : val 5 = .pointer (some ⟨bl, ol + k, none⟩) := hd 5 (by omega)
                          have e6 : val 6 = .agg #[.slice Ao (c.clues.getD k []).length co] := hd 6 (by omega)
                          obtain ⟨ga7_35, e7, qa7_35, hga7_35⟩ := hd 7 (by omega)
                          change val 7 = _ at e7
                          change Blk wR35 ga7_35 74 #[.slice Ao (c.clues.getD k []).length co] at qa7_35
                          refine EL.ends (cs := [.pointer (some ⟨ga11_28, 2, none⟩), .slice AM (withoutL c (someL b x c.clues.length y) k).length cM, .pointer (some ⟨g1, 2, none⟩), .slice (some ⟨bl, ol, none⟩) c.clues.length cl_, .int .i64 (k : Nat), .pointer (some ⟨bl, ol + k, none⟩), .agg #[.slice Ao (c.clues.getD k []).length co], .slice (some ⟨ga7_35, 0, none⟩) 1 1]) ⟨e0, e1, e2, e3, e4, e5, e6, e7, trivial⟩ rfl ?_
                          replace q2z := q2z.below hb q2z.lt
                          replace q14z := q14z.below hb q14z.lt
                          replace q15z := q15z.below hb q15z.lt
                          replace hoR := own_below hoR hb (Nat.le_refl _)
                          replace hoM := own_below hoM hb (Nat.le_refl _)
                          replace hs1 := hs1.below hb
                          replace hs2 := hs2.below hb
                          have n1_17 : g1 ≠ ga7_35 := Nat.ne_of_lt (Nat.lt_of_lt_of_le lt_1 hga7_35)
                          have n15_17 : ga10_28 ≠ ga7_35 := Nat.ne_of_lt (Nat.lt_of_lt_of_le lt_15 hga7_35)
                          have n16_17 : ga11_28 ≠ ga7_35 := Nat.ne_of_lt (Nat.lt_of_lt_of_le lt_16 hga7_35)
                          have bhbw_17 := Nat.le_trans hbw.size hga7_35
                          have bhbQ_17 := Nat.le_trans hbQ.size hga7_35
                          replace hbw := Below.on hbw hb hbw.size
                          replace hbQ := Below.on hbQ hb hbQ.size
                          clear hb
                          refine EL.push clue_elem rfl rfl hoM (rd_one (l := [.slice Ao (c.clues.getD k []).length co]) qa7_35 rfl) (by intro u hu; rw [List.mem_singleton.1 hu]; rfl) (by omega) rfl hbQ.size rfl ?_
                          intro v18 w18 hoMn hgr hb_ hat
                          replace q2z := blk_grown q2z hoM rfl hgr
                          replace q14z := blk_grown q14z hoM rfl hgr
                          replace q15z := blk_grown q15z hoM rfl hgr
                          replace hs1 := hs1.grown hoM hgr
                          replace hs2 := hs2.grown hoM hgr
                          have hap2 := (apart_push hap.symm hoR hat).symm
                          replace hoR := own_apart hoR hgr hap.symm
                          clear hap
                          have hap := hap2
                          clear hap2
                          replace hbw := hbw.trans (hb_.mono hszQ)
                          replace hbQ := hbQ.trans hb_
                          clear hoM hgr hb_ hat
                          obtain ⟨A18, c18, e18, _⟩ := (Rd.of_own hoMn).shape
                          subst e18
                          refine EL.val (fa_25_2 rfl) rfl ?_
                          refine EL.store rfl rfl q15z sz_23 rfl rfl rfl rfl ?_
                          intro w19 hq19 hg19
                          replace q2z := q2z.grown hg19 (fun h => n1_16 (Option.some.inj h))
                          replace q14z := q14z.grown hg19 (fun h => n15_16 (Option.some.inj h))
                          replace hoR := own_type hoR q15z rfl hg19
                          replace hs1 := hs1.type q15z hg19
                          replace hs2 := hs2.type q15z hg19
                          replace hoMn := own_type hoMn q15z rfl hg19
                          replace hbw := below_store hbw hg19 bhbw_16
                          replace hbQ := below_store hbQ hg19 bhbQ_16
                          replace q15z := hq19
                          clear hg19 hq19
                          refine EL.nil ?_
                          refine EX.blk ?_
                          refine EX.seq ?_
                          refine EC.region ?_
                          refine EL.val (x_move rfl) rfl ?_
                          refine EL.val (x_add rfl rfl (c := ((k + 1 : Nat) : Int)) ((IntWalk.i64_in _ ⟨by first | omega | (simp only; omega), by first | omega | (simp only; omega)⟩).trans (by first | omega | (simp only; omega)))) rfl ?_
                          refine EL.val (x_assign rfl) rfl ?_
                          refine EL.nil ?_
                          refine EX.roundD (k + 1, _, _, lR, lM ++ [_]) ⟨rfl, trivial⟩ (by repeat first | with_reducible exact Sub.refl _ | refine sub_past rfl ?_ | exact Sub.refl _ | refine sub_del rfl ?_ | refine sub_insL_nil ?_) ⟨hlk, q2z, q14z, q15z, by rw [without_succ_in hR]; exact hoR, by rw [without_succ_in hR]; exact hlR, by rw [without_succ_in hR]; exact hrR, by rw [without_succ_out hM, List.length_append]; exact hoMn, by rw [without_succ_out hM, List.length_append, List.length_append, hlM]; rfl, by rw [without_succ_out hM]; exact rows_snoc hlM hrM hrow, hap, hs1, hs2, hbw, hbQ⟩ (by simp only; omega)
                    ·
                      by_cases hM : ((k : Nat) : Int) ∈ (someL b x c.clues.length y)
                      ·
                        refine EC.seq ?_
                        refine EC.seq ?_
                        refine EC.region ?_
                        refine EL.val (x_move rfl) rfl ?_
                        refine EL.val (fa_25_2 rfl) rfl ?_
                        refine EL.val (ld_23 rfl (q2z.at (j := 2) rfl)) rfl ?_
                        refine EL.val (ln_23 rfl) rfl ?_
                        refine EL.val (x_lss rfl rfl (decide_eq_true (show (((k : Nat) : Int) < ((c.clues.length : Nat) : Int)) by omega))) rfl ?_
                        refine EL.nil ?_
                        refine EX.seq ?_
                        refine EC.yes rfl ?_
                        refine EC.skip ?_
                        refine EX.seq ?_
                        refine EC.seq ?_
                        refine EC.block ?_
                        refine EC.seq ?_
                        refine EC.seq ?_
                        refine EC.region ?_
                        refine EL.val (x_move rfl) rfl ?_
                        refine EL.val (x_move rfl) rfl ?_
                        refine EL.val (look_set (r := false) rfl rfl hs1 (by omega) (set_dec hR)) rfl ?_
                        refine EL.val (x_not rfl) rfl ?_
                        refine EL.nil ?_
                        refine EX.seq ?_
                        refine EC.yes rfl ?_
                        have lt_1 := q2z.lt
                        have lt_15 := q14z.lt
                        have lt_16 := q15z.lt
                        refine EC.regionP [[], [0], [], [2], [], [2, 3, 4], [2, 3, 4, 5], [2, 3, 4, 5, 6], [0, 1, 2, 3, 4, 5, 6, 7], [0, 1, 2, 3, 4, 5, 6, 7, 8], [0, 1, 2, 3, 4, 5, 6, 7, 8, 9]] 8 [] (phi (fun i_ r => match i_ with | 0 => r 0 = .pointer (some ⟨ga10_28, 2, none⟩) | 1 => r 1 = .slice AR (withoutL c S k).length cR | 2 => r 2 = .pointer (some ⟨g1, 2, none⟩) | 3 => r 3 = .slice (some ⟨bl, ol, none⟩) c.clues.length cl_ | 4 => r 4 = .int .i64 (k : Nat) | 5 => r 5 = .pointer (some ⟨bl, ol + k, none⟩) | 6 => r 6 = .agg #[.slice Ao (c.clues.getD k []).length co] | _ => True) [(7, fun r w_ => ∃ g_, r 7 = .slice (some ⟨g_, 0, none⟩) 1 1 ∧ Blk w_ g_ 74 #[.slice Ao (c.clues.getD k []).length co] ∧ wz.heap.size ≤ g_)]) (by kernel_rfl) rfl rfl (phi_cons mono_bs (phi_nil)) (fun i_ hi_ => ?_) ?_
                        · match i_, hi_ with
                          | 0, _ =>
                            intro val w1 a hb ha hd
                            have ha := ha.sub (Sub.ins (d := 14) (Sub.nil _) rfl)
                            exact hs_val ha rfl rfl (fa_25_2 rfl) rfl rfl
                          | 1, _ =>
                            intro val w1 a hb ha hd
                            have e0 : val 0 = .pointer (some ⟨ga10_28, 2, none⟩) := hd 0 (memB_mem.1 rfl)
                            have ha := ha.sub (Sub.ins (d := 170) (Sub.nil _) (dep_get rfl e0))
                            exact hs_val ha rfl rfl (ld_23 rfl ((q14z.below hb q14z.lt).at (j := 2) rfl)) rfl rfl
                          | 2, _ =>
                            intro val w1 a hb ha hd
                            have ha := ha.sub (Sub.ins (d := 2) (Sub.nil _) rfl)
                            exact hs_val ha rfl rfl (fa_25_2 rfl) rfl rfl
                          | 3, _ =>
                            intro val w1 a hb ha hd
                            have e2 : val 2 = .pointer (some ⟨g1, 2, none⟩) := hd 2 (memB_mem.1 rfl)
                            have ha := ha.sub (Sub.ins (d := 172) (Sub.nil _) (dep_get rfl e2))
                            exact hs_val ha rfl rfl (ld_23 rfl ((q2z.below hb q2z.lt).at (j := 2) rfl)) rfl rfl
                          | 4, _ =>
                            intro val w1 a hb ha hd
                            have ha := ha.sub (Sub.ins (d := 16) (Sub.nil _) rfl)
                            exact hs_val ha rfl rfl (x_move rfl) rfl rfl
                          | 5, _ =>
                            intro val w1 a hb ha hd
                            have e3 : val 3 = .slice (some ⟨bl, ol, none⟩) c.clues.length cl_ := hd 3 (memB_mem.1 rfl)
                            have e4 : val 4 = .int .i64 (k : Nat) := hd 4 (memB_mem.1 rfl)
                            have ha := ha.sub (Sub.ins (d := 174) (Sub.ins (d := 173) (Sub.nil _) (dep_get rfl e3)) (dep_get rfl e4))
                            exact hs_val ha rfl rfl (ix_23 rfl rfl hlk) rfl rfl
                          | 6, _ =>
                            intro val w1 a hb ha hd
                            have e5 : val 5 = .pointer (some ⟨bl, ol + k, none⟩) := hd 5 (memB_mem.1 rfl)
                            have ha := ha.sub (Sub.ins (d := 175) (Sub.nil _) (dep_get rfl e5))
                            exact hs_val ha rfl rfl (ld_74 rfl (below_load (Below.on hbw hb hbw.size) hcell)) rfl rfl
                          | 7, _ =>
                            intro val w1 a hb ha hd
                            have e6 : val 6 = .agg #[.slice Ao (c.clues.getD k []).length co] := hd 6 (memB_mem.1 rfl)
                            have ha := ha.sub (Sub.ins (d := 176) (Sub.nil _) (dep_get rfl e6))
                            exact hs_newS ha rfl rfl (bs_23_1 rfl) rfl (fun g w' hq _ hge => ⟨g, rfl, hq, Nat.le_trans hb.size hge⟩)
                          | k + 8, h => exact absurd h (by omega)
                        · intro val wR33 hb halc hd
                          have e0 : val 0 = .pointer (some ⟨ga10_28, 2, none⟩) := hd 0 (by omega)
                          have e1 : val 1 = .slice AR (withoutL c S k).length cR := hd 1 (by omega)
                          have e2 : val 2 = .pointer (some ⟨g1, 2, none⟩) := hd 2 (by omega)
                          have e3 : val 3 = .slice (some ⟨bl, ol, none⟩) c.clues.length cl_ := hd 3 (by omega)
                          have e4 : val 4 = .int .i64 (k : Nat) := hd 4 (by omega)
                          have e5 : val 5 = .pointer (some ⟨bl, ol + k, none⟩) := hd 5 (by omega)
                          have e6 : val 6 = .agg #[.slice Ao (c.clues.getD k []).length co] := hd 6 (by omega)
                          obtain ⟨ga7_33, e7, qa7_33, hga7_33⟩ := hd 7 (by omega)
                          change val 7 = _ at e7
                          change Blk wR33 ga7_33 74 #[.slice Ao (c.clues.getD k []).length co] at qa7_33
                          refine EL.ends (cs := [.pointer (some ⟨ga10_28, 2, none⟩), .slice AR (withoutL c S k).length cR, .pointer (some ⟨g1, 2, none⟩), .slice (some ⟨bl, ol, none⟩) c.clues.length cl_, .int .i64 (k : Nat), .pointer (some ⟨bl, ol + k, none⟩), .agg #[.slice Ao (c.clues.getD k []).length co], .slice (some ⟨ga7_33, 0, none⟩) 1 1]) ⟨e0, e1, e2, e3, e4, e5, e6, e7, trivial⟩ rfl ?_
                          replace q2z := q2z.below hb q2z.lt
                          replace q14z := q14z.below hb q14z.lt
                          replace q15z := q15z.below hb q15z.lt
                          replace hoR := own_below hoR hb (Nat.le_refl _)
                          replace hoM := own_below hoM hb (Nat.le_refl _)
                          replace hs1 := hs1.below hb
                          replace hs2 := hs2.below hb
                          have n1_20 : g1 ≠ ga7_33 := Nat.ne_of_lt (Nat.lt_of_lt_of_le lt_1 hga7_33)
                          have n15_20 : ga10_28 ≠ ga7_33 := Nat.ne_of_lt (Nat.lt_of_lt_of_le lt_15 hga7_33)
                          have n16_20 : ga11_28 ≠ ga7_33 := Nat.ne_of_lt (Nat.lt_of_lt_of_le lt_16 hga7_33)
                          have bhbw_20 := Nat.le_trans hbw.size hga7_33
                          have bhbQ_20 := Nat.le_trans hbQ.size hga7_33
                          replace hbw := Below.on hbw hb hbw.size
                          replace hbQ := Below.on hbQ hb hbQ.size
                          clear hb
                          refine EL.push clue_elem rfl rfl hoR (rd_one (l := [.slice Ao (c.clues.getD k []).length co]) qa7_33 rfl) (by intro u hu; rw [List.mem_singleton.1 hu]; rfl) (by omega) rfl hbQ.size rfl ?_
                          intro v21 w21 hoRn hgr hb_ hat
                          replace q2z := blk_grown q2z hoR rfl hgr
                          replace q14z := blk_grown q14z hoR rfl hgr
                          replace q15z := blk_grown q15z hoR rfl hgr
                          replace hs1 := hs1.grown hoR hgr
                          replace hs2 := hs2.grown hoR hgr
                          have hap2 := apart_push hap hoM hat
                          replace hoM := own_apart hoM hgr hap
                          clear hap
                          have hap := hap2
                          clear hap2
                          replace hbw := hbw.trans (hb_.mono hszQ)
                          replace hbQ := hbQ.trans hb_
                          clear hoR hgr hb_ hat
                          obtain ⟨A21, c21, e21, _⟩ := (Rd.of_own hoRn).shape
                          subst e21
                          refine EL.val (fa_25_2 rfl) rfl ?_
                          refine EL.store rfl rfl q14z sz_23 rfl rfl rfl rfl ?_
                          intro w22 hq22 hg22
                          replace q2z := q2z.grown hg22 (fun h => n1_15 (Option.some.inj h))
                          replace q15z := q15z.grown hg22 (fun h => n15_16.symm (Option.some.inj h))
                          replace hoM := own_type hoM q14z rfl hg22
                          replace hs1 := hs1.type q14z hg22
                          replace hs2 := hs2.type q14z hg22
                          replace hoRn := own_type hoRn q14z rfl hg22
                          replace hbw := below_store hbw hg22 bhbw_15
                          replace hbQ := below_store hbQ hg22 bhbQ_15
                          replace q14z := hq22
                          clear hg22 hq22
                          refine EL.nil ?_
                          refine EX.seq ?_
                          refine EC.seq ?_
                          refine EC.region ?_
                          refine EL.val (x_move rfl) rfl ?_
                          refine EL.val (x_move rfl) rfl ?_
                          refine EL.val (look_set (r := true) rfl rfl hs2 (by omega) (set_dec hM)) rfl ?_
                          refine EL.val (x_not rfl) rfl ?_
                          refine EL.nil ?_
                          refine EX.seq ?_
                          refine EC.no rfl ?_
                          refine EC.skip ?_
                          refine EX.blk ?_
                          refine EX.seq ?_
                          refine EC.region ?_
                          refine EL.val (x_move rfl) rfl ?_
                          refine EL.val (x_add rfl rfl (c := ((k + 1 : Nat) : Int)) ((IntWalk.i64_in _ ⟨by first | omega | (simp only; omega), by first | omega | (simp only; omega)⟩).trans (by first | omega | (simp only; omega)))) rfl ?_
                          refine EL.val (x_assign rfl) rfl ?_
                          refine EL.nil ?_
                          refine EX.roundD (k + 1, _, _, lR ++ [_], lM) ⟨rfl, trivial⟩ (by repeat first | with_reducible exact Sub.refl _ | refine sub_past rfl ?_ | exact Sub.refl _ | refine sub_del rfl ?_ | refine sub_insL_nil ?_) ⟨hlk, q2z, q14z, q15z, by rw [without_succ_out hR, List.length_append]; exact hoRn, by rw [without_succ_out hR, List.length_append, List.length_append, hlR]; rfl, by rw [without_succ_out hR]; exact rows_snoc hlR hrR hrow, by rw [without_succ_in hM]; exact hoM, by rw [without_succ_in hM]; exact hlM, by rw [without_succ_in hM]; exact hrM, hap, hs1, hs2, hbw, hbQ⟩ (by simp only; omega)
                      ·
                        refine EC.seq ?_
                        refine EC.seq ?_
                        refine EC.region ?_
                        refine EL.val (x_move rfl) rfl ?_
                        refine EL.val (fa_25_2 rfl) rfl ?_
                        refine EL.val (ld_23 rfl (q2z.at (j := 2) rfl)) rfl ?_
                        refine EL.val (ln_23 rfl) rfl ?_
                        refine EL.val (x_lss rfl rfl (decide_eq_true (show (((k : Nat) : Int) < ((c.clues.length : Nat) : Int)) by omega))) rfl ?_
                        refine EL.nil ?_
                        refine EX.seq ?_
                        refine EC.yes rfl ?_
                        refine EC.skip ?_
                        refine EX.seq ?_
                        refine EC.seq ?_
                        refine EC.block ?_
                        refine EC.seq ?_
                        refine EC.seq ?_
                        refine EC.region ?_
                        refine EL.val (x_move rfl) rfl ?_
                        refine EL.val (x_move rfl) rfl ?_
                        refine EL.val (look_set (r := false) rfl rfl hs1 (by omega) (set_dec hR)) rfl ?_
                        refine EL.val (x_not rfl) rfl ?_
                        refine EL.nil ?_
                        refine EX.seq ?_
                        refine EC.yes rfl ?_
                        have lt_1 := q2z.lt
                        have lt_15 := q14z.lt
                        have lt_16 := q15z.lt
                        refine EC.regionP [[], [0], [], [2], [], [2, 3, 4], [2, 3, 4, 5], [2, 3, 4, 5, 6], [0, 1, 2, 3, 4, 5, 6, 7], [0, 1, 2, 3, 4, 5, 6, 7, 8], [0, 1, 2, 3, 4, 5, 6, 7, 8, 9]] 8 [] (phi (fun i_ r => match i_ with | 0 => r 0 = .pointer (some ⟨ga10_28, 2, none⟩) | 1 => r 1 = .slice AR (withoutL c S k).length cR | 2 => r 2 = .pointer (some ⟨g1, 2, none⟩) | 3 => r 3 = .slice (some ⟨bl, ol, none⟩) c.clues.length cl_ | 4 => r 4 = .int .i64 (k : Nat) | 5 => r 5 = .pointer (some ⟨bl, ol + k, none⟩) | 6 => r 6 = .agg #[.slice Ao (c.clues.getD k []).length co] | _ => True) [(7, fun r w_ => ∃ g_, r 7 = .slice (some ⟨g_, 0, none⟩) 1 1 ∧ Blk w_ g_ 74 #[.slice Ao (c.clues.getD k []).length co] ∧ wz.heap.size ≤ g_)]) (by kernel_rfl) rfl rfl (phi_cons mono_bs (phi_nil)) (fun i_ hi_ => ?_) ?_
                        · match i_, hi_ with
                          | 0, _ =>
                            intro val w1 a hb ha hd
                            have ha := ha.sub (Sub.ins (d := 14) (Sub.nil _) rfl)
                            exact hs_val ha rfl rfl (fa_25_2 rfl) rfl rfl
                          | 1, _ =>
                            intro val w1 a hb ha hd
                            have e0 : val 0 = .pointer (some ⟨ga10_28, 2, none⟩) := hd 0 (memB_mem.1 rfl)
                            have ha := ha.sub (Sub.ins (d := 170) (Sub.nil _) (dep_get rfl e0))
                            exact hs_val ha rfl rfl (ld_23 rfl ((q14z.below hb q14z.lt).at (j := 2) rfl)) rfl rfl
                          | 2, _ =>
                            intro val w1 a hb ha hd
                            have ha := ha.sub (Sub.ins (d := 2) (Sub.nil _) rfl)
                            exact hs_val ha rfl rfl (fa_25_2 rfl) rfl rfl
                          | 3, _ =>
                            intro val w1 a hb ha hd
                            have e2 : val 2 = .pointer (some ⟨g1, 2, none⟩) := hd 2 (memB_mem.1 rfl)
                            have ha := ha.sub (Sub.ins (d := 172) (Sub.nil _) (dep_get rfl e2))
                            exact hs_val ha rfl rfl (ld_23 rfl ((q2z.below hb q2z.lt).at (j := 2) rfl)) rfl rfl
                          | 4, _ =>
                            intro val w1 a hb ha hd
                            have ha := ha.sub (Sub.ins (d := 16) (Sub.nil _) rfl)
                            exact hs_val ha rfl rfl (x_move rfl) rfl rfl
                          | 5, _ =>
                            intro val w1 a hb ha hd
                            have e3 : val 3 = .slice (some ⟨bl, ol, none⟩) c.clues.length cl_ := hd 3 (memB_mem.1 rfl)
                            have e4 : val 4 = .int .i64 (k : Nat) := hd 4 (memB_mem.1 rfl)
                            have ha := ha.sub (Sub.ins (d := 174) (Sub.ins (d := 173) (Sub.nil _) (dep_get rfl e3)) (dep_get rfl e4))
                            exact hs_val ha rfl rfl (ix_23 rfl rfl hlk) rfl rfl
                          | 6, _ =>
                            intro val w1 a hb ha hd
                            have e5 : val 5 = .pointer (some ⟨bl, ol + k, none⟩) := hd 5 (memB_mem.1 rfl)
                            have ha := ha.sub (Sub.ins (d := 175) (Sub.nil _) (dep_get rfl e5))
                            exact hs_val ha rfl rfl (ld_74 rfl (below_load (Below.on hbw hb hbw.size) hcell)) rfl rfl
                          | 7, _ =>
                            intro val w1 a hb ha hd
                            have e6 : val 6 = .agg #[.slice Ao (c.clues.getD k []).length co] := hd 6 (memB_mem.1 rfl)
                            have ha := ha.sub (Sub.ins (d := 176) (Sub.nil _) (dep_get rfl e6))
                            exact hs_newS ha rfl rfl (bs_23_1 rfl) rfl (fun g w' hq _ hge => ⟨g, rfl, hq, Nat.le_trans hb.size hge⟩)
                          | k + 8, h => exact absurd h (by omega)
                        · intro val wR33 hb halc hd
                          have e0 : val 0 = .pointer (some ⟨ga10_28, 2, none⟩) := hd 0 (by omega)
                          have e1 : val 1 = .slice AR (withoutL c S k).length cR := hd 1 (by omega)
                          have e2 : val 2 = .pointer (some ⟨g1, 2, none⟩) := hd 2 (by omega)
                          have e3 : val 3 = .slice (some ⟨bl, ol, none⟩) c.clues.length cl_ := hd 3 (by omega)
                          have e4 : val 4 = .int .i64 (k : Nat) := hd 4 (by omega)
                          have e5 : val 5 = .pointer (some ⟨bl, ol + k, none⟩) := hd 5 (by omega)
                          have e6 : val 6 = .agg #[.slice Ao (c.clues.getD k []).length co] := hd 6 (by omega)
                          obtain ⟨ga7_33, e7, qa7_33, hga7_33⟩ := hd 7 (by omega)
                          change val 7 = _ at e7
                          change Blk wR33 ga7_33 74 #[.slice Ao (c.clues.getD k []).length co] at qa7_33
                          refine EL.ends (cs := [.pointer (some ⟨ga10_28, 2, none⟩), .slice AR (withoutL c S k).length cR, .pointer (some ⟨g1, 2, none⟩), .slice (some ⟨bl, ol, none⟩) c.clues.length cl_, .int .i64 (k : Nat), .pointer (some ⟨bl, ol + k, none⟩), .agg #[.slice Ao (c.clues.getD k []).length co], .slice (some ⟨ga7_33, 0, none⟩) 1 1]) ⟨e0, e1, e2, e3, e4, e5, e6, e7, trivial⟩ rfl ?_
                          replace q2z := q2z.below hb q2z.lt
                          replace q14z := q14z.below hb q14z.lt
                          replace q15z := q15z.below hb q15z.lt
                          replace hoR := own_below hoR hb (Nat.le_refl _)
                          replace hoM := own_below hoM hb (Nat.le_refl _)
                          replace hs1 := hs1.below hb
                          replace hs2 := hs2.below hb
                          have n1_23 : g1 ≠ ga7_33 := Nat.ne_of_lt (Nat.lt_of_lt_of_le lt_1 hga7_33)
                          have n15_23 : ga10_28 ≠ ga7_33 := Nat.ne_of_lt (Nat.lt_of_lt_of_le lt_15 hga7_33)
                          have n16_23 : ga11_28 ≠ ga7_33 := Nat.ne_of_lt (Nat.lt_of_lt_of_le lt_16 hga7_33)
                          have bhbw_23 := Nat.le_trans hbw.size hga7_33
                          have bhbQ_23 := Nat.le_trans hbQ.size hga7_33
                          replace hbw := Below.on hbw hb hbw.size
                          replace hbQ := Below.on hbQ hb hbQ.size
                          clear hb
                          refine EL.push clue_elem rfl rfl hoR (rd_one (l := [.slice Ao (c.clues.getD k []).length co]) qa7_33 rfl) (by intro u hu; rw [List.mem_singleton.1 hu]; rfl) (by omega) rfl hbQ.size rfl ?_
                          intro v24 w24 hoRn hgr hb_ hat
                          replace q2z := blk_grown q2z hoR rfl hgr
                          replace q14z := blk_grown q14z hoR rfl hgr
                          replace q15z := blk_grown q15z hoR rfl hgr
                          replace hs1 := hs1.grown hoR hgr
                          replace hs2 := hs2.grown hoR hgr
                          have hap2 := apart_push hap hoM hat
                          replace hoM := own_apart hoM hgr hap
                          clear hap
                          have hap := hap2
                          clear hap2
                          replace hbw := hbw.trans (hb_.mono hszQ)
                          replace hbQ := hbQ.trans hb_
                          clear hoR hgr hb_ hat
                          obtain ⟨A24, c24, e24, _⟩ := (Rd.of_own hoRn).shape
                          subst e24
                          refine EL.val (fa_25_2 rfl) rfl ?_
                          refine EL.store rfl rfl q14z sz_23 rfl rfl rfl rfl ?_
                          intro w25 hq25 hg25
                          replace q2z := q2z.grown hg25 (fun h => n1_15 (Option.some.inj h))
                          replace q15z := q15z.grown hg25 (fun h => n15_16.symm (Option.some.inj h))
                          replace hoM := own_type hoM q14z rfl hg25
                          replace hs1 := hs1.type q14z hg25
                          replace hs2 := hs2.type q14z hg25
                          replace hoRn := own_type hoRn q14z rfl hg25
                          replace hbw := below_store hbw hg25 bhbw_15
                          replace hbQ := below_store hbQ hg25 bhbQ_15
                          replace q14z := hq25
                          clear hg25 hq25
                          refine EL.nil ?_
                          refine EX.seq ?_
                          refine EC.seq ?_
                          refine EC.region ?_
                          refine EL.val (x_move rfl) rfl ?_
                          refine EL.val (x_move rfl) rfl ?_
                          refine EL.val (look_set (r := false) rfl rfl hs2 (by omega) (set_dec hM)) rfl ?_
                          refine EL.val (x_not rfl) rfl ?_
                          refine EL.nil ?_
                          refine EX.seq ?_
                          refine EC.yes rfl ?_
                          have lt_1 := q2z.lt
                          have lt_15 := q14z.lt
                          have lt_16 := q15z.lt
                          refine EC.regionP [[], [0], [], [2], [], [2, 3, 4], [2, 3, 4, 5], [2, 3, 4, 5, 6], [0, 1, 2, 3, 4, 5, 6, 7], [0, 1, 2, 3, 4, 5, 6, 7, 8], [0, 1, 2, 3, 4, 5, 6, 7, 8, 9]] 8 [] (phi (fun i_ r => match i_ with | 0 => r 0 = .pointer (some ⟨ga11_28, 2, none⟩) | 1 => r 1 = .slice AM (withoutL c (someL b x c.clues.length y) k).length cM | 2 => r 2 = .pointer (some ⟨g1, 2, none⟩) | 3 => r 3 = .slice (some ⟨bl, ol, none⟩) c.clues.length cl_ | 4 => r 4 = .int .i64 (k : Nat) | 5 => r 5 = .pointer (some ⟨bl, ol + k, none⟩) | 6 => r 6 = .agg #[.slice Ao (c.clues.getD k []).length co] | _ => True) [(7, fun r w_ => ∃ g_, r 7 = .slice (some ⟨g_, 0, none⟩) 1 1 ∧ Blk w_ g_ 74 #[.slice Ao (c.clues.getD k []).length co] ∧ w25.heap.size ≤ g_)]) (by kernel_rfl) rfl rfl (phi_cons mono_bs (phi_nil)) (fun i_ hi_ => ?_) ?_
                          · match i_, hi_ with
                            | 0, _ =>
                              intro val w1 a hb ha hd
                              have ha := ha.sub (Sub.ins (d := 15) (Sub.nil _) rfl)
                              exact hs_val ha rfl rfl (fa_25_2 rfl) rfl rfl
                            | 1, _ =>
                              intro val w1 a hb ha hd
                              have e0 : val 0 = .pointer (some ⟨ga11_28, 2, none⟩) := hd 0 (memB_mem.1 rfl)
                              have ha := ha.sub (Sub.ins (d := 184) (Sub.nil _) (dep_get rfl e0))
                              exact hs_val ha rfl rfl (ld_23 rfl ((q15z.below hb q15z.lt).at (j := 2) rfl)) rfl rfl
                            | 2, _ =>
                              intro val w1 a hb ha hd
                              have ha := ha.sub (Sub.ins (d := 2) (Sub.nil _) rfl)
                              exact hs_val ha rfl rfl (fa_25_2 rfl) rfl rfl
                            | 3, _ =>
                              intro val w1 a hb ha hd
                              have e2 : val 2 = .pointer (some ⟨g1, 2, none⟩) := hd 2 (memB_mem.1 rfl)
                              have ha := ha.sub (Sub.ins (d := 186) (Sub.nil _) (dep_get rfl e2))
                              exact hs_val ha rfl rfl (ld_23 rfl ((q2z.below hb q2z.lt).at (j := 2) rfl)) rfl rfl
                            | 4, _ =>
                              intro val w1 a hb ha hd
                              have ha := ha.sub (Sub.ins (d := 16) (Sub.nil _) rfl)
                              exact hs_val ha rfl rfl (x_move rfl) rfl rfl
                            | 5, _ =>
                              intro val w1 a hb ha hd
                              have e3 : val 3 = .slice (some ⟨bl, ol, none⟩) c.clues.length cl_ := hd 3 (memB_mem.1 rfl)
                              have e4 : val 4 = .int .i64 (k : Nat) := hd 4 (memB_mem.1 rfl)
                              have ha := ha.sub (Sub.ins (d := 188) (Sub.ins (d := 187) (Sub.nil _) (dep_get rfl e3)) (dep_get rfl e4))
                              exact hs_val ha rfl rfl (ix_23 rfl rfl hlk) rfl rfl
                            | 6, _ =>
                              intro val w1 a hb ha hd
                              have e5 : val 5 = .pointer (some ⟨bl, ol + k, none⟩) := hd 5 (memB_mem.1 rfl)
                              have ha := ha.sub (Sub.ins (d := 189) (Sub.nil _) (dep_get rfl e5))
                              exact hs_val ha rfl rfl (ld_74 rfl (below_load (Below.on hbw hb hbw.size) hcell)) rfl rfl
                            | 7, _ =>
                              intro val w1 a hb ha hd
                              have e6 : val 6 = .agg #[.slice Ao (c.clues.getD k []).length co] := hd 6 (memB_mem.1 rfl)
                              have ha := ha.sub (Sub.ins (d := 190) (Sub.nil _) (dep_get rfl e6))
                              exact hs_newS ha rfl rfl (bs_23_1 rfl) rfl (fun g w' hq _ hge => ⟨g, rfl, hq, Nat.le_trans hb.size hge⟩)
                            | k + 8, h => exact absurd h (by omega)
                          · intro val wR35 hb halc hd
                            have e0 : val 0 = .pointer (some ⟨ga11_28, 2, none⟩) := hd 0 (by omega)
                            have e1 : val 1 = .slice AM (withoutL c (someL b x c.clues.length y) k).length cM := hd 1 (by omega)
                            have e2 : val 2 = .pointer (some ⟨g1, 2, none⟩) := hd 2 (by omega)
                            have e3 : val 3 = .slice (some ⟨bl, ol, none⟩) c.clues.length cl_ := hd 3 (by omega)
                            have e4 : val 4 = .int .i64 (k : Nat) := hd 4 (by omega)
                            have e5 : val 5 = .pointer (some ⟨bl, ol + k, none⟩) := hd 5 (by omega)
                            have e6 : val 6 = .agg #[.slice Ao (c.clues.getD k []).length co] := hd 6 (by omega)
                            obtain ⟨ga7_35, e7, qa7_35, hga7_35⟩ := hd 7 (by omega)
                            change val 7 = _ at e7
                            change Blk wR35 ga7_35 74 #[.slice Ao (c.clues.getD k []).length co] at qa7_35
                            refine EL.ends (cs := [.pointer (some ⟨ga11_28, 2, none⟩), .slice AM (withoutL c (someL b x c.clues.length y) k).length cM, .pointer (some ⟨g1, 2, none⟩), .slice (some ⟨bl, ol, none⟩) c.clues.length cl_, .int .i64 (k : Nat), .pointer (some ⟨bl, ol + k, none⟩), .agg #[.slice Ao (c.clues.getD k []).length co], .slice (some ⟨ga7_35, 0, none⟩) 1 1]) ⟨e0, e1, e2, e3, e4, e5, e6, e7, trivial⟩ rfl ?_
                            replace q2z := q2z.below hb q2z.lt
                            replace q14z := q14z.below hb q14z.lt
                            replace q15z := q15z.below hb q15z.lt
                            replace hoM := own_below hoM hb (Nat.le_refl _)
                            replace hs1 := hs1.below hb
                            replace hs2 := hs2.below hb
                            replace hoRn := own_below hoRn hb (Nat.le_refl _)
                            have n1_26 : g1 ≠ ga7_35 := Nat.ne_of_lt (Nat.lt_of_lt_of_le lt_1 hga7_35)
                            have n15_26 : ga10_28 ≠ ga7_35 := Nat.ne_of_lt (Nat.lt_of_lt_of_le lt_15 hga7_35)
                            have n16_26 : ga11_28 ≠ ga7_35 := Nat.ne_of_lt (Nat.lt_of_lt_of_le lt_16 hga7_35)
                            have bhbw_26 := Nat.le_trans hbw.size hga7_35
                            have bhbQ_26 := Nat.le_trans hbQ.size hga7_35
                            replace hbw := Below.on hbw hb hbw.size
                            replace hbQ := Below.on hbQ hb hbQ.size
                            clear hb
                            refine EL.push clue_elem rfl rfl hoM (rd_one (l := [.slice Ao (c.clues.getD k []).length co]) qa7_35 rfl) (by intro u hu; rw [List.mem_singleton.1 hu]; rfl) (by omega) rfl hbQ.size rfl ?_
                            intro v27 w27 hoMn hgr hb_ hat
                            replace q2z := blk_grown q2z hoM rfl hgr
                            replace q14z := blk_grown q14z hoM rfl hgr
                            replace q15z := blk_grown q15z hoM rfl hgr
                            replace hs1 := hs1.grown hoM hgr
                            replace hs2 := hs2.grown hoM hgr
                            have hap2 := (apart_push hap.symm hoRn hat).symm
                            replace hoRn := own_apart hoRn hgr hap.symm
                            clear hap
                            have hap := hap2
                            clear hap2
                            replace hbw := hbw.trans (hb_.mono hszQ)
                            replace hbQ := hbQ.trans hb_
                            clear hoM hgr hb_ hat
                            obtain ⟨A27, c27, e27, _⟩ := (Rd.of_own hoMn).shape
                            subst e27
                            refine EL.val (fa_25_2 rfl) rfl ?_
                            refine EL.store rfl rfl q15z sz_23 rfl rfl rfl rfl ?_
                            intro w28 hq28 hg28
                            replace q2z := q2z.grown hg28 (fun h => n1_16 (Option.some.inj h))
                            replace q14z := q14z.grown hg28 (fun h => n15_16 (Option.some.inj h))
                            replace hs1 := hs1.type q15z hg28
                            replace hs2 := hs2.type q15z hg28
                            replace hoRn := own_type hoRn q15z rfl hg28
                            replace hoMn := own_type hoMn q15z rfl hg28
                            replace hbw := below_store hbw hg28 bhbw_16
                            replace hbQ := below_store hbQ hg28 bhbQ_16
                            replace q15z := hq28
                            clear hg28 hq28
                            refine EL.nil ?_
                            refine EX.blk ?_
                            refine EX.seq ?_
                            refine EC.region ?_
                            refine EL.val (x_move rfl) rfl ?_
                            refine EL.val (x_add rfl rfl (c := ((k + 1 : Nat) : Int)) ((IntWalk.i64_in _ ⟨by first | omega | (simp only; omega), by first | omega | (simp only; omega)⟩).trans (by first | omega | (simp only; omega)))) rfl ?_
                            refine EL.val (x_assign rfl) rfl ?_
                            refine EL.nil ?_
                            refine EX.roundD (k + 1, _, _, lR ++ [_], lM ++ [_]) ⟨rfl, trivial⟩ (by repeat first | with_reducible exact Sub.refl _ | refine sub_past rfl ?_ | exact Sub.refl _ | refine sub_del rfl ?_ | refine sub_insL_nil ?_) ⟨hlk, q2z, q14z, q15z, by rw [without_succ_out hR, List.length_append]; exact hoRn, by rw [without_succ_out hR, List.length_append, List.length_append, hlR]; rfl, by rw [without_succ_out hR]; exact rows_snoc hlR hrR hrow, by rw [without_succ_out hM, List.length_append]; exact hoMn, by rw [without_succ_out hM, List.length_append, List.length_append, hlM]; rfl, by rw [without_succ_out hM]; exact rows_snoc hlM hrM hrow, hap, hs1, hs2, hbw, hbQ⟩ (by simp only; omega)
                  ·
                    have hke : k = c.clues.length := by omega
                    subst hke
                    have hcR : RdCase wz wz.heap.size (.slice Ac c.clocks.length cc_) (.slice AR (withoutL c S c.clues.length).length cR) (withoutC c S) lR := ⟨(hr.clocks.below (hbw.mono hB)).more (Nat.le_trans hB hbw.size), hlR, Rd.of_own hoR, fun i hi => ((hrR i hi).below (hbw.mono hB)).more (Nat.le_trans hB hbw.size)⟩
                    have hcM : RdCase wz wz.heap.size (.slice Ac c.clocks.length cc_) (.slice AM (withoutL c (someL b x c.clues.length y) c.clues.length).length cM) (withoutC c (someL b x c.clues.length y)) lM := ⟨(hr.clocks.below (hbw.mono hB)).more (Nat.le_trans hB hbw.size), hlM, Rd.of_own hoM, fun i hi => ((hrM i hi).below (hbw.mono hB)).more (Nat.le_trans hB hbw.size)⟩
                    have hbY := Below.refl wz.heap.size wz
                    refine EC.seq ?_
                    refine EC.seq ?_
                    refine EC.region ?_
                    refine EL.val (x_move rfl) rfl ?_
                    refine EL.val (fa_25_2 rfl) rfl ?_
                    refine EL.val (ld_23 rfl (q2z.at (j := 2) rfl)) rfl ?_
                    refine EL.val (ln_23 rfl) rfl ?_
                    refine EL.val (x_lss rfl rfl (decide_eq_false (show ¬(((c.clues.length : Nat) : Int) < ((c.clues.length : Nat) : Int)) by omega))) rfl ?_
                    refine EL.nil ?_
                    refine EX.seq ?_
                    refine EC.no rfl ?_
                    refine EC.exit ?_
                    refine EX.seq_exit ?_
                    refine EX.seq_exit ?_
                    refine EX.blk_here ?_
                    refine EX.seq ?_
                    refine EC.seq ?_
                    refine EC.region ?_
                    refine EL.val (ld_25 rfl (q14z.at (j := 0) rfl) (q14z.at (j := 1) rfl) (q14z.at (j := 2) rfl)) rfl ?_
                    refine EL.call (cl_14 rfl) rfl (copied_any (withoutC c S) _ _ lR _ _ (hcR.below hbY) hbY.size hn1 (without_n (by omega)) (small_without hsm)) ?_
                    rintro e w30 ⟨⟨vaq29, vbq29, wsq29, rfl, hoq29⟩, hc30⟩
                    refine ⟨_, rfl, ?_⟩
                    replace q2z := q2z.below hc30 q2z.lt
                    replace q14z := q14z.below hc30 q14z.lt
                    replace q15z := q15z.below hc30 q15z.lt
                    replace hbw := Below.on hbw hc30 hbw.size
                    replace hbQ := Below.on hbQ hc30 hbQ.size
                    replace hbY := Below.on hbY hc30 hbY.size
                    clear hc30
                    have hrq29 := hoq29.rd
                    obtain ⟨Adq29, cdq29, rfl, _⟩ := hrq29.clocks.shape
                    obtain ⟨Amq29, cmq29, rfl, _⟩ := hrq29.clues.rd.shape
                    have hbq29 := Below.refl w30.heap.size w30
                    refine EL.call (cl_21 rfl) rfl (courses_to (crs_ok (without_ok hcb) (many_no hopt hmn)) (crsRes_ok (crs_ok (without_ok hcb) (many_no hopt hmn))) _ _ wsq29 _ _ (hrq29.below hbq29) hbq29.size hn1 (without_n (by omega))) ?_
                    rintro e w31 ⟨⟨vX, uX, rfl, hrX⟩, hc31⟩
                    refine ⟨_, rfl, ?_⟩
                    replace q2z := q2z.below hc31 q2z.lt
                    replace q14z := q14z.below hc31 q14z.lt
                    replace q15z := q15z.below hc31 q15z.lt
                    replace hbw := Below.on hbw hc31 hbw.size
                    replace hbQ := Below.on hbQ hc31 hbQ.size
                    replace hbY := Below.on hbY hc31 hbY.size
                    replace hbq29 := Below.on hbq29 hc31 hbq29.size
                    clear hc31
                    obtain ⟨AX, cX, rfl, _⟩ := hrX.rd.shape
                    refine EL.val (x_move rfl) rfl ?_
                    refine EL.val (x_extract rfl rfl) rfl ?_
                    refine EL.val (x_extract rfl rfl) rfl ?_
                    refine EL.val (x_assign rfl) rfl ?_
                    refine EL.val (x_assign rfl) rfl ?_
                    refine EL.nil ?_
                    refine EX.seq ?_
                    refine EC.seq ?_
                    refine EC.region ?_
                    refine EL.val (ld_25 rfl (q15z.at (j := 0) rfl) (q15z.at (j := 1) rfl) (q15z.at (j := 2) rfl)) rfl ?_
                    refine EL.call (cl_14 rfl) rfl (copied_any (withoutC c (someL b x c.clues.length y)) _ _ lM _ _ (hcM.below hbY) hbY.size hn1 (without_n (by omega)) (small_without hsm)) ?_
                    rintro e w33 ⟨⟨vaq32, vbq32, wsq32, rfl, hoq32⟩, hc33⟩
                    refine ⟨_, rfl, ?_⟩
                    replace q2z := q2z.below hc33 q2z.lt
                    replace q14z := q14z.below hc33 q14z.lt
                    replace q15z := q15z.below hc33 q15z.lt
                    replace hbw := Below.on hbw hc33 hbw.size
                    replace hbQ := Below.on hbQ hc33 hbQ.size
                    replace hbY := Below.on hbY hc33 hbY.size
                    replace hbq29 := Below.on hbq29 hc33 hbq29.size
                    clear hc33
                    have hrq32 := hoq32.rd
                    obtain ⟨Adq32, cdq32, rfl, _⟩ := hrq32.clocks.shape
                    obtain ⟨Amq32, cmq32, rfl, _⟩ := hrq32.clues.rd.shape
                    have hbq32 := Below.refl w33.heap.size w33
                    by_cases hm0 : y = 0
                    ·
                      refine EL.call (cl_21 rfl) rfl (courses_to (crs_ok (without_ok hcb) (many_no hopt hmn)) (crsRes_ok (crs_ok (without_ok hcb) (many_no hopt hmn))) _ _ wsq32 _ _ (hrq32.below hbq32) hbq32.size hn1 (without_n (by omega))) ?_
                      rintro e w34 ⟨⟨vY, uY, rfl, hrY⟩, hc34⟩
                      refine ⟨_, rfl, ?_⟩
                      replace q2z := q2z.below hc34 q2z.lt
                      replace q14z := q14z.below hc34 q14z.lt
                      replace q15z := q15z.below hc34 q15z.lt
                      replace hbw := Below.on hbw hc34 hbw.size
                      replace hbQ := Below.on hbQ hc34 hbQ.size
                      replace hbY := Below.on hbY hc34 hbY.size
                      replace hbq29 := Below.on hbq29 hc34 hbq29.size
                      replace hbq32 := Below.on hbq32 hc34 hbq32.size
                      clear hc34
                      obtain ⟨AY, cY, rfl, _⟩ := hrY.rd.shape
                      refine EL.val (x_move rfl) rfl ?_
                      refine EL.val (x_extract rfl rfl) rfl ?_
                      refine EL.val (x_extract rfl rfl) rfl ?_
                      refine EL.val (x_assign rfl) rfl ?_
                      refine EL.val (x_assign rfl) rfl ?_
                      refine EL.nil ?_
                      refine EX.seq ?_
                      refine EC.seq ?_
                      have hXne : 0 < (coursesL (withoutC c S)).length := List.length_pos_iff.2 (wrong_some hSw)
                      refine EC.regionQ (by kernel_rfl) (by kernel_rfl) ?_
                      refine EQ.val (fun _ hw => (x_move rfl)) rfl ?_
                      refine EQ.val (fun _ hw => (x_move rfl)) rfl ?_
                      refine EQ.val (fun _ hw => (ix_41 rfl rfl hlt)) rfl ?_
                      refine EQ.val (fun _ hw => (ld_26 rfl (below_load hw (below_load hbQ cq)))) rfl ?_
                      refine EQ.val (fun _ hw => (ln_26 rfl)) rfl ?_
                      refine EQ.val (fun _ hw => (x_move rfl)) rfl ?_
                      refine EQ.val (fun _ hw => (ix_41 (k := 0) rfl rfl hQpos)) rfl ?_
                      refine EQ.val (fun _ hw => (ld_26 rfl (below_load hw (below_load hbQ cq0)))) rfl ?_
                      refine EQ.val (fun _ hw => (ln_26 rfl)) rfl ?_
                      refine EQ.val (fun _ hw => (x_neq (r := false) rfl rfl (decide_eq_false (fun h => h rfl)))) rfl ?_
                      refine EQ.val (fun _ hw => (x_move rfl)) rfl ?_
                      refine EQ.valg rfl rfl (fun _ hw => (x_move rfl)) rfl ?_
                      refine EQ.valg rfl rfl (fun _ hw => (x_neq (r := false) rfl rfl (by decide))) rfl ?_
                      refine EQ.val (fun _ hw => (x_pick_f rfl rfl)) rfl ?_
                      refine EQ.val (fun _ hw => (x_move rfl)) rfl ?_
                      refine EQ.valg rfl rfl (fun _ hw => (x_move rfl)) rfl ?_
                      refine EQ.valg rfl rfl (fun _ hw => (ln_41 rfl)) rfl ?_
                      refine EQ.valg rfl rfl (fun _ hw => (x_eql (r := false) rfl rfl (decide_eq_false (by omega)))) rfl ?_
                      refine EQ.val (fun _ hw => (x_pick_f rfl rfl)) rfl ?_
                      refine EQ.val (fun _ hw => (x_move rfl)) rfl ?_
                      refine EQ.valg rfl rfl (fun _ hw => (x_move rfl)) rfl ?_
                      refine EQ.valg rfl rfl (fun _ hw => (x_neq (r := false) rfl rfl (by decide))) rfl ?_
                      refine EQ.val (fun _ hw => (x_pick_f rfl rfl)) rfl ?_
                      refine EQ.val (fun _ hw => (x_move rfl)) rfl ?_
                      refine EQ.valg rfl rfl (fun _ hw => (x_move rfl)) rfl ?_
                      refine EQ.valg rfl rfl (fun _ hw => (x_move rfl)) rfl ?_
                      refine EQ.valg rfl rfl (fun _ hw => (ix_41 rfl rfl hlt)) rfl ?_
                      refine EQ.valg rfl rfl (fun _ hw => (ld_26 rfl (below_load hw (below_load hbQ cq)))) rfl ?_
                      refine EQ.valg rfl rfl (fun _ hw => (ln_26 rfl)) rfl ?_
                      refine EQ.valg rfl rfl (fun _ hw => (x_gtr (r := false) rfl rfl (decide_eq_false (by omega)))) rfl ?_
                      refine EQ.valg rfl rfl (fun _ hw => (x_move rfl)) rfl ?_
                      refine EQ.skip rfl rfl rfl rfl ?_
                      refine EQ.skip rfl rfl rfl rfl ?_
                      refine EQ.skip rfl rfl rfl rfl ?_
                      refine EQ.valg rfl rfl (fun _ hw => (x_pick_f rfl rfl)) rfl ?_
                      refine EQ.val (fun _ hw => (x_pick_f rfl rfl)) rfl ?_
                      refine EQ.fin (fun w35 hw_ => ?_)
                      replace q2z := q2z.below hw_ q2z.lt
                      replace q14z := q14z.below hw_ q14z.lt
                      replace q15z := q15z.below hw_ q15z.lt
                      replace hbw := Below.on hbw hw_ hbw.size
                      replace hbQ := Below.on hbQ hw_ hbQ.size
                      replace hbY := Below.on hbY hw_ hbY.size
                      replace hbq29 := Below.on hbq29 hw_ hbq29.size
                      replace hbq32 := Below.on hbq32 hw_ hbq32.size
                      clear hw_
                      refine EX.seq ?_
                      refine EC.no rfl ?_
                      refine EC.skip ?_
                      refine EX.blk ?_
                      refine EX.seq ?_
                      refine EC.region ?_
                      refine EL.val (x_move rfl) rfl ?_
                      refine EL.val (x_add rfl rfl (c := ((x + 1 : Nat) : Int)) ((IntWalk.i64_in _ ⟨by first | omega | (simp only; omega), by first | omega | (simp only; omega)⟩).trans (by first | omega | (simp only; omega)))) rfl ?_
                      refine EL.val (x_assign rfl) rfl ?_
                      refine EL.nil ?_
                      refine EX.roundD (x + 1) ⟨rfl, trivial⟩ (by repeat first | with_reducible exact Sub.refl _ | refine sub_past rfl ?_ | exact Sub.refl _ | refine sub_del rfl ?_ | refine sub_insL_nil ?_) ⟨hlt, q2z, hbw, hbQ⟩ (by omega)
                    ·
                      refine EL.call (cl_21 rfl) rfl (courses_to (crs_ok (without_ok hcb) (many_no hopt hmn)) (crsRes_ok (crs_ok (without_ok hcb) (many_no hopt hmn))) _ _ wsq32 _ _ (hrq32.below hbq32) hbq32.size hn1 (without_n (by omega))) ?_
                      rintro e w36 ⟨⟨vY, uY, rfl, hrY⟩, hc36⟩
                      refine ⟨_, rfl, ?_⟩
                      replace q2z := q2z.below hc36 q2z.lt
                      replace q14z := q14z.below hc36 q14z.lt
                      replace q15z := q15z.below hc36 q15z.lt
                      replace hbw := Below.on hbw hc36 hbw.size
                      replace hbQ := Below.on hbQ hc36 hbQ.size
                      replace hbY := Below.on hbY hc36 hbY.size
                      replace hbq29 := Below.on hbq29 hc36 hbq29.size
                      replace hbq32 := Below.on hbq32 hc36 hbq32.size
                      clear hc36
                      obtain ⟨AY, cY, rfl, _⟩ := hrY.rd.shape
                      refine EL.val (x_move rfl) rfl ?_
                      refine EL.val (x_extract rfl rfl) rfl ?_
                      refine EL.val (x_extract rfl rfl) rfl ?_
                      refine EL.val (x_assign rfl) rfl ?_
                      refine EL.val (x_assign rfl) rfl ?_
                      refine EL.nil ?_
                      refine EX.seq ?_
                      refine EC.seq ?_
                      have hXne : 0 < (coursesL (withoutC c S)).length := List.length_pos_iff.2 (wrong_some hSw)
                      have hYe : (coursesL (withoutC c (someL b x c.clues.length y))).length = 0 := by rw [fewer_none hmin (s := (someL b x c.clues.length y)) (by rw [someL_len]; omega)]; rfl
                      refine EC.regionQ (by kernel_rfl) (by kernel_rfl) ?_
                      refine EQ.val (fun _ hw => (x_move rfl)) rfl ?_
                      refine EQ.val (fun _ hw => (x_move rfl)) rfl ?_
                      refine EQ.val (fun _ hw => (ix_41 rfl rfl hlt)) rfl ?_
                      refine EQ.val (fun _ hw => (ld_26 rfl (below_load hw (below_load hbQ cq)))) rfl ?_
                      refine EQ.val (fun _ hw => (ln_26 rfl)) rfl ?_
                      refine EQ.val (fun _ hw => (x_move rfl)) rfl ?_
                      refine EQ.val (fun _ hw => (ix_41 (k := 0) rfl rfl hQpos)) rfl ?_
                      refine EQ.val (fun _ hw => (ld_26 rfl (below_load hw (below_load hbQ cq0)))) rfl ?_
                      refine EQ.val (fun _ hw => (ln_26 rfl)) rfl ?_
                      refine EQ.val (fun _ hw => (x_neq (r := false) rfl rfl (decide_eq_false (fun h => h rfl)))) rfl ?_
                      refine EQ.val (fun _ hw => (x_move rfl)) rfl ?_
                      refine EQ.valg rfl rfl (fun _ hw => (x_move rfl)) rfl ?_
                      refine EQ.valg rfl rfl (fun _ hw => (x_neq (r := false) rfl rfl (by decide))) rfl ?_
                      refine EQ.val (fun _ hw => (x_pick_f rfl rfl)) rfl ?_
                      refine EQ.val (fun _ hw => (x_move rfl)) rfl ?_
                      refine EQ.valg rfl rfl (fun _ hw => (x_move rfl)) rfl ?_
                      refine EQ.valg rfl rfl (fun _ hw => (ln_41 rfl)) rfl ?_
                      refine EQ.valg rfl rfl (fun _ hw => (x_eql (r := false) rfl rfl (decide_eq_false (by omega)))) rfl ?_
                      refine EQ.val (fun _ hw => (x_pick_f rfl rfl)) rfl ?_
                      refine EQ.val (fun _ hw => (x_move rfl)) rfl ?_
                      refine EQ.valg rfl rfl (fun _ hw => (x_move rfl)) rfl ?_
                      refine EQ.valg rfl rfl (fun _ hw => (x_neq (r := false) rfl rfl (by decide))) rfl ?_
                      refine EQ.val (fun _ hw => (x_pick_f rfl rfl)) rfl ?_
                      refine EQ.val (fun _ hw => (x_move rfl)) rfl ?_
                      refine EQ.valg rfl rfl (fun _ hw => (x_move rfl)) rfl ?_
                      refine EQ.valg rfl rfl (fun _ hw => (x_move rfl)) rfl ?_
                      refine EQ.valg rfl rfl (fun _ hw => (ix_41 rfl rfl hlt)) rfl ?_
                      refine EQ.valg rfl rfl (fun _ hw => (ld_26 rfl (below_load hw (below_load hbQ cq)))) rfl ?_
                      refine EQ.valg rfl rfl (fun _ hw => (ln_26 rfl)) rfl ?_
                      refine EQ.valg rfl rfl (fun _ hw => (x_gtr (r := true) rfl rfl (decide_eq_true (by omega)))) rfl ?_
                      refine EQ.valg rfl rfl (fun _ hw => (x_move rfl)) rfl ?_
                      refine EQ.valg rfl rfl (fun _ hw => (x_move rfl)) rfl ?_
                      refine EQ.valg rfl rfl (fun _ hw => (ln_41 rfl)) rfl ?_
                      refine EQ.valg rfl rfl (fun _ hw => (x_neq (r := false) rfl rfl (decide_eq_false (by omega)))) rfl ?_
                      refine EQ.valg rfl rfl (fun _ hw => (x_pick_t rfl rfl)) rfl ?_
                      refine EQ.val (fun _ hw => (x_pick_f rfl rfl)) rfl ?_
                      refine EQ.fin (fun w37 hw_ => ?_)
                      replace q2z := q2z.below hw_ q2z.lt
                      replace q14z := q14z.below hw_ q14z.lt
                      replace q15z := q15z.below hw_ q15z.lt
                      replace hbw := Below.on hbw hw_ hbw.size
                      replace hbQ := Below.on hbQ hw_ hbQ.size
                      replace hbY := Below.on hbY hw_ hbY.size
                      replace hbq29 := Below.on hbq29 hw_ hbq29.size
                      replace hbq32 := Below.on hbq32 hw_ hbq32.size
                      clear hw_
                      refine EX.seq ?_
                      refine EC.no rfl ?_
                      refine EC.skip ?_
                      refine EX.blk ?_
                      refine EX.seq ?_
                      refine EC.region ?_
                      refine EL.val (x_move rfl) rfl ?_
                      refine EL.val (x_add rfl rfl (c := ((x + 1 : Nat) : Int)) ((IntWalk.i64_in _ ⟨by first | omega | (simp only; omega), by first | omega | (simp only; omega)⟩).trans (by first | omega | (simp only; omega)))) rfl ?_
                      refine EL.val (x_assign rfl) rfl ?_
                      refine EL.nil ?_
                      refine EX.roundD (x + 1) ⟨rfl, trivial⟩ (by repeat first | with_reducible exact Sub.refl _ | refine sub_past rfl ?_ | exact Sub.refl _ | refine sub_del rfl ?_ | refine sub_insL_nil ?_) ⟨hlt, q2z, hbw, hbQ⟩ (by omega)
            ·
              have hxe : x = QL.length := by omega
              refine EC.seq ?_
              refine EC.seq ?_
              refine EC.region ?_
              refine EL.val (x_move rfl) rfl ?_
              refine EL.val (x_move rfl) rfl ?_
              refine EL.val (ln_41 rfl) rfl ?_
              refine EL.val (x_lss rfl rfl (decide_eq_false (show ¬(((x : Nat) : Int) < ((QL.length : Nat) : Int)) by omega))) rfl ?_
              refine EL.nil ?_
              refine EX.seq ?_
              refine EC.no rfl ?_
              refine EC.exit ?_
              refine EX.seq_exit ?_
              refine EX.seq_exit ?_
              refine EX.blk_here ?_
              refine EX.seq ?_
              refine EC.seq ?_
              refine EC.seq ?_
              refine EC.region ?_
              refine EL.val (x_move rfl) rfl ?_
              refine EL.val (ix_41 (k := 0) rfl rfl hQpos) rfl ?_
              refine EL.val (ld_26 rfl (below_load hbQ cq0)) rfl ?_
              refine EL.val (ln_26 rfl) rfl ?_
              by_cases hm0 : m = 0
              ·
                have hQ1 := hQone hm0
                refine EL.val (x_eql (r := true) rfl rfl (decide_eq_true (by omega))) rfl ?_
                refine EL.nil ?_
                refine EX.seq ?_
                refine EC.yes rfl ?_
                refine EC.seq ?_
                refine EC.region ?_
                refine EL.val (x_move rfl) rfl ?_
                refine EL.val (ln_41 rfl) rfl ?_
                refine EL.val (x_eql (r := true) rfl rfl (decide_eq_true (by omega))) rfl ?_
                refine EL.val (x_move rfl) rfl ?_
                refine EL.callg rfl rfl cl_12 rfl (known_any _) ?_
                rintro e w38 ⟨rfl, hc38⟩
                refine ⟨_, rfl, ?_⟩
                replace q2x := q2x.below hc38 q2x.lt
                replace hbw := Below.on hbw hc38 hbw.size
                replace hbQ := Below.on hbQ hc38 hbQ.size
                clear hc38
                refine EL.val (x_pick_t rfl rfl) rfl ?_
                refine EL.val (x_assign rfl) rfl ?_
                refine EL.nil ?_
                refine EX.seq ?_
                refine EC.ret ?_
                refine EX.seq_ret ?_
                exact EX.done (res1 rfl rfl) ⟨rfl, hbw⟩
              ·
                have hmp : 0 < m := by omega
                obtain ⟨a0, ea0, ha0n⟩ := good_at hg0 (k := 0) (by omega)
                obtain ⟨b1, o1, e1_, _, cy0⟩ := ints_cells S0 0 (by omega) _ _ _ _ _ rq0
                subst e1_
                rw [ea0] at cy0
                have ha0m : ((a0 : Nat) : Int) ∈ S0 := by rw [← ea0, getD_in (show 0 < S0.length by omega)]; exact List.getElem_mem _
                obtain ⟨m1, hm1, hWm1, hWne1⟩ := wrong_less hcb hmin hS0 ha0m
                refine EL.val (x_eql (r := false) rfl rfl (decide_eq_false (by omega))) rfl ?_
                refine EL.nil ?_
                refine EX.seq ?_
                refine EC.no rfl ?_
                refine EC.skip ?_
                refine EX.seq ?_
                refine EC.seq ?_
                refine EC.region ?_
                refine EL.val (fa_25_0 rfl) rfl ?_
                refine EL.val (ld_3 rfl (q2x.at (j := 0) rfl)) rfl ?_
                refine EL.val (fa_25_1 rfl) rfl ?_
                refine EL.val (ld_22 rfl (q2x.at (j := 1) rfl)) rfl ?_
                refine EL.val (bd_25_0_1 rfl rfl) rfl ?_
                refine EL.newP al_25 rfl ?_
                intro g39 w39 q39 hb39 hg39 hl39
                have n1_39 : g1 ≠ g39 := Nat.ne_of_lt (Nat.lt_of_lt_of_le q2x.lt hg39)
                have bhbw_39 := Nat.le_trans hbw.size hg39
                have bhbQ_39 := Nat.le_trans hbQ.size hg39
                replace q2x := q2x.below hb39 q2x.lt
                replace hbw := Below.on hbw hb39 hbw.size
                replace hbQ := Below.on hbQ hb39 hbQ.size
                clear hb39 hg39 hl39
                refine EL.store rfl rfl q39 sz_25 rfl rfl rfl rfl ?_
                intro w40 hq40 hg40
                replace q2x := q2x.grown hg40 (fun h => n1_39 (Option.some.inj h))
                replace hbw := below_store hbw hg40 bhbw_39
                replace hbQ := below_store hbQ hg40 bhbQ_39
                replace q39 := hq40
                clear hg40 hq40
                refine EL.nil ?_
                refine EX.seq ?_
                refine EC.seq ?_
                refine EC.seq ?_
                refine EC.region ?_
                refine EL.val (x_assign rfl) rfl ?_
                refine EL.nil ?_
                refine EX.seq ?_
                refine EC.block ?_
                refine EC.loopD [22, 258, 259, 260, 261, 262, 263, 264, 265, 266, 267, 268, 269, 270, 271, 272, 273, 274, 275, 276, 277, 278, 279, 280, 281] (fun k : Nat × Value × List Value => [(22, .int .i64 (k.1 : Nat))]) (fun k W => k.1 ≤ c.clues.length ∧ Blk W g1 25 #[.int .i64 c.events, .slice Ac c.clocks.length cc_, .slice Al c.clues.length cl_] ∧ Blk W g39 25 #[.int .i64 c.events, .slice Ac c.clocks.length cc_, k.2.1] ∧ W.ownsRow w9.heap.size 74 1 k.2.1 (withoutL c [((a0 : Nat) : Int)] k.1).length k.2.2 ∧ k.2.2.length = (withoutL c [((a0 : Nat) : Int)] k.1).length ∧ (∀ i, i < (withoutL c [((a0 : Nat) : Int)] k.1).length → Rd w B 6 (k.2.2.getD i undef) ((withoutL c [((a0 : Nat) : Int)] k.1).getD i []).length (optsC ((withoutL c [((a0 : Nat) : Int)] k.1).getD i []))) ∧ Below w.heap.size w W ∧ Below w9.heap.size w9 W) (fun k => c.clues.length - k.1) (0, .slice none 0 0, []) ⟨Nat.zero_le _, q2x, q39, own_none, rfl, fun i hi => absurd hi (Nat.not_lt_zero _), hbw, hbQ⟩ ⟨rfl, trivial⟩ ?_
                clear q2x q39 hbw hbQ
                rintro ⟨k, vR, lR⟩ wz ⟨hk, q2z, q21z, hoR, hlR, hrR, hbw, hbQ⟩
                dsimp only at hk q21z hoR hlR hrR
                obtain ⟨AR, cR, eR, _⟩ := (Rd.of_own hoR).shape
                subst eR
                have hwR := withoutL_len (c := c) (set := [((a0 : Nat) : Int)]) k
                by_cases hlk : k < c.clues.length
                ·
                  obtain ⟨bl, ol, e_, _, hcell⟩ := rdll_cell hr.clues k hlk
                  subst e_
                  have hrow := hr.clues.row k hlk
                  obtain ⟨Ao, co, eo, _⟩ := hrow.shape
                  rw [eo] at hcell hrow
                  by_cases hka : k = a0
                  ·
                    have hR : ((k : Nat) : Int) ∈ [((a0 : Nat) : Int)] := by rw [hka]; exact List.mem_singleton.2 rfl
                    refine EC.seq ?_
                    refine EC.seq ?_
                    refine EC.region ?_
                    refine EL.val (x_move rfl) rfl ?_
                    refine EL.val (fa_25_2 rfl) rfl ?_
                    refine EL.val (ld_23 rfl (q2z.at (j := 2) rfl)) rfl ?_
                    refine EL.val (ln_23 rfl) rfl ?_
                    refine EL.val (x_lss rfl rfl (decide_eq_true (show (((k : Nat) : Int) < ((c.clues.length : Nat) : Int)) by omega))) rfl ?_
                    refine EL.nil ?_
                    refine EX.seq ?_
                    refine EC.yes rfl ?_
                    refine EC.skip ?_
                    refine EX.seq ?_
                    refine EC.seq ?_
                    refine EC.block ?_
                    refine EC.seq ?_
                    refine EC.region ?_
                    refine EL.val (x_move rfl) rfl ?_
                    refine EL.val (x_move rfl) rfl ?_
                    refine EL.val (ix_41 (k := 0) rfl rfl hQpos) rfl ?_
                    refine EL.val (ld_26 rfl (below_load hbQ cq0)) rfl ?_
                    refine EL.val (ix_26 (k := 0) rfl rfl hmp) rfl ?_
                    refine EL.val (ld_3 rfl (below_load hbQ cy0)) rfl ?_
                    refine EL.val (x_neq (r := false) rfl rfl (decide_eq_false (by omega))) rfl ?_
                    refine EL.nil ?_
                    refine EX.seq ?_
                    refine EC.no rfl ?_
                    refine EC.skip ?_
                    refine EX.blk ?_
                    refine EX.seq ?_
                    refine EC.region ?_
                    refine EL.val (x_move rfl) rfl ?_
                    refine EL.val (x_add rfl rfl (c := ((k + 1 : Nat) : Int)) ((IntWalk.i64_in _ ⟨by first | omega | (simp only; omega), by first | omega | (simp only; omega)⟩).trans (by first | omega | (simp only; omega)))) rfl ?_
                    refine EL.val (x_assign rfl) rfl ?_
                    refine EL.nil ?_
                    refine EX.roundD (k + 1, _, lR) ⟨rfl, trivial⟩ (by repeat first | with_reducible exact Sub.refl _ | refine sub_past rfl ?_ | exact Sub.refl _ | refine sub_del rfl ?_ | refine sub_insL_nil ?_) ⟨hlk, q2z, q21z, by rw [without_succ_in hR]; exact hoR, by rw [without_succ_in hR]; exact hlR, by rw [without_succ_in hR]; exact hrR, hbw, hbQ⟩ (by simp only; omega)
                  ·
                    have hR : ¬((k : Nat) : Int) ∈ [((a0 : Nat) : Int)] := fun h => by have := List.mem_singleton.1 h; omega
                    refine EC.seq ?_
                    refine EC.seq ?_
                    refine EC.region ?_
                    refine EL.val (x_move rfl) rfl ?_
                    refine EL.val (fa_25_2 rfl) rfl ?_
                    refine EL.val (ld_23 rfl (q2z.at (j := 2) rfl)) rfl ?_
                    refine EL.val (ln_23 rfl) rfl ?_
                    refine EL.val (x_lss rfl rfl (decide_eq_true (show (((k : Nat) : Int) < ((c.clues.length : Nat) : Int)) by omega))) rfl ?_
                    refine EL.nil ?_
                    refine EX.seq ?_
                    refine EC.yes rfl ?_
                    refine EC.skip ?_
                    refine EX.seq ?_
                    refine EC.seq ?_
                    refine EC.block ?_
                    refine EC.seq ?_
                    refine EC.region ?_
                    refine EL.val (x_move rfl) rfl ?_
                    refine EL.val (x_move rfl) rfl ?_
                    refine EL.val (ix_41 (k := 0) rfl rfl hQpos) rfl ?_
                    refine EL.val (ld_26 rfl (below_load hbQ cq0)) rfl ?_
                    refine EL.val (ix_26 (k := 0) rfl rfl hmp) rfl ?_
                    refine EL.val (ld_3 rfl (below_load hbQ cy0)) rfl ?_
                    refine EL.val (x_neq (r := true) rfl rfl (decide_eq_true (by omega))) rfl ?_
                    refine EL.nil ?_
                    refine EX.seq ?_
                    refine EC.yes rfl ?_
                    have lt_1 := q2z.lt
                    have lt_39 := q21z.lt
                    refine EC.regionP [[], [0], [], [2], [], [2, 3, 4], [2, 3, 4, 5], [2, 3, 4, 5, 6], [0, 1, 2, 3, 4, 5, 6, 7], [0, 1, 2, 3, 4, 5, 6, 7, 8], [0, 1, 2, 3, 4, 5, 6, 7, 8, 9]] 8 [] (phi (fun i_ r => match i_ with | 0 => r 0 = .pointer (some ⟨g39, 2, none⟩) | 1 => r 1 = .slice AR (withoutL c [((a0 : Nat) : Int)] k).length cR | 2 => r 2 = .pointer (some ⟨g1, 2, none⟩) | 3 => r 3 = .slice (some ⟨bl, ol, none⟩) c.clues.length cl_ | 4 => r 4 = .int .i64 (k : Nat) | 5 => r 5 = .pointer (some ⟨bl, ol + k, none⟩) | 6 => r 6 = .agg #[.slice Ao (c.clues.getD k []).length co] | _ => True) [(7, fun r w_ => ∃ g_, r 7 = .slice (some ⟨g_, 0, none⟩) 1 1 ∧ Blk w_ g_ 74 #[.slice Ao (c.clues.getD k []).length co] ∧ wz.heap.size ≤ g_)]) (by kernel_rfl) rfl rfl (phi_cons mono_bs (phi_nil)) (fun i_ hi_ => ?_) ?_
                    · match i_, hi_ with
                      | 0, _ =>
                        intro val w1 a hb ha hd
                        have ha := ha.sub (Sub.ins (d := 21) (Sub.nil _) rfl)
                        exact hs_val ha rfl rfl (fa_25_2 rfl) rfl rfl
                      | 1, _ =>
                        intro val w1 a hb ha hd
                        have e0 : val 0 = .pointer (some ⟨g39, 2, none⟩) := hd 0 (memB_mem.1 rfl)
                        have ha := ha.sub (Sub.ins (d := 272) (Sub.nil _) (dep_get rfl e0))
                        exact hs_val ha rfl rfl (ld_23 rfl ((q21z.below hb q21z.lt).at (j := 2) rfl)) rfl rfl
                      | 2, _ =>
                        intro val w1 a hb ha hd
                        have ha := ha.sub (Sub.ins (d := 2) (Sub.nil _) rfl)
                        exact hs_val ha rfl rfl (fa_25_2 rfl) rfl rfl
                      | 3, _ =>
                        intro val w1 a hb ha hd
                        have e2 : val 2 = .pointer (some ⟨g1, 2, none⟩) := hd 2 (memB_mem.1 rfl)
                        have ha := ha.sub (Sub.ins (d := 274) (Sub.nil _) (dep_get rfl e2))
                        exact hs_val ha rfl rfl (ld_23 rfl ((q2z.below hb q2z.lt).at (j := 2) rfl)) rfl rfl
                      | 4, _ =>
                        intro val w1 a hb ha hd
                        have ha := ha.sub (Sub.ins (d := 22) (Sub.nil _) rfl)
                        exact hs_val ha rfl rfl (x_move rfl) rfl rfl
                      | 5, _ =>
                        intro val w1 a hb ha hd
                        have e3 : val 3 = .slice (some ⟨bl, ol, none⟩) c.clues.length cl_ := hd 3 (memB_mem.1 rfl)
                        have e4 : val 4 = .int .i64 (k : Nat) := hd 4 (memB_mem.1 rfl)
                        have ha := ha.sub (Sub.ins (d := 276) (Sub.ins (d := 275) (Sub.nil _) (dep_get rfl e3)) (dep_get rfl e4))
                        exact hs_val ha rfl rfl (ix_23 rfl rfl hlk) rfl rfl
                      | 6, _ =>
                        intro val w1 a hb ha hd
                        have e5 : val 5 = .pointer (some ⟨bl, ol + k, none⟩) := hd 5 (memB_mem.1 rfl)
                        have ha := ha.sub (Sub.ins (d := 277) (Sub.nil _) (dep_get rfl e5))
                        exact hs_val ha rfl rfl (ld_74 rfl (below_load (Below.on hbw hb hbw.size) hcell)) rfl rfl
                      | 7, _ =>
                        intro val w1 a hb ha hd
                        have e6 : val 6 = .agg #[.slice Ao (c.clues.getD k []).length co] := hd 6 (memB_mem.1 rfl)
                        have ha := ha.sub (Sub.ins (d := 278) (Sub.nil _) (dep_get rfl e6))
                        exact hs_newS ha rfl rfl (bs_23_1 rfl) rfl (fun g w' hq _ hge => ⟨g, rfl, hq, Nat.le_trans hb.size hge⟩)
                      | k + 8, h => exact absurd h (by omega)
                    · intro val wR47 hb halc hd
                      have e0 : val 0 = .pointer (some ⟨g39, 2, none⟩) := hd 0 (by omega)
                      have e1 : val 1 = .slice AR (withoutL c [((a0 : Nat) : Int)] k).length cR := hd 1 (by omega)
                      have e2 : val 2 = .pointer (some ⟨g1, 2, none⟩) := hd 2 (by omega)
                      have e3 : val 3 = .slice (some ⟨bl, ol, none⟩) c.clues.length cl_ := hd 3 (by omega)
                      have e4 : val 4 = .int .i64 (k : Nat) := hd 4 (by omega)
                      have e5 : val 5 = .pointer (some ⟨bl, ol + k, none⟩) := hd 5 (by omega)
                      have e6 : val 6 = .agg #[.slice Ao (c.clues.getD k []).length co] := hd 6 (by omega)
                      obtain ⟨ga7_47, e7, qa7_47, hga7_47⟩ := hd 7 (by omega)
                      change val 7 = _ at e7
                      change Blk wR47 ga7_47 74 #[.slice Ao (c.clues.getD k []).length co] at qa7_47
                      refine EL.ends (cs := [.pointer (some ⟨g39, 2, none⟩), .slice AR (withoutL c [((a0 : Nat) : Int)] k).length cR, .pointer (some ⟨g1, 2, none⟩), .slice (some ⟨bl, ol, none⟩) c.clues.length cl_, .int .i64 (k : Nat), .pointer (some ⟨bl, ol + k, none⟩), .agg #[.slice Ao (c.clues.getD k []).length co], .slice (some ⟨ga7_47, 0, none⟩) 1 1]) ⟨e0, e1, e2, e3, e4, e5, e6, e7, trivial⟩ rfl ?_
                      replace q2z := q2z.below hb q2z.lt
                      replace q21z := q21z.below hb q21z.lt
                      replace hoR := own_below hoR hb (Nat.le_refl _)
                      have n1_41 : g1 ≠ ga7_47 := Nat.ne_of_lt (Nat.lt_of_lt_of_le lt_1 hga7_47)
                      have n39_41 : g39 ≠ ga7_47 := Nat.ne_of_lt (Nat.lt_of_lt_of_le lt_39 hga7_47)
                      have bhbw_41 := Nat.le_trans hbw.size hga7_47
                      have bhbQ_41 := Nat.le_trans hbQ.size hga7_47
                      replace hbw := Below.on hbw hb hbw.size
                      replace hbQ := Below.on hbQ hb hbQ.size
                      clear hb
                      refine EL.push clue_elem rfl rfl hoR (rd_one (l := [.slice Ao (c.clues.getD k []).length co]) qa7_47 rfl) (by intro u hu; rw [List.mem_singleton.1 hu]; rfl) (by omega) rfl hbQ.size rfl ?_
                      intro v42 w42 hoRn hgr hb_ _
                      replace q2z := blk_grown q2z hoR rfl hgr
                      replace q21z := blk_grown q21z hoR rfl hgr
                      replace hbw := hbw.trans (hb_.mono hszQ)
                      replace hbQ := hbQ.trans hb_
                      clear hoR hgr hb_
                      obtain ⟨A42, c42, e42, _⟩ := (Rd.of_own hoRn).shape
                      subst e42
                      refine EL.val (fa_25_2 rfl) rfl ?_
                      refine EL.store rfl rfl q21z sz_23 rfl rfl rfl rfl ?_
                      intro w43 hq43 hg43
                      replace q2z := q2z.grown hg43 (fun h => n1_39 (Option.some.inj h))
                      replace hoRn := own_type hoRn q21z rfl hg43
                      replace hbw := below_store hbw hg43 bhbw_39
                      replace hbQ := below_store hbQ hg43 bhbQ_39
                      replace q21z := hq43
                      clear hg43 hq43
                      refine EL.nil ?_
                      refine EX.blk ?_
                      refine EX.seq ?_
                      refine EC.region ?_
                      refine EL.val (x_move rfl) rfl ?_
                      refine EL.val (x_add rfl rfl (c := ((k + 1 : Nat) : Int)) ((IntWalk.i64_in _ ⟨by first | omega | (simp only; omega), by first | omega | (simp only; omega)⟩).trans (by first | omega | (simp only; omega)))) rfl ?_
                      refine EL.val (x_assign rfl) rfl ?_
                      refine EL.nil ?_
                      refine EX.roundD (k + 1, _, lR ++ [_]) ⟨rfl, trivial⟩ (by repeat first | with_reducible exact Sub.refl _ | refine sub_past rfl ?_ | exact Sub.refl _ | refine sub_del rfl ?_ | refine sub_insL_nil ?_) ⟨hlk, q2z, q21z, by rw [without_succ_out hR, List.length_append]; exact hoRn, by rw [without_succ_out hR, List.length_append, List.length_append, hlR]; rfl, by rw [without_succ_out hR]; exact rows_snoc hlR hrR hrow, hbw, hbQ⟩ (by simp only; omega)
                ·
                  have hke : k = c.clues.length := by omega
                  subst hke
                  have hcR : RdCase wz wz.heap.size (.slice Ac c.clocks.length cc_) (.slice AR (withoutL c [((a0 : Nat) : Int)] c.clues.length).length cR) (withoutC c [((a0 : Nat) : Int)]) lR := ⟨(hr.clocks.below (hbw.mono hB)).more (Nat.le_trans hB hbw.size), hlR, Rd.of_own hoR, fun i hi => ((hrR i hi).below (hbw.mono hB)).more (Nat.le_trans hB hbw.size)⟩
                  have hbY := Below.refl wz.heap.size wz
                  refine EC.seq ?_
                  refine EC.seq ?_
                  refine EC.region ?_
                  refine EL.val (x_move rfl) rfl ?_
                  refine EL.val (fa_25_2 rfl) rfl ?_
                  refine EL.val (ld_23 rfl (q2z.at (j := 2) rfl)) rfl ?_
                  refine EL.val (ln_23 rfl) rfl ?_
                  refine EL.val (x_lss rfl rfl (decide_eq_false (show ¬(((c.clues.length : Nat) : Int) < ((c.clues.length : Nat) : Int)) by omega))) rfl ?_
                  refine EL.nil ?_
                  refine EX.seq ?_
                  refine EC.no rfl ?_
                  refine EC.exit ?_
                  refine EX.seq_exit ?_
                  refine EX.seq_exit ?_
                  refine EX.blk_here ?_
                  refine EX.seq ?_
                  refine EC.seq ?_
                  refine EC.region ?_
                  refine EL.val (ld_25 rfl (q21z.at (j := 0) rfl) (q21z.at (j := 1) rfl) (q21z.at (j := 2) rfl)) rfl ?_
                  refine EL.call (cl_14 rfl) rfl (copied_any (withoutC c [((a0 : Nat) : Int)]) _ _ lR _ _ (hcR.below hbY) hbY.size hn1 (without_n (by omega)) (small_without hsm)) ?_
                  rintro e w45 ⟨⟨vaq44, vbq44, wsq44, rfl, hoq44⟩, hc45⟩
                  refine ⟨_, rfl, ?_⟩
                  replace q2z := q2z.below hc45 q2z.lt
                  replace q21z := q21z.below hc45 q21z.lt
                  replace hbw := Below.on hbw hc45 hbw.size
                  replace hbQ := Below.on hbQ hc45 hbQ.size
                  replace hbY := Below.on hbY hc45 hbY.size
                  clear hc45
                  have hrq44 := hoq44.rd
                  obtain ⟨Adq44, cdq44, rfl, _⟩ := hrq44.clocks.shape
                  obtain ⟨Amq44, cmq44, rfl, _⟩ := hrq44.clues.rd.shape
                  have hbq44 := Below.refl w45.heap.size w45
                  refine EL.call (cl_35 rfl) rfl (wrong_to (wrg_ok (without_ok hcb) (by have := withoutL_len (c := c) (set := [((a0 : Nat) : Int)]) c.clues.length; show ¬10 < (withoutL c _ _).length; omega) (many_no hopt hmn)) (wrgRes_ok (wrg_ok (without_ok hcb) (by have := withoutL_len (c := c) (set := [((a0 : Nat) : Int)]) c.clues.length; show ¬10 < (withoutL c _ _).length; omega) (many_no hopt hmn))) _ _ wsq44 _ _ (hrq44.below hbq44) hbq44.size hn1 (without_n (by omega))) ?_
                  rintro e w46 ⟨⟨vL, ul, rfl, hrL⟩, hc46⟩
                  refine ⟨_, rfl, ?_⟩
                  replace q2z := q2z.below hc46 q2z.lt
                  replace q21z := q21z.below hc46 q21z.lt
                  replace hbw := Below.on hbw hc46 hbw.size
                  replace hbQ := Below.on hbQ hc46 hbQ.size
                  replace hbY := Below.on hbY hc46 hbY.size
                  replace hbq44 := Below.on hbq44 hc46 hbq44.size
                  clear hc46
                  have hLpos : 0 < (wrongL (withoutC c [((a0 : Nat) : Int)])).length := by rw [hWm1]; exact List.length_pos_iff.2 hWne1
                  obtain ⟨L1, eL1⟩ : ∃ z, z = wrongL (withoutC c [((a0 : Nat) : Int)]) := ⟨_, rfl⟩
                  have hL1 : L1.getD 0 [] ∈ wrongAt (withoutC c [((a0 : Nat) : Int)]) m1 := by rw [eL1, getD_in hLpos, ← hWm1]; exact List.getElem_mem hLpos
                  rw [← eL1] at hrL hLpos
                  obtain ⟨AL, cL, rfl, _⟩ := hrL.rd.shape
                  obtain ⟨bL, oL, e_, _, cL0⟩ := rdll_cell hrL 0 hLpos
                  subst e_
                  have rL0 := hrL.row 0 hLpos
                  obtain ⟨T0, eT0⟩ : ∃ z, z = L1.getD 0 [] := ⟨_, rfl⟩
                  rw [← eT0] at rL0 hL1
                  obtain ⟨_, hlT, _⟩ := wrongAt_mem.1 hL1
                  obtain ⟨AT, cT, fT, _⟩ := rL0.shape
                  rw [fT] at cL0
                  have hbL := Below.refl w46.heap.size w46
                  refine EL.val (x_move rfl) rfl ?_
                  refine EL.val (x_extract rfl rfl) rfl ?_
                  refine EL.val (x_extract rfl rfl) rfl ?_
                  refine EL.val (x_assign rfl) rfl ?_
                  refine EL.val (x_assign rfl) rfl ?_
                  refine EL.nil ?_
                  refine EX.seq ?_
                  refine EC.seq ?_
                  refine EC.regionQ (by kernel_rfl) (by kernel_rfl) ?_
                  refine EQ.val (fun _ hw => (x_move rfl)) rfl ?_
                  refine EQ.val (fun _ hw => (x_eql (r := true) rfl rfl (decide_eq_true rfl))) rfl ?_
                  refine EQ.val (fun _ hw => (x_move rfl)) rfl ?_
                  refine EQ.valg rfl rfl (fun _ hw => (x_move rfl)) rfl ?_
                  refine EQ.valg rfl rfl (fun _ hw => (ln_41 rfl)) rfl ?_
                  refine EQ.valg rfl rfl (fun _ hw => (x_gtr (r := true) rfl rfl (decide_eq_true (by omega)))) rfl ?_
                  refine EQ.val (fun _ hw => (x_pick_t rfl rfl)) rfl ?_
                  refine EQ.val (fun _ hw => (x_move rfl)) rfl ?_
                  refine EQ.valg rfl rfl (fun _ hw => (x_move rfl)) rfl ?_
                  refine EQ.valg rfl rfl (fun _ hw => (ix_41 (k := 0) rfl rfl hLpos)) rfl ?_
                  refine EQ.valg rfl rfl (fun _ hw => (ld_26 rfl (below_load hw (below_load hbL cL0)))) rfl ?_
                  refine EQ.valg rfl rfl (fun _ hw => (ln_26 rfl)) rfl ?_
                  refine EQ.valg rfl rfl (fun _ hw => (x_move rfl)) rfl ?_
                  refine EQ.valg rfl rfl (fun _ hw => (ix_41 (k := 0) rfl rfl hQpos)) rfl ?_
                  refine EQ.valg rfl rfl (fun _ hw => (ld_26 rfl (below_load hw (below_load hbQ cq0)))) rfl ?_
                  refine EQ.valg rfl rfl (fun _ hw => (ln_26 rfl)) rfl ?_
                  refine EQ.valg rfl rfl (fun _ hw => (x_sub rfl rfl (c := ((m1 : Nat) : Int)) ((IntWalk.i64_in _ ⟨by omega, by omega⟩).trans (by omega)))) rfl ?_
                  refine EQ.valg rfl rfl (fun _ hw => (x_eql (r := true) rfl rfl (decide_eq_true (by omega)))) rfl ?_
                  refine EQ.val (fun _ hw => (x_pick_t rfl rfl)) rfl ?_
                  refine EQ.val (fun _ hw => (x_move rfl)) rfl ?_
                  refine EQ.callg rfl rfl (fun _ _ _ ha => cl_12 _ ha) rfl (fun W hw => (known_any W).mono fun e w' h => ⟨h.1, hw.trans (h.2.mono hw.size)⟩) ?_
                  refine EQ.val (fun _ hw => (x_pick_t rfl rfl)) rfl ?_
                  refine EQ.val (fun _ hw => (x_assign rfl)) rfl ?_
                  refine EQ.fin (fun w47 hw_ => ?_)
                  replace q2z := q2z.below hw_ q2z.lt
                  replace q21z := q21z.below hw_ q21z.lt
                  replace hbw := Below.on hbw hw_ hbw.size
                  replace hbQ := Below.on hbQ hw_ hbQ.size
                  replace hbY := Below.on hbY hw_ hbY.size
                  replace hbq44 := Below.on hbq44 hw_ hbq44.size
                  replace hbL := Below.on hbL hw_ hbL.size
                  clear hw_
                  refine EX.seq ?_
                  refine EC.ret ?_
                  exact EX.done (res1 rfl rfl) ⟨rfl, hbw⟩
      ·
        refine EL.callg rfl rfl (cl_25 rfl) rfl (check_bad hcb _ _ wsq3 _ _ (hrq3.below hbq3) hbq3.size hn1 hn2) ?_
        rintro e w48 ⟨rfl, hc48⟩
        refine ⟨_, rfl, ?_⟩
        replace q1 := q1.below hc48 q1.lt
        replace hbw := Below.on hbw hc48 hbw.size
        replace hbq3 := Below.on hbq3 hc48 hbq3.size
        clear hc48
        refine EL.valg rfl rfl (x_neq (r := true) rfl rfl (by decide)) rfl ?_
        refine EL.val (x_pick_f rfl rfl) rfl ?_
        refine EL.nil ?_
        refine EX.seq ?_
        refine EC.yes rfl ?_
        refine EC.seq ?_
        refine EC.region ?_
        refine EL.call cl_12 rfl (known_any _) ?_
        rintro e w49 ⟨rfl, hc49⟩
        refine ⟨_, rfl, ?_⟩
        replace q1 := q1.below hc49 q1.lt
        replace hbw := Below.on hbw hc49 hbw.size
        replace hbq3 := Below.on hbq3 hc49 hbq3.size
        clear hc49
        refine EL.val (x_assign rfl) rfl ?_
        refine EL.nil ?_
        refine EX.seq ?_
        refine EC.ret ?_
        refine EX.seq_ret ?_
        exact EX.done (res1 rfl rfl) ⟨rfl, hbw⟩
  ·
    refine ⟨_, rfl, ?_⟩
    replace q1 := q1.below hcB q1.lt
    replace hbw := Below.on hbw hcB hbw.size
    clear hcB
    refine EL.val (x_move rfl) rfl ?_
    refine EL.skip rfl rfl rfl rfl ?_
    refine EL.skip rfl rfl rfl rfl ?_
    refine EL.skip rfl rfl rfl rfl ?_
    refine EL.skip rfl rfl rfl rfl ?_
    refine EL.val (x_pick_t rfl rfl) rfl ?_
    refine EL.val (x_move rfl) rfl ?_
    refine EL.skip rfl rfl rfl rfl ?_
    refine EL.skip rfl rfl rfl rfl ?_
    refine EL.skip rfl rfl rfl rfl ?_
    refine EL.skip rfl rfl rfl rfl ?_
    refine EL.val (x_pick_t rfl rfl) rfl ?_
    refine EL.nil ?_
    refine EX.seq ?_
    refine EC.yes rfl ?_
    refine EC.seq ?_
    refine EC.region ?_
    refine EL.call cl_12 rfl (known_any _) ?_
    rintro e w50 ⟨rfl, hc50⟩
    refine ⟨_, rfl, ?_⟩
    replace q1 := q1.below hc50 q1.lt
    replace hbw := Below.on hbw hc50 hbw.size
    clear hc50
    refine EL.val (x_assign rfl) rfl ?_
    refine EL.nil ?_
    refine EX.seq ?_
    refine EC.ret ?_
    refine EX.seq_ret ?_
    exact EX.done (res1 rfl rfl) ⟨rfl, hbw⟩
end Go.Proofs.Ytmaiiigijjfjfaa
