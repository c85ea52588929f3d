/- X26, WWq, ExX27, X27, ExX28, X28: what WitnessWrongsProof needs of them (merged by trimpack.py). -/
import Derived.Test.YtmaiiigijjfjfaaWrongsT4
set_option linter.unusedVariables false
set_option linter.unusedSimpArgs false
namespace Go.Proofs.Ytmaiiigijjfjfaa
open Go Go.RowKit
set_option maxHeartbeats 1000000 in
theorem sets_iter (N m n0 gm go : Nat) (S : List Nat) (w : World) (hN : N ≤ 1000) (hS1 : memB S 116 = false) (hS2 : memB S 111 = false) (hS3 : memB S 3 = false) (hn : n0 ≤ w.heap.size)
    (hqm0 : Blk w gm 3 #[.int .i64 (m : Nat)]) (hqo0 : Blk w go 3 #[.int .i64 (N : Nat)]) : IterAt Try.prog 74 #[.pointer (some ⟨gm, 0, none⟩), .pointer (some ⟨go, 0, none⟩)] okRow n0 S (setsP N m [] 0) w := by
  intro l J Jx W hkW hJ hJx hY hJ0
  change Calls Try.prog 74 #[.func (.yield l) #[] #[], .pointer (some ⟨gm, 0, none⟩), .pointer (some ⟨go, 0, none⟩)] W _
  have hbw := Below.refl W.heap.size W
  have hqm := hkW.blk _ _ _ hqm0 hS3
  have hqo := hkW.blk _ _ _ hqo0 hS3
  have hnW := Nat.le_trans hn hkW.size
  refine EC.enter 9 Try.func74 rfl rfl rfl ?_
  refine EC.seq ?_
  refine EC.region ?_
  refine EL.newP (bx_111 rfl rfl) rfl ?_
  intro g1 w1 q1 hb1 hg1 hl1
  have bhbw_1 := Nat.le_trans hbw.size hg1
  replace hbw := Below.on hbw hb1 hbw.size
  clear hb1 hg1 hl1
  refine EL.nil ?_
  refine EX.seq ?_
  refine EC.seq ?_
  refine EC.region ?_
  refine EL.newP al_116 rfl ?_
  intro g2 w2 q2 hb2 hg2 hl2
  have n1_2 : g1 ≠ g2 := Nat.ne_of_lt (Nat.lt_of_lt_of_le q1.lt hg2)
  have bhbw_2 := Nat.le_trans hbw.size hg2
  replace q1 := q1.below hb2 q1.lt
  replace hbw := Below.on hbw hb2 hbw.size
  clear hb2 hg2 hl2
  refine EL.nil ?_
  refine EX.seq ?_
  refine EC.seq ?_
  refine EC.region ?_
  refine EL.val (mf_75_0_4 rfl rfl rfl rfl) rfl ?_
  refine EL.store rfl rfl q2 sz_116 rfl rfl rfl rfl ?_
  intro w3 hq3 hg3
  replace q1 := q1.grown hg3 (fun h => n1_2 (Option.some.inj h))
  replace hbw := below_store hbw hg3 bhbw_2
  replace q2 := hq3
  clear hg3 hq3
  refine EL.nil ?_
  refine EX.seq ?_
  refine EC.region ?_
  refine EL.val (ld_116 rfl (q2.at (j := 0) rfl)) rfl ?_
  refine EL.newS (bs_26_0) rfl ?_
  intro g4 w4 q4 hb4 hg4 hl4
  have n1_4 : g1 ≠ g4 := Nat.ne_of_lt (Nat.lt_of_lt_of_le q1.lt hg4)
  have n2_4 : g2 ≠ g4 := Nat.ne_of_lt (Nat.lt_of_lt_of_le q2.lt hg4)
  have bhbw_4 := Nat.le_trans hbw.size hg4
  replace q1 := q1.below hb4 q1.lt
  replace q2 := q2.below hb4 q2.lt
  replace hbw := Below.on hbw hb4 hbw.size
  clear hb4 hg4 hl4
  have hAt : AtS N m n0 gm g1 go g2 l w4 := ⟨hqm.below hbw hqm.lt, q1, hqo.below hbw hqo.lt, q2, Nat.le_trans hnW hbw.size⟩
  refine EL.call (clv_75_0_2_4 rfl rfl rfl) rfl (setsF_any N m n0 gm _ go _ l S J Jx (setsP N m [] 0) hN hS1 hS2 hS3 hJ hJx hY m [] _ 0 [] _ (by simp) (Nat.zero_le _) (Nat.zero_le _) hAt (own_empty 1 q4 (Nat.zero_le _)) (hJ _ _ _ hJ0 hbw) (by rw [List.map_nil, List.nil_append]; exact List.prefix_rfl)) ?_
  rintro e wy ⟨hky, hans⟩
  replace hky := (Kp.of_below hbw hnW).trans hky
  rcases hans with ⟨rfl, ys, hys, hJy⟩ | ⟨rfl, ys, hne, hys, hJy⟩
  ·
    refine ⟨_, rfl, ?_⟩
    refine EL.nil ?_
    exact EX.done' (res0 rfl) ⟨⟨_, rfl⟩, hky, .inl ⟨ys, hys, hJy⟩⟩
  ·
    refine ⟨_, rfl, ?_⟩
    refine EL.nil ?_
    exact EX.done' (res0 rfl) ⟨⟨_, rfl⟩, hky, .inr ⟨ys, hne, hys, hJy⟩⟩
theorem sets_fn (N m : Nat) (w : World) : Calls Try.prog 58 #[.int .i64 (N : Nat), .int .i64 (m : Nat)] w fun e w' => (∃ gm go, e = .returned (.func (.func 74) #[] #[.pointer (some ⟨gm, 0, none⟩), .pointer (some ⟨go, 0, none⟩)]) ∧ Blk w' gm 3 #[.int .i64 (m : Nat)] ∧ Blk w' go 3 #[.int .i64 (N : Nat)] ∧ w.heap.size ≤ gm ∧ w.heap.size ≤ go) ∧ Below w.heap.size w w' := by
  have hbw := Below.refl w.heap.size w
  refine EC.enter 6 Try.func58 rfl rfl rfl ?_
  refine EC.seq ?_
  refine EC.region ?_
  refine EL.newP (bx_3 rfl rfl) rfl ?_
  intro g1 w1 q1 hb1 hg1 hl1
  have bhbw_1 := Nat.le_trans hbw.size hg1
  replace hbw := Below.on hbw hb1 hbw.size
  clear hb1 hg1 hl1
  refine EL.newP (bx_3 rfl rfl) rfl ?_
  intro g2 w2 q2 hb2 hg2 hl2
  have n1_2 : g1 ≠ g2 := Nat.ne_of_lt (Nat.lt_of_lt_of_le q1.lt hg2)
  have bhbw_2 := Nat.le_trans hbw.size hg2
  replace q1 := q1.below hb2 q1.lt
  replace hbw := Below.on hbw hb2 hbw.size
  clear hb2 hg2 hl2
  refine EL.val (x_assign rfl) rfl ?_
  refine EL.nil ?_
  refine EX.seq ?_
  refine EC.seq ?_
  refine EC.region ?_
  refine EL.val (mf_74_0_2 rfl rfl) rfl ?_
  refine EL.val (x_assign rfl) rfl ?_
  refine EL.nil ?_
  refine EX.seq ?_
  refine EC.ret ?_
  exact EX.done (res1 rfl rfl) ⟨⟨_, _, rfl, q2, q1, bhbw_2, bhbw_1⟩, hbw⟩
def HasI (b0 gl : Nat) (w0 : World) (pre : List It) (W : World) : Prop := pre = [] ∧ Blk W gl 4 #[.bool false] ∧ Below b0 w0 W
def HasX (b0 gl : Nat) (w0 : World) (pre : List It) (W : World) : Prop := Blk W gl 4 #[.bool true] ∧ Below b0 w0 W
theorem HasI.from {b0 gl B : Nat} {w0 : World} (h1 : b0 ≤ w0.heap.size) (h2 : b0 ≤ B) : OwnFrom B (HasI b0 gl w0) := fun s W W' row h hg hr => ⟨h.1, blk_keep h.2.1 hg fun r e => (hr r e).2, ownFrom_below (β := List It) h1 h2 s W W' row h.2.2 hg hr⟩
theorem HasX.from {b0 gl B : Nat} {w0 : World} (h1 : b0 ≤ w0.heap.size) (h2 : b0 ≤ B) : OwnFrom B (HasX b0 gl w0) := fun s W W' row h hg hr => ⟨blk_keep h.1 hg fun r e => (hr r e).2, ownFrom_below (β := List It) h1 h2 s W W' row h.2 hg hr⟩
theorem hasC_some {c : Case} {pre : List It} (h : pre ≠ []) (hp : pre.map (·.1) <+: coursesL c) : hasC c = true := by
  unfold hasC
  cases e : coursesL c with
  | nil =>
    rw [e] at hp
    have := List.prefix_nil.1 hp
    exact absurd (List.map_eq_nil_iff.1 this) h
  | cons => rfl
set_option maxHeartbeats 2000000 in
theorem has_any (c : Case) (vc vl : Value) (vs : List Value) (w : World) (B : Nat) (hr : RdCase w B vc vl c vs) (hB : B ≤ w.heap.size) (hn1 : c.clocks.length ≤ 1073741824) (hn2 : c.clues.length ≤ 1073741824) (hcb : caseB c = true) :
    Calls Try.prog 59 #[.agg #[.int .i64 c.events, vc, vl]] w fun e w' => e = .returned (.bool (hasC c)) ∧ Below w.heap.size w w' := by
  obtain ⟨Ac, cc_, rfl, _⟩ := hr.clocks.shape
  obtain ⟨Al, cl_, rfl, _⟩ := hr.clues.rd.shape
  have hbw := Below.refl w.heap.size w
  refine EC.marks 6 Try.func59 rfl rfl rfl ?_
  refine ECI.out ?_
  refine EC.seq ?_
  refine EC.region ?_
  refine EL.newP (bx_25 rfl) rfl ?_
  intro g1 w1 q1 hb1 hg1 hl1
  have bhbw_1 := Nat.le_trans hbw.size hg1
  replace hbw := Below.on hbw hb1 hbw.size
  clear hb1 hg1 hl1
  refine EL.newP al_4 rfl ?_
  intro g2 w2 q2 hb2 hg2 hl2
  have n1_2 : g1 ≠ g2 := Nat.ne_of_lt (Nat.lt_of_lt_of_le q1.lt hg2)
  have bhbw_2 := Nat.le_trans hbw.size hg2
  replace q1 := q1.below hb2 q1.lt
  replace hbw := Below.on hbw hb2 hbw.size
  clear hb2 hg2 hl2
  refine EL.nil ?_
  refine EX.seq ?_
  refine EC.seq ?_
  refine EC.seq ?_
  refine EC.region ?_
  refine EL.val (ld_25 rfl (q1.at (j := 0) rfl) (q1.at (j := 1) rfl) (q1.at (j := 2) rfl)) rfl ?_
  refine EL.call (cl_45 rfl) rfl (courses_fn _ ⟨_, _, _, rfl⟩ ⟨_, _, _, rfl⟩) ?_
  rintro e w3 ⟨⟨gc, rfl, hcq, hgc⟩, hc3⟩
  refine ⟨_, rfl, ?_⟩
  replace q1 := q1.below hc3 q1.lt
  replace q2 := q2.below hc3 q2.lt
  replace hbw := Below.on hbw hc3 hbw.size
  clear hc3
  refine EL.nil ?_
  refine EX.seq ?_
  refine EC.block ?_
  obtain ⟨gl, egl⟩ : ∃ z, z = g2 := ⟨_, rfl⟩
  have qL := q2
  rw [← egl] at qL
  have hgl : w.heap.size ≤ gl := by rw [egl]; exact bhbw_2
  subst egl
  refine EC.inn (k := 0) ?_
  have hI1 : OwnFrom w3.heap.size (HasI w.heap.size gl w) := HasI.from (Nat.le_refl _) hbw.size
  have hI2 : OwnFrom w3.heap.size (HasX w.heap.size gl w) := HasX.from (Nat.le_refl _) hbw.size
  refine rangeF (σ1 := fun x => _) (ok := okRow) (n0 := w.heap.size) (S := [4]) rfl (fun args w => by kernel_rfl) rfl (courses_iter c _ _ vs w.heap.size B gc [4] _ hcb hB rfl rfl rfl hbw.size hcq (hr.below (hbw.mono hB))) hbw.size (HasI w.heap.size gl w) (HasX w.heap.size gl w) hI1 hI2 ⟨rfl, qL, hbw⟩ (okRow_from _) (fun l x W K hK => ECI.skip (fun a ha => hK a ha)) ?_ ?_ ?_
  · rintro l pre x W hpf hokx ⟨rfl, qW, hlow⟩
    refine ECI.block ?_
    refine ECI.seq ?_
    refine ECI.region ?_
    refine ELI.store rfl rfl qW sz_4 rfl rfl rfl rfl ?_
    intro W3 q3 hgr3 hk3
    refine ELI.nil ?_
    refine EXI.seq ?_
    refine ECI.ret ?_
    refine EXI.blk_ret ?_
    exact fun a ha => ⟨hk3, Kp.grown qW rfl hgl hgr3, .inr ⟨rfl, q3, hlow.grown hgr3 hlow.size (fun k e => by injection e with e; omega)⟩⟩
  · rintro D xs W hD hall ⟨rfl, qW, hlow⟩ hkp hdef
    refine EXI.blk ?_
    refine EXI.seqw ?_
    refine ECI.seq ?_
    refine ECI.region ?_
    refine ELI.store rfl rfl qW sz_4 rfl rfl rfl rfl ?_
    intro W3 q3 hgr3 hk3
    refine ELI.nil ?_
    refine EXI.seq ?_
    refine ECI.ret ?_
    exact EXI.done (n0 := w.heap.size) (fun d hd => ⟨D, Nat.le_trans hbw.size hD, List.mem_singleton.1 hd, hk3.same _ _ hdef rfl⟩) (by simp) (v := .bool false) (fun w' ht => resc1 rfl rfl (lv_4 ((ht.blk _ _ _ q3).at (j := 0) rfl))) (fun w' ht => ⟨by rw [hasC, ← hall]; rfl, (hlow.grown hgr3 hlow.size (fun k e => by injection e with e; omega)).trans ht.below⟩)
  · rintro D pre W hD hne hall ⟨qW, hlow⟩ hkp hdef
    refine EXI.blk_ret ?_
    refine EXI.seq_ret ?_
    exact EXI.done (n0 := w.heap.size) (fun d hd => ⟨D, Nat.le_trans hbw.size hD, List.mem_singleton.1 hd, hdef⟩) (by simp) (v := .bool true) (fun w' ht => resc1 rfl rfl (lv_4 ((ht.blk _ _ _ qW).at (j := 0) rfl))) (fun w' ht => ⟨by rw [hasC_some hne hall], hlow.trans ht.below⟩)
def wrgErr (c : Case) : Int := if caseB c = false then 2 else if 10 < c.clues.length ∨ 512 < manyC c then 5 else 0
def wrgRes (c : Case) : List (List Int) := if wrgErr c = 0 then wrongL c else []
theorem wrg_bad {c : Case} (h : ¬caseB c = true) : wrgErr c = 2 := by unfold wrgErr; rw [if_pos (by simpa using h)]
theorem wrg_long {c : Case} (h : caseB c = true) (hm : 10 < c.clues.length ∨ 512 < manyC c) : wrgErr c = 5 := by unfold wrgErr; rw [if_neg (by simp [h]), if_pos hm]
theorem wrg_ok {c : Case} (h : caseB c = true) (h1 : ¬10 < c.clues.length) (h2 : ¬512 < manyC c) : wrgErr c = 0 := by unfold wrgErr; rw [if_neg (by simp [h]), if_neg (by omega)]
theorem blk_type {w w' : World} {g k T T' : Nat} {cs cs' : Array Value} (h : Blk w g T cs) (hq : Blk w k T' cs') (hT : Nat.beq T' T = false) (hg : w.grownBy w' (some k)) : Blk w' g T cs := h.grown hg fun e => by
  injection e with e
  subst e
  unfold Blk at h hq
  rw [hq] at h
  injection h with h
  injection h with _ h
  subst h
  rw [Nat.beq_refl] at hT
  cases hT
theorem Marks.below {n0 : Nat} {ds : List Deferred} {W W' : World} (h : Marks n0 ds W) (hb : Below W.heap.size W W') : Marks n0 ds W' := fun d hd => by
  obtain ⟨D, h1, h2, h3⟩ := h d hd
  exact ⟨D, h1, h2, (hb.block D (Array.getElem?_eq_some_iff.1 h3).1).trans h3⟩
theorem Marks.keeps {n0 : Nat} {ds : List Deferred} {W W' : World} (h : Marks n0 ds W) (hk : KeepsOthers W W') : Marks n0 ds W' := fun d hd => by
  obtain ⟨D, h1, h2, h3⟩ := h d hd
  exact ⟨D, h1, h2, hk.same _ _ h3 rfl⟩
theorem Marks.cons {n0 D : Nat} {ds : List Deferred} {W : World} (h : Marks n0 ds W) (hD : n0 ≤ D) (hd : W.heap[D]? = some (.deferred (some []))) : Marks n0 ({ target := .collected D, args := #[] } :: ds) W := fun d hm => by
  rcases List.mem_cons.1 hm with rfl | h1
  · exact ⟨D, hD, rfl, hd⟩
  · exact h d h1
/-- the marks of a world that has been, still there -/
structure MarksIn (n0 : Nat) (ds : List Deferred) (W0 W : World) : Prop where
  marks : Marks n0 ds W
  old : Marks n0 ds W0
theorem Marks.refl {n0 : Nat} {ds : List Deferred} {W : World} (h : Marks n0 ds W) : MarksIn n0 ds W W := ⟨h, h⟩
theorem MarksIn.below {n0 : Nat} {ds : List Deferred} {W0 W W' : World} (h : MarksIn n0 ds W0 W) (hb : Below W.heap.size W W') : MarksIn n0 ds W0 W' := ⟨h.marks.below hb, h.old⟩
theorem MarksIn.keeps {n0 : Nat} {ds : List Deferred} {W0 W W' : World} (h : MarksIn n0 ds W0 W) (hk : KeepsOthers W W') (_ : W.heap.size ≤ W'.heap.size) : MarksIn n0 ds W0 W' := ⟨h.marks.keeps hk, h.old⟩
theorem MarksIn.fresh {n0 D : Nat} {ds : List Deferred} {W0 W : World} (h : MarksIn n0 ds W0 W) (hD : W0.heap.size ≤ D) (hm : ({ target := .collected D, args := #[] } : Deferred) ∈ ds) : False := by
  obtain ⟨D', _, h2, h3⟩ := h.old _ hm
  have := (Array.getElem?_eq_some_iff.1 h3).1
  injection h2 with h2 _
  injection h2 with h2
  omega
/-- what a round of Wrong's range keeps -/
def WrgI (c : Case) (b0 gl gc : Nat) (w0 : World) (cs : Array Value) (W0 : World) (dl : List Deferred) (pre : List It) (W : World) : Prop :=
  ∃ ys : List It, ys.map (·.1) = (pre.map (·.1)).filter (hasW c) ∧ Coll b0 gl w0 ys W ∧ Blk W gc 25 cs ∧ MarksIn b0 dl W0 W
theorem WrgI.from {c : Case} {b0 gl gc B : Nat} {w0 W0 : World} {cs : Array Value} {dl : List Deferred} (h1 : b0 ≤ w0.heap.size) (h2 : b0 ≤ B) (h3 : W0.heap.size ≤ B) : OwnFrom B (WrgI c b0 gl gc w0 cs W0 dl) := fun s W W' row h hg hr => by
  obtain ⟨ys, hys, hcl, hq, hmk⟩ := h
  refine ⟨ys, hys, (Coll.from h1 h2) ys W W' row hcl hg hr, blk_keep hq hg fun r e => (hr r e).2, ⟨fun d hd => ?_, hmk.old⟩⟩
  obtain ⟨D, k1, k2, k3⟩ := hmk.marks d hd
  obtain ⟨D', _, k5, k6⟩ := hmk.old d hd
  have e : D' = D := by rw [k2] at k5; injection k5 with k5 _; injection k5 with k5; exact k5.symm
  subst e
  have hlt := (Array.getElem?_eq_some_iff.1 k6).1
  exact ⟨D', k1, k2, (hg.block D' (Array.getElem?_eq_some_iff.1 k3).1 (fun e => by have := (hr D' e.symm).1; omega)).trans k3⟩
theorem setsP_each (n : Nat) : ∀ (d : Nat) (pre : List Int) (next : Nat), ∀ x ∈ setsP n d pre next, x.length = pre.length + d
  | 0, pre, next, x, hx => by simp only [setsP, List.mem_singleton] at hx; subst hx; rfl
  | d + 1, pre, next, x, hx => by
    unfold setsP at hx
    obtain ⟨k, _, hx⟩ := mem_flatR.1 hx
    have := setsP_each n d _ _ x hx
    rw [List.length_append, List.length_singleton] at this
    omega
theorem sets_lt {N m : Nat} {pre : List It} {x : It} (h : (pre ++ [x]).map (·.1) <+: setsP N m [] 0) : x.1.length = m := by
  have hm : x.1 ∈ setsP N m [] 0 := h.subset (by simp)
  have := setsP_each N m [] 0 _ hm
  simpa using this
theorem wrg_len {c : Case} {m : Nat} {ys pre : List It} {x : It} (hys : ys.map (·.1) = (pre.map (·.1)).filter (hasW c)) (h : (pre ++ [x]).map (·.1) <+: setsP c.clues.length m [] 0) (hn : c.clues.length ≤ 10) : ys.length + 1 ≤ 1048576 := by
  have h1 := h.length_le
  have h2 := setsP_len c.clues.length m [] 0
  have h3 : (2 : Nat) ^ (c.clues.length - 0) ≤ 2 ^ 10 := Nat.pow_le_pow_right (by omega) (by omega)
  have h4 : ys.length ≤ pre.length := by
    have := congrArg List.length hys
    rw [List.length_map] at this
    rw [this]
    exact Nat.le_trans (List.length_filter_le _ _) (by simp)
  simp only [List.length_map, List.length_append, List.length_singleton] at h1
  omega
set_option maxHeartbeats 4000000 in
set_option maxRecDepth 100000 in
theorem wrong_any (c : Case) (vc vl : Value) (vs : List Value) (w : World) (B : Nat) (hr : RdCase w B vc vl c vs) (hB : B ≤ w.heap.size) (hn1 : c.clocks.length ≤ 1073741824) (hn2 : c.clues.length ≤ 1073741824) :
    Calls Try.prog 35 #[.agg #[.int .i64 c.events, vc, vl]] w fun e w' => (∃ v vs', e = .returned (.tuple #[v, .int .i64 (wrgErr c)]) ∧ RdLL iC 1 w' w'.heap.size v (wrgRes c) vs') ∧ Below w.heap.size w w' := by
  obtain ⟨Ac, cc_, rfl, _⟩ := hr.clocks.shape
  obtain ⟨Al, cl_, rfl, _⟩ := hr.clues.rd.shape
  have hbw := Below.refl w.heap.size w
  refine EC.marks 39 Try.func35 rfl rfl rfl ?_
  refine ECI.out ?_
  refine EC.seq ?_
  refine EC.region ?_
  refine EL.newP (bx_25 rfl) rfl ?_
  intro g1 w1 q1 hb1 hg1 hl1
  have bhbw_1 := Nat.le_trans hbw.size hg1
  replace hbw := Below.on hbw hb1 hbw.size
  clear hb1 hg1 hl1
  refine EL.newP al_41 rfl ?_
  intro g2 w2 q2 hb2 hg2 hl2
  have n1_2 : g1 ≠ g2 := Nat.ne_of_lt (Nat.lt_of_lt_of_le q1.lt hg2)
  have bhbw_2 := Nat.le_trans hbw.size hg2
  replace q1 := q1.below hb2 q1.lt
  replace hbw := Below.on hbw hb2 hbw.size
  clear hb2 hg2 hl2
  refine EL.val (x_assign rfl) rfl ?_
  refine EL.nil ?_
  refine EX.seq ?_
  refine EC.seq ?_
  refine EC.block ?_
  refine EC.seq ?_
  refine EC.region ?_
  refine EL.val (ld_25 rfl (q1.at (j := 0) rfl) (q1.at (j := 1) rfl) (q1.at (j := 2) rfl)) rfl ?_
  by_cases hcb : caseB c = true
  ·
    obtain ⟨hev, h8, h20, hck, hcl⟩ := caseB_ok hcb
    refine EL.call (cl_25 rfl) rfl (check_ok hcb _ _ vs _ B (hr.below (hbw.mono hB)) (Nat.le_trans hB hbw.size) hn1 hn2) ?_
    rintro e w3 ⟨rfl, hc3⟩
    refine ⟨_, rfl, ?_⟩
    replace q1 := q1.below hc3 q1.lt
    replace q2 := q2.below hc3 q2.lt
    replace hbw := Below.on hbw hc3 hbw.size
    clear hc3
    refine EL.val (x_neq (r := false) rfl rfl (by decide)) rfl ?_
    refine EL.val (x_assign rfl) rfl ?_
    refine EL.nil ?_
    refine EX.seq ?_
    refine EC.no rfl ?_
    refine EC.seq ?_
    refine EC.region ?_
    refine EL.val (fa_25_2 rfl) rfl ?_
    refine EL.val (ld_23 rfl (q1.at (j := 2) rfl)) rfl ?_
    refine EL.val (ln_23 rfl) rfl ?_
    by_cases h10 : 10 < c.clues.length
    ·
      refine EL.val (x_gtr rfl rfl (by first | assumption | exact decide_eq_true (by omega))) rfl ?_
      refine EL.val (x_move rfl) rfl ?_
      refine EL.skip rfl rfl rfl rfl ?_
      refine EL.skip rfl rfl rfl rfl ?_
      refine EL.val (x_pick_t rfl rfl) rfl ?_
      refine EL.val (x_assign rfl) rfl ?_
      refine EL.nil ?_
      refine EX.seq ?_
      refine EC.yes rfl ?_
      refine EC.seq ?_
      refine EC.region ?_
      refine EL.store rfl rfl q2 sz_41 rfl rfl rfl rfl ?_
      intro w4 hq4 hg4
      replace q1 := q1.grown hg4 (fun h => n1_2 (Option.some.inj h))
      replace hbw := below_store hbw hg4 bhbw_2
      replace q2 := hq4
      clear hg4 hq4
      refine EL.val (x_assign rfl) rfl ?_
      refine EL.nil ?_
      refine EX.seq ?_
      refine EC.ret ?_
      refine EX.blk_ret ?_
      refine EX.seq_ret ?_
      refine EX.doneM (resct rfl rfl rfl (lv_41 (q2.at (j := 0) rfl))) ?_
      exact ⟨⟨_, [], by rw [wrg_long hcb (.inl h10)], by rw [wrgRes, if_neg (by rw [wrg_long hcb (.inl h10)]; decide)]; exact rdll_nil⟩, hbw⟩
    ·
      refine EL.val (x_gtr rfl rfl (by first | assumption | exact decide_eq_false (by omega))) rfl ?_
      refine EL.val (x_move rfl) rfl ?_
      refine EL.valg rfl rfl (ld_25 rfl (q1.at (j := 0) rfl) (q1.at (j := 1) rfl) (q1.at (j := 2) rfl)) rfl ?_
      by_cases hmn : 512 < manyC c
      ·
        refine EL.callg rfl rfl (cl_44 rfl) rfl (tooMany_is (decide_eq_true hmn) _ _ vs _ B (hr.below (hbw.mono hB)) (Nat.le_trans hB hbw.size) hn1 hn2 hcb) ?_
        rintro e w5 ⟨rfl, hc5⟩
        refine ⟨_, rfl, ?_⟩
        replace q1 := q1.below hc5 q1.lt
        replace q2 := q2.below hc5 q2.lt
        replace hbw := Below.on hbw hc5 hbw.size
        clear hc5
        refine EL.val (x_pick_f rfl rfl) rfl ?_
        refine EL.val (x_assign rfl) rfl ?_
        refine EL.nil ?_
        refine EX.seq ?_
        refine EC.yes rfl ?_
        refine EC.seq ?_
        refine EC.region ?_
        refine EL.store rfl rfl q2 sz_41 rfl rfl rfl rfl ?_
        intro w6 hq6 hg6
        replace q1 := q1.grown hg6 (fun h => n1_2 (Option.some.inj h))
        replace hbw := below_store hbw hg6 bhbw_2
        replace q2 := hq6
        clear hg6 hq6
        refine EL.val (x_assign rfl) rfl ?_
        refine EL.nil ?_
        refine EX.seq ?_
        refine EC.ret ?_
        refine EX.blk_ret ?_
        refine EX.seq_ret ?_
        refine EX.doneM (resct rfl rfl rfl (lv_41 (q2.at (j := 0) rfl))) ?_
        exact ⟨⟨_, [], by rw [wrg_long hcb (.inr hmn)], by rw [wrgRes, if_neg (by rw [wrg_long hcb (.inr hmn)]; decide)]; exact rdll_nil⟩, hbw⟩
      ·
        refine EL.callg rfl rfl (cl_44 rfl) rfl (tooMany_is (decide_eq_false hmn) _ _ vs _ B (hr.below (hbw.mono hB)) (Nat.le_trans hB hbw.size) hn1 hn2 hcb) ?_
        rintro e w7 ⟨rfl, hc7⟩
        refine ⟨_, rfl, ?_⟩
        replace q1 := q1.below hc7 q1.lt
        replace q2 := q2.below hc7 q2.lt
        replace hbw := Below.on hbw hc7 hbw.size
        clear hc7
        refine EL.val (x_pick_f rfl rfl) rfl ?_
        refine EL.val (x_assign rfl) rfl ?_
        refine EL.nil ?_
        refine EX.seq ?_
        refine EC.no rfl ?_
        refine EC.skip ?_
        refine EX.blk ?_
        refine EX.seq ?_
        refine EC.seq ?_
        refine EC.seq ?_
        refine EC.region ?_
        refine EL.val (x_assign rfl) rfl ?_
        refine EL.nil ?_
        refine EX.seq ?_
        refine EC.block ?_
        have hg1 : w.heap.size ≤ g1 := bhbw_1
        have hg2 : w.heap.size ≤ g2 := bhbw_2
        obtain ⟨gl, egl⟩ : ∃ z, z = g2 := ⟨_, rfl⟩
        have qL := q2
        rw [← egl] at qL hg2
        subst egl
        refine EC.inn (k := 0) ?_
        refine ECI.loopD [4, 5, 19, 20, 21, 22, 23, 24, 25, 26, 27, 28, 29, 30, 31, 32, 33, 34, 35, 36, 37] (fun x : Nat × List It × List Deferred => [(4, .int .i64 (x.1 : Nat))]) (fun x => x.2.2) (fun x W => x.1 ≤ c.clues.length + 1 ∧ (∀ k, k + 1 < x.1 → wrongAt c k = []) ∧ (x.1 = 0 → x.2.1 = []) ∧ (0 < x.1 → x.2.1.map (·.1) = wrongAt c (x.1 - 1)) ∧ Blk W g1 25 #[.int .i64 c.events, .slice Ac c.clocks.length cc_, .slice Al c.clues.length cl_] ∧ Coll w.heap.size gl w x.2.1 W ∧ Marks w.heap.size x.2.2 W ∧ x.2.2.Nodup ∧ w.heap.size ≤ W.heap.size) (fun x => c.clues.length + 2 - x.1) (0, [], []) ⟨Nat.zero_le _, fun k hk => absurd hk (by omega), fun _ => rfl, fun h => absurd h (Nat.lt_irrefl 0), q1, ⟨⟨_, qL, ⟨rfl, .inl ⟨rfl, rfl⟩⟩⟩, fun x hx => absurd hx (by simp), hbw⟩, fun d hd => absurd hd (by simp), List.nodup_nil, hbw.size⟩ ⟨rfl, trivial⟩ rfl ?_
        clear q1 qL hbw
        rintro ⟨m, xs, dl⟩ wm ⟨hm, hno, hx0, hxs, qC, hcl, hmk, hnd, hszm⟩
        dsimp only at hm hno hx0 hxs hcl hmk hnd
        have hbw := hcl.low
        obtain ⟨v, qv, hov⟩ := hcl.l
        obtain ⟨Av, cv_, rfl, _⟩ := (Rd.of_own hov).shape
        by_cases hemp : xs = []
        ·
          subst hemp
          have hno2 : ∀ k, k < m → wrongAt c k = [] := fun k hk => by by_cases e : k + 1 < m; (exact hno k e); (rw [show k = m - 1 by omega, ← hxs (by omega)]; rfl)
          have hmn2 : m ≤ c.clues.length := by by_cases e : m ≤ c.clues.length; (exact e); (exact absurd (hno2 c.clues.length (by omega)) (wrong_last hcb))
          refine ECI.seq ?_
          refine ECI.seq ?_
          refine ECI.region ?_
          refine ELI.val (ld_41 rfl (qv.at (j := 0) rfl)) rfl ?_
          refine ELI.val (ln_41 rfl) rfl ?_
          refine ELI.val (x_eql (r := true) rfl rfl (decide_eq_true rfl)) rfl ?_
          refine ELI.nil ?_
          refine EXI.seq ?_
          refine ECI.yes rfl ?_
          refine ECI.skip ?_
          refine EXI.seq ?_
          refine ECI.seq ?_
          refine ECI.block ?_
          refine ECI.seq ?_
          refine ECI.region ?_
          refine ELI.val (fa_25_2 rfl) rfl ?_
          refine ELI.val (ld_23 rfl (qC.at (j := 2) rfl)) rfl ?_
          refine ELI.val (ln_23 rfl) rfl ?_
          refine ELI.val (x_move rfl) rfl ?_
          refine ELI.call (cl_58 rfl rfl) rfl (sets_fn c.clues.length m _) ?_
          rintro e w8 ⟨⟨gm, go, rfl, qm, qo, hgm, hgo⟩, hc8⟩
          refine ⟨_, rfl, ?_⟩
          replace hcl := hcl.below hc8 (Nat.le_refl _)
          replace hmk := hmk.below hc8
          replace qC := qC.below hc8 qC.lt
          replace qv := qv.below hc8 qv.lt
          replace hbw := Below.on hbw hc8 hbw.size
          clear hc8
          refine ELI.nil ?_
          refine EXI.seq ?_
          refine ECI.block ?_
          skip
          refine rangeF (σ1 := fun x => _) (ok := okRow) (n0 := w.heap.size) (S := [41, 26]) rfl (fun args w => by kernel_rfl) rfl (sets_iter c.clues.length m w.heap.size gm go [41, 26] w8 (by omega) rfl rfl rfl hbw.size qm qo) hbw.size (WrgI c w.heap.size gl g1 w #[.int .i64 c.events, .slice Ac c.clocks.length cc_, .slice Al c.clues.length cl_] w8 dl) (fun _ _ => False) (WrgI.from (Nat.le_refl _) hbw.size (Nat.le_refl _)) (fun _ _ _ _ h _ _ => h) ⟨[], rfl, hcl, qC, Marks.refl hmk⟩ (okRow_from _) (fun l x W K hK => assign1 rfl hK) ?_ ?_ ?_
          · rintro l pre ⟨xl, xv⟩ W hpf hokx ⟨ys, hys, hcl, qC, hmk⟩
            have hlow := hcl.low
            have hset : xl.length = m := sets_lt hpf
            have hlen : ys.length + 1 ≤ 1048576 := wrg_len (c := c) (m := m) hys hpf (by omega)
            obtain ⟨Ax, cx, ex_, _⟩ := (Rd.of_own hokx).shape
            have ex_ : xv = .slice Ax xl.length cx := ex_
            subst ex_
            refine ECI.block ?_
            refine ECI.seq ?_
            refine ECI.region ?_
            refine ELI.val (ld_25 rfl (qC.at (j := 0) rfl) (qC.at (j := 1) rfl) (qC.at (j := 2) rfl)) rfl ?_
            refine ELI.val (x_move rfl) rfl ?_
            refine ELI.call (cl_60 rfl rfl) rfl (without_any c _ _ vs W W.heap.size ((hr.below (hlow.mono hB)).more (Nat.le_trans hB hlow.size)) (Nat.le_refl _) hn1 hn2 xl _ (Rd.of_own hokx) (by omega) (by omega)) ?_
            rintro e W1 ⟨⟨v1, ls1, rfl, hr1⟩, hb1⟩
            refine ⟨_, rfl, ?_⟩
            replace hcl := hcl.below hb1 (Nat.le_refl _)
            replace qC := qC.below hb1 qC.lt
            replace hmk := hmk.below hb1
            have hokx1 : okRow (xl, Value.slice Ax xl.length cx) W1 := own_below hokx hb1 (Nat.le_refl _)
            have hko1 := keeps_below hb1
            have hkp1 := Kp.of_below (n0 := w.heap.size) (S := [41, 26]) hb1 hlow.size
            refine ELI.call (cl_59 rfl) rfl (has_any (withoutC c xl) _ _ ls1 W1 _ hr1 (Nat.le_refl _) (show c.clocks.length ≤ 1073741824 from hn1) (Nat.le_trans (withoutL_len _) hn2) (without_ok hcb)) ?_
            rintro e W2 ⟨rfl, hb2⟩
            refine ⟨_, rfl, ?_⟩
            replace hcl := hcl.below hb2 (Nat.le_refl _)
            replace qC := qC.below hb2 qC.lt
            replace hmk := hmk.below hb2
            have hokx2 : okRow (xl, Value.slice Ax xl.length cx) W2 := own_below hokx1 hb2 (Nat.le_refl _)
            have hko2 := hko1.trans (keeps_below hb2)
            have hkp2 := hkp1.trans (Kp.of_below (n0 := w.heap.size) (S := [41, 26]) hb2 (Nat.le_trans hlow.size hb1.size))
            refine ELI.nil ?_
            refine EXI.seq ?_
            clear hlow hokx hokx1
            have hlow := hcl.low
            cases hhas : hasC (withoutC c xl)
            ·
              refine ECI.no rfl ?_
              refine ECI.skip ?_
              refine EXI.blk ?_
              exact fun a ha => ⟨hko2, hkp2, .inl ⟨rfl, ys, by rw [List.map_append, List.filter_append, ← hys]; simp [hasW, hhas], hcl, qC, hmk⟩⟩
            ·
              refine ECI.yes rfl ?_
              refine ECI.region ?_
              obtain ⟨vy, qy, hoy⟩ := hcl.l
              have hrows := hcl.rows
              clear hcl
              refine ELI.val (ld_41 rfl (qy.at (j := 0) rfl)) rfl ?_
              refine ELI.val (x_move rfl) rfl ?_
              refine ELI.newS (bs_41_1 rfl) rfl ?_
              intro g1 W3 qn hb3 hge3 hlt3
              replace qy := qy.below hb3 qy.lt
              replace qC := qC.below hb3 qC.lt
              replace hmk := hmk.below hb3
              replace hoy := own_below hoy hb3 (Nat.le_refl _)
              have hrows1 : ∀ x ∈ ys ++ [(xl, .slice Ax xl.length cx)], okRow x W3 := fun x hx => by
                rcases List.mem_append.1 hx with h | h
                · exact own_below (hrows x h) hb3 (Nat.le_refl _)
                · rw [List.mem_singleton.1 h]; exact own_below hokx2 hb3 (Nat.le_refl _)
              have hlow1 := hlow.trans (hb3.mono hlow.size)
              refine ELI.push row_elem rfl rfl hoy (rd_one (l := [.slice Ax xl.length cx]) qn rfl) (by intro u hu; rw [List.mem_singleton.1 hu]; rfl) hlen rfl hlow1.size rfl ?_
              intro v2 W4 ho2 hgr hb4 hk4
              have qy2 := blk_grown qy hoy rfl hgr
              replace qC := blk_grown qC hoy rfl hgr
              replace hmk := hmk.keeps hk4 hgr.size
              have hrows2 : ∀ x ∈ ys ++ [(xl, .slice Ax xl.length cx)], okRow x W4 := fun x hx => own_grown (hrows1 x hx) hoy rfl hgr
              have hlow2 := hlow1.trans hb4
              obtain ⟨A2, c2, e2, _⟩ := (Rd.of_own ho2).shape
              subst e2
              refine ELI.store rfl rfl qy2 sz_41 rfl rfl rfl rfl ?_
              intro W5 q5 hgr5 hk5
              replace qC := blk_type qC qy2 rfl hgr5
              replace hmk := hmk.keeps hk5 hgr5.size
              refine ELI.nil ?_
              have hcl5 : Coll w.heap.size gl w (ys ++ [(xl, .slice Ax xl.length cx)]) W5 := ⟨⟨_, q5, by simpa using own_type ho2 qy2 rfl hgr5⟩, fun x hx => own_type (hrows2 x hx) qy2 rfl hgr5, hlow2.grown hgr5 hlow2.size (fun k e => by injection e with e; omega)⟩
              have hko5 := ((hko2.trans (keeps_below hb3)).trans hk4).trans hk5
              have hkp5 : Kp w.heap.size [41, 26] W W5 := ((hkp2.trans (Kp.of_below hb3 hlow.size)).trans (Kp.own hoy rfl (Nat.le_refl _) hlow1.size hgr)).trans (Kp.grown qy2 rfl hg2 hgr5)
              refine EXI.blk ?_
              exact fun a ha => ⟨hko5, hkp5, .inl ⟨rfl, ys ++ [(xl, .slice Ax xl.length cx)], by rw [List.map_append, List.map_append, List.filter_append, ← hys]; simp [hasW, hhas], hcl5, qC, hmk⟩⟩
          · rintro D ps W hD hall ⟨ys, hys, hcl, qC, hmk⟩ hkp hdef
            refine EXI.blk ?_
            refine EXI.blk ?_
            refine EXI.seq ?_
            refine ECI.region ?_
            refine ELI.val (x_move rfl) rfl ?_
            refine ELI.val (x_add rfl rfl (c := ((m + 1 : Nat) : Int)) ((IntWalk.i64_in _ ⟨by omega, by omega⟩).trans (by omega))) rfl ?_
            refine ELI.val (x_assign rfl) rfl ?_
            refine ELI.nil ?_
            refine EXI.roundD (m + 1, ys, { target := .collected D, args := #[] } :: dl) ⟨rfl, trivial⟩ (by repeat first | with_reducible exact Sub.refl _ | refine sub_past rfl ?_ | exact Sub.refl _ | refine sub_del rfl ?_ | refine sub_insL_nil ?_) rfl ⟨by omega, fun k hk => hno2 k (by omega), fun h => absurd h (by omega), fun _ => by rw [hys, hall]; rfl, qC, hcl, hmk.marks.cons (Nat.le_trans hbw.size hD) hdef, List.nodup_cons.2 ⟨fun h => hmk.fresh hD h, hnd⟩, hcl.low.size⟩ (by simp only; omega)
          · intro D pre W hD hne hall h
            exact absurd h id
        ·
          have hm0 : 0 < m := by by_cases e : m = 0; (exact absurd (hx0 e) hemp); omega
          have hxs := hxs hm0
          have hwl : wrongL c = wrongAt c (m - 1) := wrong_is (by rw [← hxs]; intro h; exact hemp (List.map_eq_nil_iff.1 h)) (by omega) (fun i hi => hno i (by omega))
          have hne1 : ¬((xs.length : Nat) : Int) = 0 := by have : xs.length ≠ 0 := fun h => hemp (List.eq_nil_of_length_eq_zero h); omega
          refine ECI.seq ?_
          refine ECI.seq ?_
          refine ECI.region ?_
          refine ELI.val (ld_41 rfl (qv.at (j := 0) rfl)) rfl ?_
          refine ELI.val (ln_41 rfl) rfl ?_
          refine ELI.val (x_eql (r := false) rfl rfl (decide_eq_false hne1)) rfl ?_
          refine ELI.nil ?_
          refine EXI.seq ?_
          refine ECI.no rfl ?_
          refine ECI.exit ?_
          refine EXI.seq_exit ?_
          refine EXI.seq_exit ?_
          refine EXI.blk_here ?_
          refine EXI.seqw ?_
          refine ECI.seq ?_
          refine ECI.region ?_
          refine ELI.val (ld_41 rfl (qv.at (j := 0) rfl)) rfl ?_
          refine ELI.store rfl rfl qv sz_41 rfl rfl rfl rfl ?_
          intro w9 hq9 hg9 hk_
          have qv0 := qv
          have hgX := hg9
          replace qC := qC.grown hg9 (fun h => n1_2 (Option.some.inj h))
          replace hbw := below_store hbw hg9 bhbw_2
          replace qv := hq9
          clear hg9 hq9
          refine ELI.val (x_assign rfl) rfl ?_
          refine ELI.nil ?_
          refine EXI.seq ?_
          refine ECI.ret ?_
          refine EXI.done (n0 := w.heap.size) (hmk.keeps hk_) hnd (v := .tuple #[.slice Av xs.length cv_, .int .i64 0]) (fun w' ht => resct rfl rfl rfl (lv_41 ((ht.blk _ _ _ qv).at (j := 0) rfl))) (fun w' ht => ?_)
          have hcl3 : Coll w.heap.size gl w xs w9 := ⟨⟨_, qv, own_type hov qv0 rfl hgX⟩, fun x hx => own_type (hcl.rows x hx) qv0 rfl hgX, hbw⟩
          exact ⟨⟨_, xs.map (·.2), by rw [wrg_ok hcb h10 hmn], by rw [wrgRes, if_pos (wrg_ok hcb h10 hmn), hwl, ← hxs]; exact (hcl3.took ht (Nat.le_refl _)).rd (ht.blk _ _ _ qv)⟩, hcl3.low.trans ht.below⟩
  ·
    refine EL.call (cl_25 rfl) rfl (check_bad hcb _ _ vs _ B (hr.below (hbw.mono hB)) (Nat.le_trans hB hbw.size) hn1 hn2) ?_
    rintro e w10 ⟨rfl, hc10⟩
    refine ⟨_, rfl, ?_⟩
    replace q1 := q1.below hc10 q1.lt
    replace q2 := q2.below hc10 q2.lt
    replace hbw := Below.on hbw hc10 hbw.size
    clear hc10
    refine EL.val (x_neq (r := true) rfl rfl (by decide)) rfl ?_
    refine EL.val (x_assign rfl) rfl ?_
    refine EL.nil ?_
    refine EX.seq ?_
    refine EC.yes rfl ?_
    refine EC.seq ?_
    refine EC.region ?_
    refine EL.store rfl rfl q2 sz_41 rfl rfl rfl rfl ?_
    intro w11 hq11 hg11
    replace q1 := q1.grown hg11 (fun h => n1_2 (Option.some.inj h))
    replace hbw := below_store hbw hg11 bhbw_2
    replace q2 := hq11
    clear hg11 hq11
    refine EL.val (x_assign rfl) rfl ?_
    refine EL.nil ?_
    refine EX.seq ?_
    refine EC.ret ?_
    refine EX.blk_ret ?_
    refine EX.seq_ret ?_
    refine EX.doneM (resct rfl rfl rfl (lv_41 (q2.at (j := 0) rfl))) ?_
    exact ⟨⟨_, [], by rw [wrg_bad hcb], by rw [wrgRes, if_neg (by rw [wrg_bad hcb]; decide)]; exact rdll_nil⟩, hbw⟩
end Go.Proofs.Ytmaiiigijjfjfaa
set_option linter.unusedVariables false
set_option linter.unusedSimpArgs false
namespace Go.Proofs.Ytmaiiigijjfjfaa
open Go Go.RowKit
/-! ### An order of lists -/
def lessL : List Int → List Int → Bool
  | x :: a, y :: b => if x = y then lessL a b else decide (x < y)
  | _, _ => false
theorem less_asymm : ∀ {a b : List Int}, lessL a b = true → lessL b a = true → False
  | [], _, h, _ => by simp [lessL] at h
  | _ :: _, [], h, _ => by simp [lessL] at h
  | x :: a, y :: b, h, k => by
    unfold lessL at h k
    by_cases e : x = y
    · subst e
      rw [if_pos rfl] at h k
      exact less_asymm h k
    · rw [if_neg e] at h
      rw [if_neg (Ne.symm e)] at k
      have := of_decide_eq_true h
      have := of_decide_eq_true k
      omega
theorem less_trans : ∀ {a b c : List Int}, lessL a b = true → lessL b c = true → lessL a c = true
  | [], _, _, h, _ => by simp [lessL] at h
  | _ :: _, [], _, h, _ => by simp [lessL] at h
  | _ :: _, _ :: _, [], _, h => by simp [lessL] at h
  | x :: a, y :: b, z :: c, h, k => by
    unfold lessL at h k ⊢
    by_cases e : x = y
    · subst e
      rw [if_pos rfl] at h
      by_cases e2 : x = z
      · subst e2
        rw [if_pos rfl] at k ⊢
        exact less_trans h k
      · rw [if_neg e2] at k ⊢
        exact k
    · rw [if_neg e] at h
      have h1 := of_decide_eq_true h
      by_cases e2 : y = z
      · subst e2
        rw [if_neg e]
        exact h
      · rw [if_neg e2] at k
        have h2 := of_decide_eq_true k
        rw [if_neg (by omega)]
        exact decide_eq_true (by omega)
theorem less_total : ∀ {a b : List Int}, a.length = b.length → a ≠ b → lessL a b = true ∨ lessL b a = true
  | [], [], _, h => absurd rfl h
  | [], _ :: _, h, _ => by simp at h
  | _ :: _, [], h, _ => by simp at h
  | x :: a, y :: b, hl, hne => by
    unfold lessL
    by_cases e : x = y
    · subst e
      rw [if_pos rfl, if_pos rfl]
      exact less_total (by simpa using hl) (fun e => hne (by rw [e]))
    · rw [if_neg e, if_neg (Ne.symm e)]
      by_cases h : x < y
      · exact .inl (decide_eq_true h)
      · exact .inr (decide_eq_true (by omega))
theorem less_pre {a b : Int} (h : a < b) (x y : List Int) : ∀ pre : List Int, lessL (pre ++ a :: x) (pre ++ b :: y) = true
  | [] => by
    show lessL (a :: x) (b :: y) = true
    unfold lessL
    rw [if_neg (by omega)]
    exact decide_eq_true h
  | c :: pre => by
    show lessL (c :: (pre ++ a :: x)) (c :: (pre ++ b :: y)) = true
    unfold lessL
    rw [if_pos rfl]
    exact less_pre h x y pre
theorem sorted_eq : ∀ {l m : List (List Int)}, l.Pairwise (fun a b => lessL a b = true) → m.Pairwise (fun a b => lessL a b = true) → (∀ x, x ∈ l ↔ x ∈ m) → l = m
  | [], [], _, _, _ => rfl
  | [], b :: m, _, _, h => absurd ((h b).2 List.mem_cons_self) (by simp)
  | a :: l, [], _, _, h => absurd ((h a).1 List.mem_cons_self) (by simp)
  | a :: l, b :: m, hl, hm, h => by
    rw [List.pairwise_cons] at hl hm
    have irr : ∀ x : List Int, ¬lessL x x = true := fun x hx => less_asymm hx hx
    have e : a = b := by
      rcases List.mem_cons.1 ((h a).1 List.mem_cons_self) with e | h1
      · exact e
      · rcases List.mem_cons.1 ((h b).2 List.mem_cons_self) with e | h2
        · exact e.symm
        · exact (less_asymm (hm.1 a h1) (hl.1 b h2)).elim
    subst e
    rw [sorted_eq hl.2 hm.2 fun x => ⟨fun hx => by
      rcases List.mem_cons.1 ((h x).1 (List.mem_cons_of_mem _ hx)) with e | h1
      · subst e; exact absurd (hl.1 x hx) (irr x)
      · exact h1, fun hx => by
      rcases List.mem_cons.1 ((h x).2 (List.mem_cons_of_mem _ hx)) with e | h1
      · subst e; exact absurd (hm.1 x hx) (irr x)
      · exact h1⟩]
/-! ### Sets as numbers -/
def bitsTo (s : Nat) : Nat → List Int
  | 0 => []
  | k + 1 => bitsTo s k ++ (if bitN s k = true then [((k : Nat) : Int)] else [])
theorem bitN_test (s i : Nat) : bitN s i = s.testBit i := by rw [bitN, Nat.testBit_eq_decide_div_mod_eq]
theorem bitsTo_mem (s : Nat) : ∀ (n : Nat) (x : Int), x ∈ bitsTo s n ↔ ∃ i : Nat, i < n ∧ bitN s i = true ∧ x = (i : Int)
  | 0, x => by simp [bitsTo]
  | n + 1, x => by
    rw [bitsTo, List.mem_append, bitsTo_mem s n x]
    constructor
    · rintro (⟨i, h1, h2, h3⟩ | h)
      · exact ⟨i, by omega, h2, h3⟩
      · split at h
        · next hb => exact ⟨n, by omega, hb, List.mem_singleton.1 h⟩
        · cases h
    · rintro ⟨i, h1, h2, h3⟩
      by_cases e : i = n
      · subst e
        rw [if_pos h2]
        exact .inr (List.mem_singleton.2 h3)
      · exact .inl ⟨i, by omega, h2, h3⟩
def goodS (n : Nat) (y : List Int) : Prop := y.Pairwise (· < ·) ∧ ∀ a ∈ y, 0 ≤ a ∧ a < (n : Nat)
theorem bitsTo_good (s : Nat) : ∀ n, goodS n (bitsTo s n)
  | 0 => ⟨List.Pairwise.nil, fun a h => by cases h⟩
  | n + 1 => by
    obtain ⟨h1, h2⟩ := bitsTo_good s n
    rw [bitsTo]
    split
    · refine ⟨List.pairwise_append.2 ⟨h1, List.pairwise_singleton _ _, fun a ha b hb => ?_⟩, fun a ha => ?_⟩
      · rw [List.mem_singleton.1 hb]; exact (h2 a ha).2
      · rcases List.mem_append.1 ha with h | h
        · have := h2 a h; omega
        · rw [List.mem_singleton.1 h]; omega
    · rw [List.append_nil]
      exact ⟨h1, fun a ha => by have := h2 a ha; omega⟩
theorem bitsTo_low {s n : Nat} (t : Nat) : ∀ k, k ≤ n → bitsTo (2 ^ n + s) k = bitsTo s k
  | 0, _ => rfl
  | k + 1, h => by
    rw [bitsTo, bitsTo, bitsTo_low t k (by omega), bitN_test, bitN_test, Nat.testBit_two_pow_add_gt (by omega)]
theorem good_bits : ∀ (n : Nat) (y : List Int), goodS n y → ∃ s, s < 2 ^ n ∧ bitsTo s n = y
  | 0, y, h => ⟨0, by simp, by
    cases y with
    | nil => rfl
    | cons a l => have := h.2 a List.mem_cons_self; omega⟩
  | n + 1, y, h => by
    by_cases hn : ((n : Nat) : Int) ∈ y
    · obtain ⟨a, b, rfl⟩ := List.append_of_mem hn
      obtain ⟨hp, hm⟩ := h
      rw [List.pairwise_append, List.pairwise_cons] at hp
      have hb : b = [] := by
        cases b with
        | nil => rfl
        | cons z b =>
          have h1 := hp.2.1.1 z List.mem_cons_self
          have h2 := hm z (by simp)
          omega
      subst hb
      obtain ⟨s, hs, e⟩ := good_bits n a ⟨hp.1, fun z hz => ⟨(hm z (by simp [hz])).1, hp.2.2 z hz _ (by simp)⟩⟩
      refine ⟨2 ^ n + s, by rw [Nat.pow_succ]; omega, ?_⟩
      rw [bitsTo, bitsTo_low 0 n (Nat.le_refl _), e, bitN_test, Nat.testBit_two_pow_add_eq, Nat.testBit_lt_two_pow hs]
      rfl
    · have hg : goodS n y := ⟨h.1, fun a ha => by
        have h1 := h.2 a ha
        refine ⟨h1.1, ?_⟩
        by_cases e : a = ((n : Nat) : Int)
        · subst e; exact absurd ha hn
        · omega⟩
      obtain ⟨s, hs, e⟩ := good_bits n y hg
      refine ⟨s, by rw [Nat.pow_succ]; omega, ?_⟩
      rw [bitsTo, e, bitN_test, Nat.testBit_lt_two_pow hs]
      simp
theorem bits_inj {s t n : Nat} (hs : s < 2 ^ n) (ht : t < 2 ^ n) (h : bitsTo s n = bitsTo t n) : s = t := by
  refine Nat.eq_of_testBit_eq fun i => ?_
  by_cases hi : i < n
  · rw [← bitN_test, ← bitN_test]
    have h1 := bitsTo_mem s n i
    have h2 := bitsTo_mem t n i
    rw [h] at h1
    have h3 := h1.symm.trans h2
    cases e1 : bitN s i <;> cases e2 : bitN t i
    · rfl
    · obtain ⟨j, _, hj, e⟩ := h3.2 ⟨i, hi, e2, rfl⟩
      rw [show j = i by omega, e1] at hj; cases hj
    · obtain ⟨j, _, hj, e⟩ := h3.1 ⟨i, hi, e1, rfl⟩
      rw [show j = i by omega, e2] at hj; cases hj
    · rfl
  · rw [Nat.testBit_lt_two_pow (Nat.lt_of_lt_of_le hs (Nat.pow_le_pow_right (by omega) (by omega))), Nat.testBit_lt_two_pow (Nat.lt_of_lt_of_le ht (Nat.pow_le_pow_right (by omega) (by omega)))]
/-! ### The sets of a size -/
theorem setsP_mem (n : Nat) : ∀ (d : Nat) (pre : List Int) (next : Nat) (x : List Int), x ∈ setsP n d pre next ↔ ∃ y, x = pre ++ y ∧ y.length = d ∧ y.Pairwise (· < ·) ∧ ∀ a ∈ y, ((next : Nat) : Int) ≤ a ∧ a < (n : Nat)
  | 0, pre, next, x => by
    simp only [setsP, List.mem_singleton]
    constructor
    · rintro rfl
      exact ⟨[], by simp, rfl, List.Pairwise.nil, fun a h => by cases h⟩
    · rintro ⟨y, rfl, hl, _⟩
      rw [List.eq_nil_of_length_eq_zero hl]; simp
  | d + 1, pre, next, x => by
    unfold setsP
    rw [mem_flatR]
    constructor
    · rintro ⟨k, hk, hx⟩
      obtain ⟨y, rfl, hl, hp, hm⟩ := (setsP_mem n d _ _ x).1 hx
      refine ⟨((next + k : Nat) : Int) :: y, by simp, by simp [hl], List.pairwise_cons.2 ⟨fun a ha => ?_, hp⟩, fun a ha => ?_⟩
      · have := hm a ha; omega
      · rcases List.mem_cons.1 ha with rfl | h
        · omega
        · have := hm a h; omega
    · rintro ⟨y, rfl, hl, hp, hm⟩
      cases y with
      | nil => simp at hl
      | cons a y =>
        rw [List.pairwise_cons] at hp
        have ha := hm a List.mem_cons_self
        obtain ⟨k, hk⟩ : ∃ k : Nat, a = ((next + k : Nat) : Int) := ⟨(a - next).toNat, by omega⟩
        subst hk
        refine ⟨k, by omega, (setsP_mem n d _ _ _).2 ⟨y, by simp, by simpa using hl, hp.2, fun b hb => ?_⟩⟩
        have := hp.1 b hb
        have := hm b (List.mem_cons_of_mem _ hb)
        omega
theorem setsP_sorted (n : Nat) : ∀ (d : Nat) (pre : List Int) (next : Nat), (setsP n d pre next).Pairwise (fun a b => lessL a b = true)
  | 0, pre, next => List.pairwise_singleton _ _
  | d + 1, pre, next => by
    unfold setsP
    have h : ∀ m, ((List.range m).flatMap fun k => setsP n d (pre ++ [((next + k : Nat) : Int)]) (next + k + 1)).Pairwise (fun a b => lessL a b = true) := by
      intro m
      induction m with
      | zero => exact List.Pairwise.nil
      | succ m ih =>
        rw [range_flat]
        refine List.pairwise_append.2 ⟨ih, setsP_sorted n d _ _, fun a ha b hb => ?_⟩
        obtain ⟨k, hk, ha⟩ := mem_flatR.1 ha
        obtain ⟨x, rfl, _⟩ := (setsP_mem n d _ _ a).1 ha
        obtain ⟨y, rfl, _⟩ := (setsP_mem n d _ _ b).1 hb
        rw [List.append_assoc, List.append_assoc]
        exact less_pre (by omega) x y pre
    exact h _
theorem wrongAt_sorted (c : Case) (m : Nat) : (wrongAt c m).Pairwise (fun a b => lessL a b = true) := (setsP_sorted _ _ _ _).filter _
theorem wrongAt_mem {c : Case} {m : Nat} {x : List Int} : x ∈ wrongAt c m ↔ goodS c.clues.length x ∧ x.length = m ∧ hasW c x = true := by
  unfold wrongAt
  rw [List.mem_filter, setsP_mem]
  constructor
  · rintro ⟨⟨y, rfl, hl, hp, hm⟩, hw⟩
    exact ⟨⟨by simpa using hp, fun a ha => by have := hm a (by simpa using ha); omega⟩, by simpa using hl, hw⟩
  · rintro ⟨⟨hp, hm⟩, hl, hw⟩
    exact ⟨⟨x, by simp, hl, hp, fun a ha => by have := hm a ha; omega⟩, hw⟩
/-! ### What is left out -/
theorem without_pre {c : Case} {set : List Int} {k : Nat} : ∀ {d : Nat}, withoutL c set k <+: withoutL c set (k + d)
  | 0 => List.prefix_rfl
  | d + 1 => by
    rw [show k + (d + 1) = k + d + 1 by omega, withoutL]
    exact (without_pre (d := d)).trans (List.prefix_append _ _)
theorem flat_empty {α : Type} {f : Nat → List α} : ∀ n, (List.range n).flatMap f = [] ↔ ∀ k, k < n → f k = []
  | 0 => by simp
  | n + 1 => by
    rw [range_flat, List.append_eq_nil_iff, flat_empty n]
    constructor
    · rintro ⟨h1, h2⟩ k hk
      by_cases e : k = n
      · subst e; exact h2
      · exact h1 k (by omega)
    · intro h
      exact ⟨fun k hk => h k (by omega), h n (by omega)⟩
theorem rcrs_without {c : Case} {s n : Nat} (hn : n = c.clues.length) {set : List Int} (hset : ∀ k, k < n → (((k : Nat) : Int) ∈ set ↔ bitN s k = true)) :
    ∀ (d : Nat) (pre pre' : List Int), pre.length + d = n → pre'.length = (withoutL c set pre.length).length → linksOf (withoutC c set) pre' = linksOf c pre → (rcrs c s d pre = [] ↔ rcrs (withoutC c set) 0 ((withoutL c set n).length - pre'.length) pre' = [])
  | 0, pre, pre', hd, hl, hlk => by
    have e : pre.length = n := by omega
    rw [hl, e, Nat.sub_self]
    unfold rcrs
    have h : okC (withoutC c set) pre' = okC c pre := by
      unfold okC
      rw [hlk]
      rfl
    rw [h]
    split <;> simp
  | d + 1, pre, pre', hd, hl, hlk => by
    have hk : pre.length < n := by omega
    cases hb : bitN s pre.length
    · have hns : ¬((pre.length : Nat) : Int) ∈ set := fun h => by rw [(hset _ hk).1 h] at hb; cases hb
      have hsu := without_succ_out (c := c) hns
      obtain ⟨rest, hrest⟩ := without_pre (c := c) (set := set) (k := pre.length + 1) (d := n - (pre.length + 1))
      rw [show pre.length + 1 + (n - (pre.length + 1)) = n by omega, hsu] at hrest
      have hlen : (withoutL c set n).length = pre'.length + 1 + rest.length := by
        rw [← hrest, List.length_append, List.length_append, List.length_singleton, hl]
      have hcl : (withoutC c set).clues.getD pre'.length [] = c.clues.getD pre.length [] := by
        show (withoutL c set c.clues.length).getD pre'.length [] = _
        rw [← hn, ← hrest, hl]
        simp [List.getD, List.getElem?_append]
      have hopt : optN (withoutC c set) pre' = optN c pre := by
        unfold optN
        rw [hcl]
      obtain ⟨d', hd'⟩ : ∃ d', (withoutL c set n).length - pre'.length = d' + 1 := ⟨rest.length, by omega⟩
      rw [rcrs_in hb, hd', rcrs_in (bitN_zero _), flat_empty, flat_empty, hopt]
      have step : ∀ k, rcrs c s d (pre ++ [((k : Nat) : Int)]) = [] ↔ rcrs (withoutC c set) 0 d' (pre' ++ [((k : Nat) : Int)]) = [] := fun k => by
        have := rcrs_without hn hset d (pre ++ [((k : Nat) : Int)]) (pre' ++ [((k : Nat) : Int)]) (by simp; omega) (by rw [List.length_append, List.length_append, List.length_singleton, hsu, List.length_append, hl]; rfl) (by
          rw [linksOf_app, linksOf_app, hlk, if_neg (by omega), if_neg (by omega)]
          congr 1
          unfold optAt
          rw [hcl]
          rfl)
        rw [this, List.length_append, List.length_singleton, show (withoutL c set n).length - (pre'.length + 1) = d' by omega]
      exact ⟨fun h k hk => (step k).1 (h k hk), fun h k hk => (step k).2 (h k hk)⟩
    · have hs : ((pre.length : Nat) : Int) ∈ set := (hset _ hk).2 hb
      rw [rcrs_out hb]
      exact rcrs_without hn hset d (pre ++ [-1]) pre' (by simp; omega) (by rw [List.length_append, List.length_singleton, without_succ_in hs]; exact hl) (by
        rw [linksOf_app, hlk]
        simp)
/-- a set leaves a course just if the reference finds one -/
theorem has_bits {c : Case} (hc : caseB c = true) (s : Nat) : hasW c (bitsTo s c.clues.length) = true ↔ rcrs c s c.clues.length [] ≠ [] := by
  have hw := without_ok (set := bitsTo s c.clues.length) hc
  have h := rcrs_without (c := c) (s := s) rfl (set := bitsTo s c.clues.length) (fun k hk => by
    rw [bitsTo_mem]
    constructor
    · rintro ⟨i, _, h1, h2⟩
      rw [show k = i by omega]; exact h1
    · intro h1
      exact ⟨k, hk, h1, rfl⟩) c.clues.length [] [] (by simp) rfl (by rfl)
  unfold hasW hasC
  rw [← rcrs_courses hw]
  rw [List.length_nil, Nat.sub_zero] at h
  rw [show (withoutC c (bitsTo s c.clues.length)).clues.length = (withoutL c (bitsTo s c.clues.length) c.clues.length).length from rfl, Bool.not_eq_true', List.isEmpty_eq_false_iff]
  exact not_congr h.symm
/-! ### The reference's search -/
/-- how many of the first ones are before a list -/
def atL (l : List Int) : List (List Int) → Nat
  | [] => 0
  | x :: b => if lessL x l = true then atL l b + 1 else 0
def insL_ (b : List (List Int)) (l : List Int) : List (List Int) := b.take (atL l b) ++ [l] ++ b.drop (atL l b)
def skipW (c : Case) (b : List (List Int)) (s : Nat) : Bool := (decide (0 < b.length) && decide ((b.getD 0 []).length < (bitsTo s c.clues.length).length)) || (rcrs c s c.clues.length []).isEmpty
def cutW (c : Case) (b : List (List Int)) (s : Nat) : List (List Int) := if (decide (0 < b.length) && decide ((bitsTo s c.clues.length).length < (b.getD 0 []).length)) = true then [] else b
def stepW (c : Case) (b : List (List Int)) (s : Nat) : List (List Int) := if skipW c b s = true then b else insL_ (cutW c b s) (bitsTo s c.clues.length)
def refW (c : Case) : Nat → List (List Int)
  | 0 => []
  | k + 1 => stepW c (refW c k) k
theorem ins_mem {b : List (List Int)} {l x : List Int} : x ∈ insL_ b l ↔ x = l ∨ x ∈ b := by
  unfold insL_
  rw [List.mem_append, List.mem_append, List.mem_singleton]
  constructor
  · rintro ((h | h) | h)
    · exact .inr (List.mem_of_mem_take h)
    · exact .inl h
    · exact .inr (List.mem_of_mem_drop h)
  · rintro (h | h)
    · exact .inl (.inr h)
    · rw [← List.take_append_drop (atL l b) b, List.mem_append] at h
      rcases h with h | h
      · exact .inl (.inl h)
      · exact .inr h
theorem at_less {l : List Int} : ∀ {b : List (List Int)}, ∀ x ∈ b.take (atL l b), lessL x l = true
  | [], x, h => by simp at h
  | y :: b, x, h => by
    unfold atL at h
    split at h
    · next hy =>
      rw [List.take_succ_cons, List.mem_cons] at h
      rcases h with rfl | h
      · exact hy
      · exact at_less x h
    · simp at h
theorem at_more {l : List Int} : ∀ {b : List (List Int)}, b.Pairwise (fun a b => lessL a b = true) → (∀ x ∈ b, x.length = l.length ∧ x ≠ l) → ∀ x ∈ b.drop (atL l b), lessL l x = true
  | [], _, _, x, h => by simp at h
  | y :: b, hp, hl, x, h => by
    unfold atL at h
    rw [List.pairwise_cons] at hp
    split at h
    · rw [List.drop_succ_cons] at h
      exact at_more hp.2 (fun x hx => hl x (List.mem_cons_of_mem _ hx)) x h
    · next hy =>
      have h1 := hl y List.mem_cons_self
      have h2 : lessL l y = true := (less_total h1.1 h1.2).resolve_left hy
      rw [List.drop_zero, List.mem_cons] at h
      rcases h with rfl | h
      · exact h2
      · exact less_trans h2 (hp.1 x h)
theorem ins_sorted {b : List (List Int)} {l : List Int} (hp : b.Pairwise (fun a b => lessL a b = true)) (hl : ∀ x ∈ b, x.length = l.length ∧ x ≠ l) : (insL_ b l).Pairwise (fun a b => lessL a b = true) := by
  unfold insL_
  have hsp := hp
  rw [← List.take_append_drop (atL l b) b, List.pairwise_append] at hsp
  rw [List.append_assoc]
  refine List.pairwise_append.2 ⟨hsp.1, ?_, fun a ha d hd => ?_⟩
  · rw [List.singleton_append, List.pairwise_cons]
    exact ⟨at_more hp hl, hsp.2.1⟩
  · rw [List.singleton_append, List.mem_cons] at hd
    rcases hd with rfl | h
    · exact at_less a ha
    · exact hsp.2.2 a ha d h
structure InvW (c : Case) (k : Nat) (b : List (List Int)) : Prop where
  sound : ∀ x ∈ b, ∃ s, s < k ∧ rcrs c s c.clues.length [] ≠ [] ∧ x = bitsTo s c.clues.length ∧ ∀ t, t < k → rcrs c t c.clues.length [] ≠ [] → x.length ≤ (bitsTo t c.clues.length).length
  full : ∀ s, s < k → rcrs c s c.clues.length [] ≠ [] → (∀ t, t < k → rcrs c t c.clues.length [] ≠ [] → (bitsTo s c.clues.length).length ≤ (bitsTo t c.clues.length).length) → bitsTo s c.clues.length ∈ b
  some : ∀ s, s < k → rcrs c s c.clues.length [] ≠ [] → b ≠ []
  sorted : b.Pairwise (fun a b => lessL a b = true)
theorem InvW.len {c : Case} {k : Nat} {b : List (List Int)} (h : InvW c k b) {x y : List Int} (hx : x ∈ b) (hy : y ∈ b) : x.length = y.length := by
  obtain ⟨s, h1, h2, e1, h3⟩ := h.sound x hx
  obtain ⟨t, k1, k2, e2, k3⟩ := h.sound y hy
  have a := h3 t k1 k2
  have b := k3 s h1 h2
  rw [← e2] at a
  rw [← e1] at b
  omega
theorem refW_inv (c : Case) : ∀ k, k ≤ 2 ^ c.clues.length → InvW c k (refW c k)
  | 0, _ => ⟨fun x h => (nomatch h), fun s h => absurd h (by omega), fun s h => absurd h (by omega), List.Pairwise.nil⟩
  | k + 1, hk => by
    have ih := refW_inv c k (by omega)
    rw [refW]
    generalize refW c k = b at ih ⊢
    have hhead : ∀ x ∈ b, x.length = (b.getD 0 []).length := fun x hx => by
      cases b with
      | nil => cases hx
      | cons y b => exact ih.len hx List.mem_cons_self
    unfold stepW
    by_cases hs : skipW c b k = true
    · rw [if_pos hs]
      unfold skipW at hs
      rw [Bool.or_eq_true, Bool.and_eq_true, decide_eq_true_eq, decide_eq_true_eq, List.isEmpty_iff] at hs
      have hns : ∀ {s : Nat}, s < k + 1 → rcrs c s c.clues.length [] ≠ [] → (s < k ∨ (s = k ∧ 0 < b.length ∧ (b.getD 0 []).length < (bitsTo k c.clues.length).length)) := @fun s h1 h2 => by
        rcases Nat.lt_or_ge s k with h | h
        · exact .inl h
        · obtain rfl : s = k := by omega
          rcases hs with h3 | h3
          · exact .inr ⟨rfl, h3⟩
          · exact absurd h3 h2
      refine ⟨fun x hx => ?_, fun s h1 h2 h3 => ?_, fun s h1 h2 => ?_, ih.sorted⟩
      · obtain ⟨s, a1, a2, a3, a4⟩ := ih.sound x hx
        refine ⟨s, by omega, a2, a3, fun t t1 t2 => ?_⟩
        rcases hns t1 t2 with h | ⟨rfl, _, h⟩
        · exact a4 t h t2
        · have := hhead x hx; omega
      · rcases hns h1 h2 with h | ⟨rfl, h0, h⟩
        · exact ih.full s h h2 fun t t1 t2 => h3 t (by omega) t2
        · exfalso
          have hm : b.getD 0 [] ∈ b := by
            rw [show b.getD 0 [] = b[0] by simp [List.getD, h0]]
            exact List.getElem_mem h0
          obtain ⟨t, t1, t2, t3, _⟩ := ih.sound _ hm
          have := h3 t (by omega) t2
          rw [← t3] at this
          omega
      · rcases hns h1 h2 with h | ⟨rfl, h0, _⟩
        · exact ih.some s h h2
        · exact List.ne_nil_of_length_pos h0
    · rw [if_neg hs]
      unfold skipW at hs
      rw [Bool.or_eq_true, Bool.and_eq_true, decide_eq_true_eq, decide_eq_true_eq, List.isEmpty_iff, not_or] at hs
      obtain ⟨hs1, hs2⟩ := hs
      have hlt : ∀ {t}, t < k → bitsTo t c.clues.length ≠ bitsTo k c.clues.length := fun h e => by
        have := bits_inj (by omega) (by omega) e
        omega
      unfold cutW
      by_cases hcut : (decide (0 < b.length) && decide ((bitsTo k c.clues.length).length < (b.getD 0 []).length)) = true
      · rw [if_pos hcut]
        rw [Bool.and_eq_true, decide_eq_true_eq, decide_eq_true_eq] at hcut
        obtain ⟨h0, hc2⟩ := hcut
        have hm : b.getD 0 [] ∈ b := by
          rw [show b.getD 0 [] = b[0] by simp [List.getD, h0]]
          exact List.getElem_mem h0
        have hmin : ∀ t, t < k → rcrs c t c.clues.length [] ≠ [] → (bitsTo k c.clues.length).length < (bitsTo t c.clues.length).length := fun t t1 t2 => by
          obtain ⟨s, _, _, _, a4⟩ := ih.sound _ hm
          have := a4 t t1 t2
          omega
        have e : insL_ [] (bitsTo k c.clues.length) = [bitsTo k c.clues.length] := rfl
        rw [e]
        refine ⟨fun x hx => ?_, fun s h1 h2 h3 => ?_, fun s h1 h2 => by simp, List.pairwise_singleton _ _⟩
        · rw [List.mem_singleton.1 hx]
          refine ⟨k, by omega, hs2, rfl, fun t t1 t2 => ?_⟩
          by_cases e : t = k
          · subst e; exact Nat.le_refl _
          · exact Nat.le_of_lt (hmin t (by omega) t2)
        · by_cases e : s = k
          · subst e; exact List.mem_singleton.2 rfl
          · have h4 := h3 k (by omega) hs2
            have h5 := hmin s (by omega) h2
            omega
      · rw [if_neg hcut]
        rw [Bool.and_eq_true, decide_eq_true_eq, decide_eq_true_eq] at hcut
        have heq : ∀ x ∈ b, x.length = (bitsTo k c.clues.length).length := fun x hx => by
          have h0 : 0 < b.length := List.length_pos_of_mem hx
          have := hhead x hx
          omega
        refine ⟨fun x hx => ?_, fun s h1 h2 h3 => ?_, fun s h1 h2 => List.ne_nil_of_mem (ins_mem.2 (.inl rfl)), ins_sorted ih.sorted fun x hx => ⟨heq x hx, fun e => ?_⟩⟩
        · rcases ins_mem.1 hx with rfl | h
          · refine ⟨k, by omega, hs2, rfl, fun t t1 t2 => ?_⟩
            by_cases e : t = k
            · subst e; exact Nat.le_refl _
            · have hb := ih.some t (by omega) t2
              obtain ⟨y, hy⟩ := List.exists_mem_of_ne_nil _ hb
              obtain ⟨_, _, _, _, a4⟩ := ih.sound y hy
              rw [← heq y hy]
              exact a4 t (by omega) t2
          · obtain ⟨s, a1, a2, a3, a4⟩ := ih.sound x h
            refine ⟨s, by omega, a2, a3, fun t t1 t2 => ?_⟩
            by_cases e : t = k
            · subst e; exact Nat.le_of_eq (heq x h)
            · exact a4 t (by omega) t2
        · by_cases e : s = k
          · subst e; exact ins_mem.2 (.inl rfl)
          · exact ins_mem.2 (.inr (ih.full s (by omega) h2 fun t t1 t2 => h3 t (by omega) t2))
        · obtain ⟨s, a1, _, a3, _⟩ := ih.sound x hx
          exact hlt a1 (a3.symm.trans e)
/-- the reference finds what is found in order -/
theorem refW_wrong {c : Case} (hc : caseB c = true) : refW c (2 ^ c.clues.length) = wrongL c := by
  have hinv := refW_inv c _ (Nat.le_refl _)
  generalize refW c (2 ^ c.clues.length) = b at hinv ⊢
  -- the least size
  obtain ⟨m, hm, hne, hlow⟩ : ∃ m, m ≤ c.clues.length ∧ wrongAt c m ≠ [] ∧ ∀ i, i < m → wrongAt c i = [] := by
    have key : ∀ k, k ≤ c.clues.length → (∀ i, i < k → wrongAt c i = []) ∨ ∃ m, m ≤ c.clues.length ∧ wrongAt c m ≠ [] ∧ ∀ i, i < m → wrongAt c i = [] := by
      intro k
      induction k with
      | zero => intro _; exact .inl fun i hi => absurd hi (by omega)
      | succ k ih =>
        intro hk
        rcases ih (by omega) with h | h
        · by_cases e : wrongAt c k = []
          · exact .inl fun i hi => by
              by_cases e2 : i = k
              · subst e2; exact e
              · exact h i (by omega)
          · exact .inr ⟨k, by omega, e, h⟩
        · exact .inr h
    rcases key c.clues.length (Nat.le_refl _) with h | h
    · exact ⟨_, Nat.le_refl _, wrong_last hc, h⟩
    · exact h
  rw [wrong_is hne hm hlow]
  have hP : ∀ s, s < 2 ^ c.clues.length → rcrs c s c.clues.length [] ≠ [] → m ≤ (bitsTo s c.clues.length).length := fun s hs h => by
    rcases Nat.lt_or_ge (bitsTo s c.clues.length).length m with h1 | h1
    · have := hlow _ h1
      have h2 : bitsTo s c.clues.length ∈ wrongAt c (bitsTo s c.clues.length).length := wrongAt_mem.2 ⟨bitsTo_good _ _, rfl, (has_bits hc s).2 h⟩
      rw [this] at h2
      cases h2
    · exact h1
  refine sorted_eq hinv.sorted (wrongAt_sorted _ _) fun x => ⟨fun hx => ?_, fun hx => ?_⟩
  · obtain ⟨s, h1, h2, rfl, h3⟩ := hinv.sound x hx
    obtain ⟨y, hy⟩ := List.exists_mem_of_ne_nil _ hne
    obtain ⟨hg, hl, hw⟩ := wrongAt_mem.1 hy
    obtain ⟨t, ht, et⟩ := good_bits _ y hg
    have h4 := h3 t ht ((has_bits hc t).1 (by rw [et]; exact hw))
    rw [et, hl] at h4
    exact wrongAt_mem.2 ⟨bitsTo_good _ _, Nat.le_antisymm h4 (hP s h1 h2), (has_bits hc s).2 h2⟩
  · obtain ⟨hg, hl, hw⟩ := wrongAt_mem.1 hx
    obtain ⟨s, hs, es⟩ := good_bits _ x hg
    subst es
    exact hinv.full s hs ((has_bits hc s).1 hw) fun t ht h => by rw [hl]; exact hP t ht h
end Go.Proofs.Ytmaiiigijjfjfaa
set_option linter.unusedVariables false
set_option linter.unusedSimpArgs false
namespace Go.Proofs.Ytmaiiigijjfjfaa
open Go Go.RowKit
section
variable {n : Nat} {σ : Sg} {w : World} {dst : Option Tmp} {ty : TypeId} {pos : String} {af : Array Edge} {g : Option (Nat × Bool)} {x y z : Operand} {at' : Array TypeId}
theorem slh_41 {b o m c hi : Nat} (hx : evS σ x = some (.slice (some ⟨b, o, none⟩) m c)) (hh : evS σ y = some (.int .i64 (hi : Int))) (h2 : hi ≤ c) : Gives Try.prog n σ w ⟨dst, .slice 41 x none (some y) none, ty, pos, af, g⟩ (.slice (some ⟨b, o, none⟩) hi c) := fun a ha => by
  have k1 : (0 : Int) ≤ (hi : Int) := Int.natCast_nonneg _
  have k3 : (hi : Int) ≤ (c : Int) := by omega
  simp only [execOp, Option.map_some, Option.map_none, ha.eval hx, ha.eval hh]
  by_cases e : c = 0
  · subst e; obtain rfl : hi = 0 := by omega
    simp [go_sem]
  · simp [go_sem, k1, k3, h2, e]
theorem cl_61 {x0 x1 : Operand} {v0 v1 : Value} (h0 : evS σ x0 = some v0) (h1 : evS σ x1 = some v1) (a : Act) (ha : Env n σ a) : (execOp a.eval ⟨dst, .call { callee := .value (.func 61), args := #[x0, x1], argTypes := at' }, ty, pos, af, g⟩).run Try.prog w = .ok (.enter 61 #[v0, v1]) w := by
  simp only [execOp, resolve, List.map_toArray, List.map_cons, List.map_nil, ha.eval h0, ha.eval h1]
  simp [go_sem, Act.eval]
theorem sll_41 {b o m c lo r : Nat} (hx : evS σ x = some (.slice (some ⟨b, o, none⟩) m c)) (hl : evS σ y = some (.int .i64 (lo : Int))) (h1 : lo ≤ m) (hr : (if c = lo then o else o + lo) = r) : Gives Try.prog n σ w ⟨dst, .slice 41 x (some y) none none, ty, pos, af, g⟩ (.slice (some ⟨b, r, none⟩) (m - lo) (c - lo)) := fun a ha => by
  have k0 : (0 : Int) ≤ (lo : Int) := Int.natCast_nonneg _
  have k2 : (lo : Int) ≤ (m : Int) := by omega
  subst hr
  simp only [execOp, Option.map_some, Option.map_none, ha.eval hx, ha.eval hl]
  by_cases e : c = lo
  · subst e; simp [go_sem, k0, k2, h1]
  · simp [go_sem, k0, k2, h1, e]
end
end Go.Proofs.Ytmaiiigijjfjfaa
set_option linter.unusedVariables false
set_option linter.unusedSimpArgs false
namespace Go.Proofs.Ytmaiiigijjfjfaa
open Go Go.RowKit
theorem less_at : ∀ {a b : List Int} {k : Nat}, a.length = b.length → k < a.length → (∀ j, j < k → a.getD j 0 = b.getD j 0) → ¬a.getD k 0 = b.getD k 0 → lessL a b = decide (a.getD k 0 < b.getD k 0)
  | [], _, k, _, hk, _, _ => absurd hk (by simp)
  | _ :: _, [], _, hl, _, _, _ => by simp at hl
  | x :: a, y :: b, 0, _, _, _, hne => by
    have hne : ¬x = y := hne
    show lessL (x :: a) (y :: b) = decide (x < y)
    unfold lessL
    rw [if_neg hne]
  | x :: a, y :: b, k + 1, hl, hk, hs, hne => by
    have h0 : x = y := hs 0 (by omega)
    unfold lessL
    rw [if_pos h0]
    exact less_at (by simpa using hl) (by simpa using hk) (fun j hj => hs (j + 1) (by omega)) hne
theorem less_same : ∀ {a b : List Int}, a.length = b.length → (∀ j, j < a.length → a.getD j 0 = b.getD j 0) → lessL a b = false
  | [], _, _, _ => by simp [lessL]
  | _ :: _, [], hl, _ => by simp at hl
  | x :: a, y :: b, hl, hs => by
    have h0 : x = y := hs 0 (by simp)
    unfold lessL
    rw [if_pos h0]
    exact less_same (by simpa using hl) (fun j hj => hs (j + 1) (by simpa using hj))
theorem less_any (a b : List Int) (va vb : Value) (w : World) (B : Nat) (ha : Rd w B 1 va a.length (ints a)) (hb : Rd w B 1 vb b.length (ints b)) (hl : a.length = b.length) (hn : a.length ≤ 1073741824) :
    Calls Try.prog 61 #[va, vb] w fun e w' => e = .returned (.bool (lessL a b)) ∧ Below w.heap.size w w' := by
  obtain ⟨Ai, ci_, rfl, _⟩ := ha.shape
  obtain ⟨Aj, cj_, rfl, _⟩ := hb.shape
  have hbw := Below.refl w.heap.size w
  refine EC.enter 30 Try.func61 rfl rfl rfl ?_
  refine EC.seq ?_
  refine EC.region ?_
  refine EL.val (x_assign rfl) rfl ?_
  refine EL.nil ?_
  refine EX.seq ?_
  refine EC.seq ?_
  refine EC.seq ?_
  refine EC.region ?_
  refine EL.val (x_assign rfl) rfl ?_
  refine EL.nil ?_
  refine EX.seq ?_
  refine EC.block ?_
  refine EC.loopD [4, 5, 6, 7, 8, 9, 10, 11, 12, 13, 14, 15, 16, 17, 18, 19, 20, 21, 22, 23, 24, 25, 26, 27, 28, 29] (fun x : Nat => [(5, .int .i64 (x : Nat))]) (fun x W => x ≤ a.length ∧ (∀ j, j < x → a.getD j 0 = b.getD j 0) ∧ Below w.heap.size w W) (fun x => a.length - x) 0 ⟨Nat.zero_le _, fun j hj => absurd hj (Nat.not_lt_zero _), hbw⟩ ⟨rfl, trivial⟩ ?_
  clear hbw
  rintro k wk ⟨hk, hsm, hbw⟩
  by_cases hlt : k < a.length
  ·
    obtain ⟨b1, o1, e1_, _, c1⟩ := ints_cells a k hlt w _ _ _ _ ha
    obtain ⟨b2, o2, e2_, _, c2⟩ := ints_cells b k (by omega) w _ _ _ _ hb
    subst e1_
    subst e2_
    by_cases he : a.getD k 0 = b.getD k 0
    ·
      refine EC.seq ?_
      refine EC.seq ?_
      refine EC.region ?_
      refine EL.val (x_move rfl) rfl ?_
      refine EL.val (x_move rfl) rfl ?_
      refine EL.val (ln_26 rfl) rfl ?_
      refine EL.val (x_lss rfl rfl (decide_eq_true (show (((k : Nat) : Int) < ((a.length : Nat) : Int)) by omega))) rfl ?_
      refine EL.nil ?_
      refine EX.seq ?_
      refine EC.yes rfl ?_
      refine EC.skip ?_
      refine EX.seq ?_
      refine EC.seq ?_
      refine EC.block ?_
      refine EC.seq ?_
      refine EC.regionQ (by kernel_rfl) (by kernel_rfl) ?_
      refine EQ.val (fun _ hw => (x_move rfl)) rfl ?_
      refine EQ.val (fun _ hw => (x_move rfl)) rfl ?_
      refine EQ.val (fun _ hw => (ix_26 rfl rfl hlt)) rfl ?_
      refine EQ.val (fun _ hw => (ld_3 rfl (below_load hw (below_load hbw c1)))) rfl ?_
      refine EQ.val (fun _ hw => (x_move rfl)) rfl ?_
      refine EQ.val (fun _ hw => (x_move rfl)) rfl ?_
      refine EQ.val (fun _ hw => (ix_26 rfl rfl (show k < b.length by omega))) rfl ?_
      refine EQ.val (fun _ hw => (ld_3 rfl (below_load hw (below_load hbw c2)))) rfl ?_
      refine EQ.val (fun _ hw => (x_neq (r := false) rfl rfl (decide_eq_false (fun h => h he)))) rfl ?_
      refine EQ.fin (fun w1 hw_ => ?_)
      replace hbw := Below.on hbw hw_ hbw.size
      clear hw_
      refine EX.seq ?_
      refine EC.no rfl ?_
      refine EC.skip ?_
      refine EX.blk ?_
      refine EX.seq ?_
      refine EC.region ?_
      refine EL.val (x_move rfl) rfl ?_
      refine EL.val (x_add rfl rfl (c := ((k + 1 : Nat) : Int)) ((IntWalk.i64_in _ ⟨by first | omega | (simp only; omega), by first | omega | (simp only; omega)⟩).trans (by first | omega | (simp only; omega)))) rfl ?_
      refine EL.val (x_assign rfl) rfl ?_
      refine EL.nil ?_
      refine EX.roundD (k + 1) ⟨rfl, trivial⟩ (by repeat first | with_reducible exact Sub.refl _ | refine sub_past rfl ?_ | exact Sub.refl _ | refine sub_del rfl ?_ | refine sub_insL_nil ?_) ⟨hlt, fun j hj => by by_cases e : j < k; (exact hsm j e); (rw [show j = k by omega]; exact he), hbw⟩ (by omega)
    ·
      refine EC.seq ?_
      refine EC.seq ?_
      refine EC.region ?_
      refine EL.val (x_move rfl) rfl ?_
      refine EL.val (x_move rfl) rfl ?_
      refine EL.val (ln_26 rfl) rfl ?_
      refine EL.val (x_lss rfl rfl (decide_eq_true (show (((k : Nat) : Int) < ((a.length : Nat) : Int)) by omega))) rfl ?_
      refine EL.nil ?_
      refine EX.seq ?_
      refine EC.yes rfl ?_
      refine EC.skip ?_
      refine EX.seq ?_
      refine EC.seq ?_
      refine EC.block ?_
      refine EC.seq ?_
      refine EC.regionQ (by kernel_rfl) (by kernel_rfl) ?_
      refine EQ.val (fun _ hw => (x_move rfl)) rfl ?_
      refine EQ.val (fun _ hw => (x_move rfl)) rfl ?_
      refine EQ.val (fun _ hw => (ix_26 rfl rfl hlt)) rfl ?_
      refine EQ.val (fun _ hw => (ld_3 rfl (below_load hw (below_load hbw c1)))) rfl ?_
      refine EQ.val (fun _ hw => (x_move rfl)) rfl ?_
      refine EQ.val (fun _ hw => (x_move rfl)) rfl ?_
      refine EQ.val (fun _ hw => (ix_26 rfl rfl (show k < b.length by omega))) rfl ?_
      refine EQ.val (fun _ hw => (ld_3 rfl (below_load hw (below_load hbw c2)))) rfl ?_
      refine EQ.val (fun _ hw => (x_neq (r := true) rfl rfl (decide_eq_true he))) rfl ?_
      refine EQ.fin (fun w2 hw_ => ?_)
      replace hbw := Below.on hbw hw_ hbw.size
      clear hw_
      refine EX.seq ?_
      refine EC.yes rfl ?_
      refine EC.seq ?_
      refine EC.regionQ (by kernel_rfl) (by kernel_rfl) ?_
      refine EQ.val (fun _ hw => (x_move rfl)) rfl ?_
      refine EQ.val (fun _ hw => (x_move rfl)) rfl ?_
      refine EQ.val (fun _ hw => (ix_26 rfl rfl hlt)) rfl ?_
      refine EQ.val (fun _ hw => (ld_3 rfl (below_load hw (below_load hbw c1)))) rfl ?_
      refine EQ.val (fun _ hw => (x_move rfl)) rfl ?_
      refine EQ.val (fun _ hw => (x_move rfl)) rfl ?_
      refine EQ.val (fun _ hw => (ix_26 rfl rfl (show k < b.length by omega))) rfl ?_
      refine EQ.val (fun _ hw => (ld_3 rfl (below_load hw (below_load hbw c2)))) rfl ?_
      refine EQ.val (fun _ hw => (x_lss rfl rfl rfl)) rfl ?_
      refine EQ.val (fun _ hw => (x_assign rfl)) rfl ?_
      refine EQ.fin (fun w3 hw_ => ?_)
      replace hbw := Below.on hbw hw_ hbw.size
      clear hw_
      refine EX.seq ?_
      refine EC.ret ?_
      refine EX.blk_ret ?_
      refine EX.seq_ret ?_
      refine EX.seq_ret ?_
      refine EX.blk_ret ?_
      refine EX.seq_ret ?_
      exact EX.done (res1 rfl rfl) ⟨by rw [less_at hl hlt hsm he], hbw⟩
  ·
    obtain rfl : k = a.length := by omega
    refine EC.seq ?_
    refine EC.seq ?_
    refine EC.region ?_
    refine EL.val (x_move rfl) rfl ?_
    refine EL.val (x_move rfl) rfl ?_
    refine EL.val (ln_26 rfl) rfl ?_
    refine EL.val (x_lss rfl rfl (decide_eq_false (show ¬(((a.length : Nat) : Int) < ((a.length : Nat) : Int)) by omega))) rfl ?_
    refine EL.nil ?_
    refine EX.seq ?_
    refine EC.no rfl ?_
    refine EC.exit ?_
    refine EX.seq_exit ?_
    refine EX.seq_exit ?_
    refine EX.blk_here ?_
    refine EX.seq ?_
    refine EC.seq ?_
    refine EC.region ?_
    refine EL.val (x_assign rfl) rfl ?_
    refine EL.nil ?_
    refine EX.seq ?_
    refine EC.ret ?_
    exact EX.done (res1 rfl rfl) ⟨by rw [less_same hl hsm], hbw⟩
theorem less_to {a b : List Int} {r : Bool} (h : lessL a b = r) (va vb : Value) (w : World) (B : Nat) (ha : Rd w B 1 va a.length (ints a)) (hb : Rd w B 1 vb b.length (ints b)) (hl : a.length = b.length) (hn : a.length ≤ 1073741824) :
    Calls Try.prog 61 #[va, vb] w fun e w' => e = .returned (.bool r) ∧ Below w.heap.size w w' := h ▸ less_any a b va vb w B ha hb hl hn
theorem refW_len (c : Case) : ∀ k, (refW c k).length ≤ k
  | 0 => Nat.le_refl _
  | k + 1 => by
    have ih := refW_len c k
    rw [refW, stepW]
    split
    · omega
    · unfold insL_
      have h1 : (cutW c (refW c k) k).length ≤ k := by
        unfold cutW
        split
        · simp
        · exact ih
      rw [List.length_append, List.length_append, List.length_singleton, List.length_take, List.length_drop]
      omega
theorem bitsTo_len (s : Nat) : ∀ n, (bitsTo s n).length ≤ n
  | 0 => Nat.le_refl _
  | n + 1 => by
    have := bitsTo_len s n
    rw [bitsTo, List.length_append]
    split <;> simp <;> omega
theorem rcourses_lenx {c : Case} {s : Nat} (hc : caseB c = true) (h : c.clues.length ≤ 10) : (rcrs c s c.clues.length []).length ≤ 59049 := Nat.le_trans (rcrs_len hc _ _ (by simp)) (pow3_le h)
theorem cutW_len {c : Case} {k : Nat} {b : List (List Int)} (ih : InvW c k b) (hs : ¬skipW c b k = true) : ∀ x ∈ cutW c b k, x.length = (bitsTo k c.clues.length).length := fun x hx => by
  unfold cutW at hx
  unfold skipW at hs
  rw [Bool.or_eq_true, Bool.and_eq_true, decide_eq_true_eq, decide_eq_true_eq, not_or] at hs
  split at hx
  · cases hx
  · next hcut =>
    rw [Bool.and_eq_true, decide_eq_true_eq, decide_eq_true_eq] at hcut
    have h0 : 0 < b.length := List.length_pos_of_mem hx
    have h1 := ih.len hx (show b.getD 0 [] ∈ b by
      rw [show b.getD 0 [] = b[0] by simp [List.getD, h0]]
      exact List.getElem_mem h0)
    have := hs.1
    omega
theorem at_eq {l : List Int} : ∀ {b : List (List Int)} {k : Nat}, k ≤ b.length → (∀ j, j < k → lessL (b.getD j []) l = true) → (k = b.length ∨ lessL (b.getD k []) l = false) → k = atL l b
  | [], k, h, _, _ => by simp at h; subst h; rfl
  | x :: b, 0, _, _, h2 => by
    have h3 : lessL x l = false := h2.resolve_left (by simp)
    unfold atL
    rw [if_neg (by rw [h3]; decide)]
  | x :: b, k + 1, h, h1, h2 => by
    have h3 : lessL x l = true := h1 0 (by omega)
    unfold atL
    rw [if_pos h3, ← at_eq (k := k) (by simpa using h) (fun j hj => h1 (j + 1) (by omega)) (by simpa using h2)]
theorem own_cap {W : World} {base e n c : Nat} {A : Option Addr} {xs : List Value} (h : W.ownsRow base e 1 (.slice A n c) n xs) : n ≤ c := by
  obtain ⟨A', c', e, h⟩ := (Rd.of_own h).shape
  injection e with _ _ e
  omega
theorem rd_takeV {w : World} {B b o n c k : Nat} {xs : List Value} (h : Rd w B 1 (.slice (some ⟨b, o, none⟩) n c) n xs) (hk : k ≤ n) : Rd w B 1 (.slice (some ⟨b, o, none⟩) k c) k (xs.take k) := by
  obtain ⟨hl, A, c', e, hc, hr⟩ := h
  injection e with e1 _ e3
  subst e1
  subst e3
  refine ⟨by rw [List.length_take]; omega, _, _, rfl, by omega, fun h0 => ?_⟩
  obtain ⟨b', o', e, hb, hcell⟩ := hr (by omega)
  refine ⟨b', o', e, hb, fun j u hu => hcell j u ?_⟩
  rw [List.getElem?_take] at hu
  split at hu
  · exact hu
  · cases hu
theorem rd_dropV {w : World} {B b n c k : Nat} {xs : List Value} (h : Rd w B 1 (.slice (some ⟨b, 0, none⟩) n c) n xs) (hk : k ≤ n) : Rd w B 1 (.slice (some ⟨b, (if c = k then 0 else 0 + k), none⟩) (n - k) (c - k)) (n - k) (xs.drop k) := by
  obtain ⟨hl, A, c', e, hc, hr⟩ := h
  injection e with e1 _ e3
  subst e1
  subst e3
  refine ⟨by rw [List.length_drop]; omega, _, _, rfl, by omega, fun h0 => ?_⟩
  obtain ⟨b', o', e, hb, hcell⟩ := hr (by omega)
  injection e with e
  injection e with e1 e2 _
  subst e1
  subst e2
  rw [if_neg (by omega)]
  refine ⟨b, 0 + k, rfl, hb, fun j u hu => ?_⟩
  rw [List.getElem?_drop] at hu
  have := hcell _ _ hu
  rwa [show 0 + k + j = 0 + (k + j) by omega]
theorem OwnLL.ins {W W' : World} {base k : Nat} {v v' vl : Value} {L : List (List Int)} {l : List Int} {fs : List Value} (h : OwnLL W base v L fs) (hl : W.ownsRow 0 3 1 vl l.length (ints l)) (hb : Below W.heap.size W W') (hk : k ≤ L.length) (ho : W'.ownsRow base 26 1 v' (k + 1 + (L.length - k)) (fs.take k ++ [vl] ++ fs.drop k)) : OwnLL W' base v' (L.take k ++ [l] ++ L.drop k) (fs.take k ++ [vl] ++ fs.drop k) := by
  have hlen : (L.take k ++ [l] ++ L.drop k).length = k + 1 + (L.length - k) := by
    rw [List.length_append, List.length_append, List.length_take, List.length_drop, List.length_singleton, Nat.min_eq_left hk]
  have hf := h.len
  refine ⟨by rw [hlen, List.length_append, List.length_append, List.length_take, List.length_drop, List.length_singleton, hf, Nat.min_eq_left hk], by rw [hlen]; exact ho, fun i hi => ?_⟩
  rw [hlen] at hi
  have get : ∀ {α : Type} (m : List α) (y d : α), m.length = L.length → (m.take k ++ [y] ++ m.drop k).getD i d = if i < k then m.getD i d else if i = k then y else m.getD (i - 1) d := fun m y d hm => by
    have h1 : (m.take k).length = k := by rw [List.length_take]; omega
    rw [List.append_assoc, List.getD_eq_getElem?_getD, List.getElem?_append, h1]
    by_cases e1 : i < k
    · rw [if_pos e1, if_pos e1, List.getElem?_take, if_pos e1, List.getD_eq_getElem?_getD]
    · rw [if_neg e1, if_neg e1, List.singleton_append]
      by_cases e2 : i = k
      · rw [if_pos e2, e2, Nat.sub_self]; rfl
      · rw [if_neg e2, show i - k = (i - 1 - k) + 1 by omega, List.getElem?_cons_succ, List.getElem?_drop, show k + (i - 1 - k) = i - 1 by omega, List.getD_eq_getElem?_getD]
  rw [get L l [] rfl, get fs vl undef hf]
  by_cases e1 : i < k
  · rw [if_pos e1, if_pos e1]
    exact own_below (h.row i (by omega)) hb (Nat.le_refl _)
  · rw [if_neg e1, if_neg e1]
    by_cases e2 : i = k
    · rw [if_pos e2, if_pos e2]
      exact own_below hl hb (Nat.le_refl _)
    · rw [if_neg e2, if_neg e2]
      exact own_below (h.row (i - 1) (by omega)) hb (Nat.le_refl _)
set_option maxHeartbeats 4000000 in
set_option maxRecDepth 100000 in
theorem rwrong_any (c : Case) (vc vl : Value) (vs : List Value) (w : World) (B : Nat) (hr : RdCase w B vc vl c vs) (hB : B ≤ w.heap.size) (hn1 : c.clocks.length ≤ 1073741824) (hn2 : c.clues.length ≤ 1073741824) (hc : caseB c = true) (h10 : c.clues.length ≤ 10) :
    Calls Try.prog 36 #[.agg #[.int .i64 c.events, vc, vl]] w fun e w' => (∃ v fs, e = .returned v ∧ OwnLL w' w.heap.size v (wrongL c) fs) ∧ Below w.heap.size w w' := by
  obtain ⟨Ac, cc_, rfl, _⟩ := hr.clocks.shape
  obtain ⟨Al, cl_, rfl, _⟩ := hr.clues.rd.shape
  have hbw := Below.refl w.heap.size w
  refine EC.enter 98 Try.func36 rfl rfl rfl ?_
  refine EC.seq ?_
  refine EC.region ?_
  refine EL.newP (bx_25 rfl) rfl ?_
  intro g1 w1 q1 hb1 hg1 hl1
  have bhbw_1 := Nat.le_trans hbw.size hg1
  have hge1 : w.heap.size ≤ g1 := Nat.le_trans hbw.size hg1
  replace hbw := Below.on hbw hb1 hbw.size
  clear hb1 hg1 hl1
  refine EL.val (x_assign rfl) rfl ?_
  refine EL.nil ?_
  refine EX.seq ?_
  refine EC.seq ?_
  refine EC.region ?_
  refine EL.newS (bs_41_0) rfl ?_
  intro g2 w2 q2 hb2 hg2 hl2
  have n1_2 : g1 ≠ g2 := Nat.ne_of_lt (Nat.lt_of_lt_of_le q1.lt hg2)
  have bhbw_2 := Nat.le_trans hbw.size hg2
  have hge2 : w.heap.size ≤ g2 := Nat.le_trans hbw.size hg2
  replace q1 := q1.below hb2 q1.lt
  replace hbw := Below.on hbw hb2 hbw.size
  clear hb2 hg2 hl2
  refine EL.val (x_assign rfl) rfl ?_
  refine EL.nil ?_
  refine EX.seq ?_
  refine EC.seq ?_
  refine EC.seq ?_
  refine EC.region ?_
  refine EL.val (x_assign rfl) rfl ?_
  refine EL.nil ?_
  refine EX.seq ?_
  refine EC.block ?_
  obtain ⟨P2, eP2⟩ : ∃ z, z = 2 ^ c.clues.length := ⟨_, rfl⟩
  have hP10 : P2 ≤ 1024 := by rw [eP2]; exact Nat.le_trans (Nat.pow_le_pow_right (by omega) h10) (by decide)
  refine EC.loopD [3, 4, 5, 6, 7, 8, 10, 11, 12, 13, 14, 15, 16, 17, 18, 19, 20, 21, 22, 23, 24, 25, 26, 27, 28, 29, 30, 31, 32, 33, 34, 35, 36, 37, 38, 39, 40, 41, 42, 43, 44, 45, 46, 47, 48, 49, 50, 51, 52, 53, 54, 55, 56, 57, 58, 59, 60, 61, 62, 63, 64, 65, 66, 67, 68, 69, 70, 71, 72, 73, 74, 75, 76, 77, 78, 79, 80, 81, 82, 83, 84, 85, 86, 87, 88, 89, 90, 91, 92, 93, 94, 95, 96] (fun x : Nat × Nat × Nat × List Value => [(3, .slice (some ⟨x.2.1, 0, none⟩) (refW c x.1).length x.2.2.1), (4, .int .i64 (x.1 : Nat))]) (fun x W => x.1 ≤ P2 ∧ OwnLL W w.heap.size (.slice (some ⟨x.2.1, 0, none⟩) (refW c x.1).length x.2.2.1) (refW c x.1) x.2.2.2 ∧ Blk W g1 25 #[.int .i64 c.events, .slice Ac c.clocks.length cc_, .slice Al c.clues.length cl_] ∧ Below w.heap.size w W) (fun x => P2 - x.1) (0, g2, 0, []) ⟨Nat.zero_le _, OwnLL.nil q2 hge2, q1, hbw⟩ ⟨rfl, rfl, trivial⟩ ?_
  clear q1 q2 hbw
  rintro ⟨x, gb, cb, fs⟩ wr ⟨hx, hR, q1x, hbw⟩
  dsimp only at hx hR
  have hlen := refW_len c x
  by_cases hlt : x < P2
  ·
    have hinv := refW_inv c x (by omega)
    have hsucc : refW c (x + 1) = stepW c (refW c x) x := rfl
    obtain ⟨b, eb⟩ : ∃ z, z = refW c x := ⟨_, rfl⟩
    rw [← eb] at hR hlen hinv hsucc ⊢
    have hbr := Below.refl wr.heap.size wr
    have hszr0 := hbw.size
    refine EC.seq ?_
    refine EC.seq ?_
    refine EC.region ?_
    refine EL.val (x_move rfl) rfl ?_
    refine EL.val (fa_25_2 rfl) rfl ?_
    refine EL.val (ld_23 rfl (q1x.at (j := 2) rfl)) rfl ?_
    refine EL.val (ln_23 rfl) rfl ?_
    refine EL.val (cv_3_104 rfl (u64_nat (by omega))) rfl ?_
    refine EL.val (x_shl1 rfl rfl (by omega)) rfl ?_
    refine EL.val (x_lss rfl rfl (decide_eq_true (show ((x : Nat) : Int) < ((2 ^ c.clues.length : Nat) : Int) by omega))) rfl ?_
    refine EL.nil ?_
    refine EX.seq ?_
    refine EC.yes rfl ?_
    refine EC.skip ?_
    refine EX.seq ?_
    refine EC.seq ?_
    refine EC.block ?_
    refine EC.seq ?_
    refine EC.region ?_
    refine EL.newS (bs_26_0) rfl ?_
    intro g3 w3 q3 hb3 hg3 hl3
    have n1_3 : g1 ≠ g3 := Nat.ne_of_lt (Nat.lt_of_lt_of_le q1x.lt hg3)
    have bhbw_3 := Nat.le_trans hbw.size hg3
    have bhbr_3 := Nat.le_trans hbr.size hg3
    have hge3 : wr.heap.size ≤ g3 := Nat.le_trans hbr.size hg3
    replace q1x := q1x.below hb3 q1x.lt
    replace hbw := Below.on hbw hb3 hbw.size
    replace hbr := Below.on hbr hb3 hbr.size
    clear hb3 hg3 hl3
    refine EL.val (x_assign rfl) rfl ?_
    refine EL.nil ?_
    refine EX.seq ?_
    refine EC.seq ?_
    refine EC.seq ?_
    refine EC.region ?_
    refine EL.val (x_assign rfl) rfl ?_
    refine EL.nil ?_
    refine EX.seq ?_
    refine EC.block ?_
    refine EC.loopD [5, 6, 20, 21, 22, 23, 24, 25, 26, 27, 28, 29, 30, 31, 32, 33, 34, 35, 36] (fun y : Nat × Value => [(5, y.2), (6, .int .i64 (y.1 : Nat))]) (fun y W => y.1 ≤ c.clues.length ∧ W.ownsRow wr.heap.size 3 1 y.2 (bitsTo x y.1).length (ints (bitsTo x y.1)) ∧ Blk W g1 25 #[.int .i64 c.events, .slice Ac c.clocks.length cc_, .slice Al c.clues.length cl_] ∧ Below w.heap.size w W ∧ Below wr.heap.size wr W) (fun y => c.clues.length - y.1) (0, _) ⟨Nat.zero_le _, own_empty 1 q3 hge3, q1x, hbw, hbr⟩ ⟨rfl, rfl, trivial⟩ ?_
    have hszr : w.heap.size ≤ wr.heap.size := hszr0
    clear q1x q3 hbw hbr
    rintro ⟨i, vl⟩ wi ⟨hi, hol, q1x, hbw, hbr⟩
    dsimp only at hi hol
    have hbl := bitsTo_len x i
    obtain ⟨AL, cL, eL, _⟩ := (Rd.of_own hol).shape
    subst eL
    by_cases hil : i < c.clues.length
    ·
      refine EC.seq ?_
      refine EC.seq ?_
      refine EC.region ?_
      refine EL.val (x_move rfl) rfl ?_
      refine EL.val (fa_25_2 rfl) rfl ?_
      refine EL.val (ld_23 rfl (q1x.at (j := 2) rfl)) rfl ?_
      refine EL.val (ln_23 rfl) rfl ?_
      refine EL.val (x_lss rfl rfl (decide_eq_true (show (((i : Nat) : Int) < ((c.clues.length : Nat) : Int)) by omega))) rfl ?_
      refine EL.nil ?_
      refine EX.seq ?_
      refine EC.yes rfl ?_
      refine EC.skip ?_
      refine EX.seq ?_
      refine EC.seq ?_
      refine EC.block ?_
      refine EC.seq ?_
      refine EC.region ?_
      refine EL.val (x_move rfl) rfl ?_
      refine EL.val (x_move rfl) rfl ?_
      refine EL.val (cv_3_104 rfl (u64_nat (by omega))) rfl ?_
      refine EL.val (x_shr rfl rfl (by omega)) rfl ?_
      refine EL.val (x_and1 rfl rfl (Nat.lt_of_le_of_lt (Nat.div_le_self _ _) (Nat.lt_of_lt_of_le hlt (Nat.le_trans hP10 (by decide))))) rfl ?_
      cases hbit : bitN x i
      ·
        have hbs : bitsTo x (i + 1) = bitsTo x i := by rw [bitsTo, hbit]; simp
        refine EL.val (x_eql (r := false) rfl rfl (bit_dec hbit)) rfl ?_
        refine EL.nil ?_
        refine EX.seq ?_
        refine EC.no rfl ?_
        refine EC.skip ?_
        refine EX.blk ?_
        refine EX.seq ?_
        refine EC.region ?_
        refine EL.val (x_move rfl) rfl ?_
        refine EL.val (x_add rfl rfl (c := ((i + 1 : Nat) : Int)) ((IntWalk.i64_in _ ⟨by first | omega | (simp only; omega), by first | omega | (simp only; omega)⟩).trans (by first | omega | (simp only; omega)))) rfl ?_
        refine EL.val (x_assign rfl) rfl ?_
        refine EL.nil ?_
        refine EX.roundD (i + 1, _) ⟨rfl, rfl, trivial⟩ (by repeat first | with_reducible exact Sub.refl _ | refine sub_past rfl ?_ | exact Sub.refl _ | refine sub_del rfl ?_ | refine sub_insL_nil ?_) ⟨hil, by rw [hbs]; exact hol, q1x, hbw, hbr⟩ (by simp only; omega)
      ·
        have hbs : bitsTo x (i + 1) = bitsTo x i ++ [((i : Nat) : Int)] := by rw [bitsTo, hbit]; simp
        refine EL.val (x_eql (r := true) rfl rfl (bit_dec hbit)) rfl ?_
        refine EL.nil ?_
        refine EX.seq ?_
        refine EC.yes rfl ?_
        refine EC.region ?_
        refine EL.val (x_move rfl) rfl ?_
        refine EL.val (x_move rfl) rfl ?_
        refine EL.newS (bs_26_1 rfl) rfl ?_
        intro g4 w4 q4 hb4 hg4 hl4
        have n1_4 : g1 ≠ g4 := Nat.ne_of_lt (Nat.lt_of_lt_of_le q1x.lt hg4)
        have bhbw_4 := Nat.le_trans hbw.size hg4
        have bhbr_4 := Nat.le_trans hbr.size hg4
        have hge4 : wr.heap.size ≤ g4 := Nat.le_trans hbr.size hg4
        replace q1x := q1x.below hb4 q1x.lt
        replace hol := own_below hol hb4 (Nat.le_refl _)
        replace hbw := Below.on hbw hb4 hbw.size
        replace hbr := Below.on hbr hb4 hbr.size
        clear hb4 hg4 hl4
        refine EL.push i64_elem rfl rfl hol (rd_one (l := [.int .i64 (i : Nat)]) q4 rfl) (by intro u hu; rw [List.mem_singleton.1 hu]; rfl) (by omega) rfl hbr.size rfl ?_
        intro v2 wp ho2 hgr hb2 _
        replace q1x := blk_grown q1x hol rfl hgr
        replace hbw := hbw.trans (hb2.mono hszr)
        replace hbr := hbr.trans hb2
        clear hol
        refine EL.val (x_assign rfl) rfl ?_
        refine EL.nil ?_
        refine EX.blk ?_
        refine EX.seq ?_
        refine EC.region ?_
        refine EL.val (x_move rfl) rfl ?_
        refine EL.val (x_add rfl rfl (c := ((i + 1 : Nat) : Int)) ((IntWalk.i64_in _ ⟨by first | omega | (simp only; omega), by first | omega | (simp only; omega)⟩).trans (by first | omega | (simp only; omega)))) rfl ?_
        refine EL.val (x_assign rfl) rfl ?_
        refine EL.nil ?_
        refine EX.roundD (i + 1, _) ⟨rfl, rfl, trivial⟩ (by repeat first | with_reducible exact Sub.refl _ | refine sub_past rfl ?_ | exact Sub.refl _ | refine sub_del rfl ?_ | refine sub_insL_nil ?_) ⟨hil, by rw [hbs, ints_app, List.length_append]; exact ho2, q1x, hbw, hbr⟩ (by simp only; omega)
    ·
      have hie : i = c.clues.length := by omega
      subst hie
      obtain ⟨l, el⟩ : ∃ z, z = (bitsTo x c.clues.length) := ⟨_, rfl⟩
      rw [← el] at hol hbl ⊢
      have hLL := rcourses_lenx (c := c) (s := x) hc h10
      have hskd : skipW c b x = ((decide (0 < b.length) && decide ((b.getD 0 []).length < l.length)) || (rcrs c x c.clues.length []).isEmpty) := by rw [el]; rfl
      have hcud : cutW c b x = if (decide (0 < b.length) && decide (l.length < (b.getD 0 []).length)) = true then [] else b := by rw [el]; rfl
      refine EC.seq ?_
      refine EC.seq ?_
      refine EC.region ?_
      refine EL.val (x_move rfl) rfl ?_
      refine EL.val (fa_25_2 rfl) rfl ?_
      refine EL.val (ld_23 rfl (q1x.at (j := 2) rfl)) rfl ?_
      refine EL.val (ln_23 rfl) rfl ?_
      refine EL.val (x_lss rfl rfl (decide_eq_false (show ¬(((c.clues.length : Nat) : Int) < ((c.clues.length : Nat) : Int)) by omega))) rfl ?_
      refine EL.nil ?_
      refine EX.seq ?_
      refine EC.no rfl ?_
      refine EC.exit ?_
      refine EX.seq_exit ?_
      refine EX.seq_exit ?_
      refine EX.blk_here ?_
      refine EX.seq ?_
      refine EC.seq ?_
      refine EC.seq ?_
      refine EC.region ?_
      refine EL.val (x_move rfl) rfl ?_
      refine EL.val (ln_41 rfl) rfl ?_
      by_cases hb0 : 0 < b.length
      ·
        obtain ⟨bB, oB, e9_, _, hcell0⟩ := rdll_cell hR.rd 0 hb0
        injection e9_ with e9_
        injection e9_ with k1_ k2_ _
        subst k1_
        subst k2_
        have hr0 := hR.row 0 hb0
        obtain ⟨A0, c0, e8_, _⟩ := (Rd.of_own hr0).shape
        rw [e8_] at hcell0
        refine EL.val (x_gtr rfl rfl (decide_eq_true (show (0 : Int) < ((b.length : Nat) : Int) by omega))) rfl ?_
        refine EL.val (x_move rfl) rfl ?_
        refine EL.valg rfl rfl (x_move rfl) rfl ?_
        refine EL.valg rfl rfl (ln_26 rfl) rfl ?_
        refine EL.valg rfl rfl (x_move rfl) rfl ?_
        refine EL.valg rfl rfl (ix_41 (k := 0) rfl rfl hb0) rfl ?_
        refine EL.valg rfl rfl (ld_26 rfl (below_load hbr hcell0)) rfl ?_
        refine EL.valg rfl rfl (ln_26 rfl) rfl ?_
        by_cases h1 : (b.getD 0 []).length < l.length
        ·
          have hsk : skipW c b x = true := by rw [hskd]; rw [decide_eq_true hb0, decide_eq_true h1]; rfl
          have hnew : refW c (x + 1) = b := by rw [hsucc, stepW, if_pos hsk]
          refine EL.valg rfl rfl (x_gtr rfl rfl (decide_eq_true (show (((b.getD 0 []).length : Nat) : Int) < ((l.length : Nat) : Int) by omega))) rfl ?_
          refine EL.val (x_pick_t rfl rfl) rfl ?_
          refine EL.val (x_move rfl) rfl ?_
          refine EL.skip rfl rfl rfl rfl ?_
          refine EL.skip rfl rfl rfl rfl ?_
          refine EL.skip rfl rfl rfl rfl ?_
          refine EL.skip rfl rfl rfl rfl ?_
          refine EL.skip rfl rfl rfl rfl ?_
          refine EL.skip rfl rfl rfl rfl ?_
          refine EL.val (x_pick_t rfl rfl) rfl ?_
          refine EL.nil ?_
          refine EX.seq ?_
          refine EC.yes rfl ?_
          refine EC.exit ?_
          refine EX.seq_exit ?_
          refine EX.blk_here ?_
          refine EX.seq ?_
          refine EC.region ?_
          refine EL.val (x_move rfl) rfl ?_
          refine EL.val (x_add rfl rfl (c := ((x + 1 : Nat) : Int)) ((IntWalk.i64_in _ ⟨by first | omega | (simp only; omega), by first | omega | (simp only; omega)⟩).trans (by first | omega | (simp only; omega)))) rfl ?_
          refine EL.val (x_assign rfl) rfl ?_
          refine EL.nil ?_
          have hRz := hR.below hbr
          refine EX.roundD (x + 1, gb, cb, fs) ⟨by rw [hnew]; rfl, rfl, trivial⟩ (by repeat first | with_reducible exact Sub.refl _ | refine sub_past rfl ?_ | exact Sub.refl _ | refine sub_del rfl ?_ | refine sub_insL_nil ?_) ⟨hlt, by rw [hnew]; exact hRz, q1x, hbw⟩ (by simp only; omega)
        ·
          refine EL.valg rfl rfl (x_gtr rfl rfl (decide_eq_false (show ¬(((b.getD 0 []).length : Nat) : Int) < ((l.length : Nat) : Int) by omega))) rfl ?_
          refine EL.val (x_pick_t rfl rfl) rfl ?_
          refine EL.val (x_move rfl) rfl ?_
          refine EL.valg rfl rfl (ld_25 rfl (q1x.at (j := 0) rfl) (q1x.at (j := 1) rfl) (q1x.at (j := 2) rfl)) rfl ?_
          refine EL.newSg rfl rfl (bs_26_0) rfl ?_
          intro g5 w5 q5 hb5 hg5 hl5
          have n1_5 : g1 ≠ g5 := Nat.ne_of_lt (Nat.lt_of_lt_of_le q1x.lt hg5)
          have bhbw_5 := Nat.le_trans hbw.size hg5
          have bhbr_5 := Nat.le_trans hbr.size hg5
          have hge5 : wr.heap.size ≤ g5 := Nat.le_trans hbr.size hg5
          replace q1x := q1x.below hb5 q1x.lt
          replace hol := own_below hol hb5 (Nat.le_refl _)
          replace hbw := Below.on hbw hb5 hbw.size
          replace hbr := Below.on hbr hb5 hbr.size
          clear hb5 hg5 hl5
          refine EL.valg rfl rfl (x_move rfl) rfl ?_
          refine EL.callg rfl rfl (cl_46 rfl rfl rfl) rfl (rcourses_any c x _ _ vs c.clues.length [] _ _ B hc (Nat.le_trans hB hbw.size) (hr.below (hbw.mono hB)) (by simp) (by omega) (inCourseN_nil c) (own_empty 1 q5 (Nat.zero_le _)) (by omega)) ?_
          rintro e w9 ⟨⟨vr, gs, rfl, hLr⟩, hc9⟩
          refine ⟨_, rfl, ?_⟩
          replace q1x := q1x.below hc9 q1x.lt
          replace q5 := q5.below hc9 q5.lt
          replace hol := own_below hol hc9 (Nat.le_refl _)
          replace hbw := Below.on hbw hc9 hbw.size
          replace hbr := Below.on hbr hc9 hbr.size
          clear hc9
          obtain ⟨Ar, cr, er, _⟩ := (Rd.of_own hLr.own).shape
          subst er
          refine EL.valg rfl rfl (ln_41 rfl) rfl ?_
          by_cases hem : rcrs c x c.clues.length [] = []
          ·
            have hsk : skipW c b x = true := by rw [hskd]; rw [hem]; simp
            have hnew : refW c (x + 1) = b := by rw [hsucc, stepW, if_pos hsk]
            refine EL.valg rfl rfl (x_eql rfl rfl (decide_eq_true (by rw [hem]; rfl))) rfl ?_
            refine EL.val (x_pick_f rfl rfl) rfl ?_
            refine EL.nil ?_
            refine EX.seq ?_
            refine EC.yes rfl ?_
            refine EC.exit ?_
            refine EX.seq_exit ?_
            refine EX.blk_here ?_
            refine EX.seq ?_
            refine EC.region ?_
            refine EL.val (x_move rfl) rfl ?_
            refine EL.val (x_add rfl rfl (c := ((x + 1 : Nat) : Int)) ((IntWalk.i64_in _ ⟨by first | omega | (simp only; omega), by first | omega | (simp only; omega)⟩).trans (by first | omega | (simp only; omega)))) rfl ?_
            refine EL.val (x_assign rfl) rfl ?_
            refine EL.nil ?_
            have hRz := hR.below hbr
            refine EX.roundD (x + 1, gb, cb, fs) ⟨by rw [hnew]; rfl, rfl, trivial⟩ (by repeat first | with_reducible exact Sub.refl _ | refine sub_past rfl ?_ | exact Sub.refl _ | refine sub_del rfl ?_ | refine sub_insL_nil ?_) ⟨hlt, by rw [hnew]; exact hRz, q1x, hbw⟩ (by simp only; omega)
          ·
            have hsk : ¬skipW c b x = true := by rw [hskd, decide_eq_false h1, Bool.and_false, Bool.false_or, List.isEmpty_iff]; exact hem
            have hcl := cutW_len hinv hsk
            rw [← el] at hcl
            have hnew : refW c (x + 1) = insL_ (cutW c b x) l := by rw [hsucc, stepW, if_neg hsk, el]
            refine EL.valg rfl rfl (x_eql rfl rfl (decide_eq_false (fun h => hem (List.eq_nil_of_length_eq_zero (by omega))))) rfl ?_
            refine EL.val (x_pick_f rfl rfl) rfl ?_
            refine EL.nil ?_
            refine EX.seq ?_
            refine EC.no rfl ?_
            refine EC.skip ?_
            refine EX.seq ?_
            refine EC.seq ?_
            refine EC.seq ?_
            refine EC.region ?_
            refine EL.val (x_move rfl) rfl ?_
            refine EL.val (ln_41 rfl) rfl ?_
            refine EL.val (x_gtr rfl rfl (decide_eq_true (show (0 : Int) < ((b.length : Nat) : Int) by omega))) rfl ?_
            refine EL.val (x_move rfl) rfl ?_
            refine EL.valg rfl rfl (x_move rfl) rfl ?_
            refine EL.valg rfl rfl (ln_26 rfl) rfl ?_
            refine EL.valg rfl rfl (x_move rfl) rfl ?_
            refine EL.valg rfl rfl (ix_41 (k := 0) rfl rfl hb0) rfl ?_
            refine EL.valg rfl rfl (ld_26 rfl (below_load hbr hcell0)) rfl ?_
            refine EL.valg rfl rfl (ln_26 rfl) rfl ?_
            by_cases h2 : l.length < (b.getD 0 []).length
            ·
              have hcu : cutW c b x = [] := by rw [hcud, decide_eq_true hb0, decide_eq_true h2]; rfl
              rw [hcu] at hnew hcl
              refine EL.valg rfl rfl (x_lss rfl rfl (decide_eq_true (show ((l.length : Nat) : Int) < (((b.getD 0 []).length : Nat) : Int) by omega))) rfl ?_
              refine EL.val (x_pick_t rfl rfl) rfl ?_
              refine EL.nil ?_
              refine EX.seq ?_
              refine EC.yes rfl ?_
              refine EC.region ?_
              refine EL.newS (bs_41_0) rfl ?_
              intro g6 w6 q6 hb6 hg6 hl6
              have n1_6 : g1 ≠ g6 := Nat.ne_of_lt (Nat.lt_of_lt_of_le q1x.lt hg6)
              have n5_6 : g5 ≠ g6 := Nat.ne_of_lt (Nat.lt_of_lt_of_le q5.lt hg6)
              have bhbw_6 := Nat.le_trans hbw.size hg6
              have bhbr_6 := Nat.le_trans hbr.size hg6
              have hge6 : wr.heap.size ≤ g6 := Nat.le_trans hbr.size hg6
              replace q1x := q1x.below hb6 q1x.lt
              replace q5 := q5.below hb6 q5.lt
              replace hol := own_below hol hb6 (Nat.le_refl _)
              replace hbw := Below.on hbw hb6 hbw.size
              replace hbr := Below.on hbr hb6 hbr.size
              clear hb6 hg6 hl6
              refine EL.val (x_assign rfl) rfl ?_
              refine EL.nil ?_
              refine EX.seq ?_
              refine EC.seq ?_
              refine EC.region ?_
              refine EL.val (x_assign rfl) rfl ?_
              refine EL.nil ?_
              refine EX.seq ?_
              refine EC.seq ?_
              refine EC.block ?_
              have hR7 : OwnLL w6 w.heap.size (.slice (some ⟨g6, 0, none⟩) ([] : List (List Int)).length 0) [] [] := OwnLL.nil q6 (Nat.le_trans hszr hge6)
              obtain ⟨b7, eb7⟩ : ∃ z, z = ([] : List (List Int)) := ⟨_, rfl⟩
              obtain ⟨f7, ef7⟩ : ∃ z, z = ([] : List Value) := ⟨_, rfl⟩
              rw [← eb7] at hnew hcl
              have hb7len : b7.length ≤ 1024 := by rw [eb7]; simp
              have hR7 : OwnLL w6 w.heap.size (.slice (some ⟨g6, 0, none⟩) b7.length 0) b7 f7 := by rw [eb7, ef7]; exact hR7
              have hb7 := Below.refl w6.heap.size w6
              have hl7 := hol
              have hsz7 : w.heap.size ≤ w6.heap.size := hbw.size
              have hcap := own_cap hR7.own
              have el3 : (Value.slice (some ⟨g6, 0, none⟩) ([] : List (List Int)).length 0) = .slice (some ⟨g6, 0, none⟩) b7.length 0 := by rw [eb7]
              refine EC.loopD [3, 7, 70, 71, 72, 73, 74, 75, 76, 77, 78, 79, 80, 81, 82, 83] (fun y : Nat => [(3, .slice (some ⟨g6, 0, none⟩) b7.length 0), (7, .int .i64 (y : Nat))]) (fun y W => y ≤ b7.length ∧ (∀ j, j < y → lessL (b7.getD j []) l = true) ∧ Blk W g1 25 #[.int .i64 c.events, .slice Ac c.clocks.length cc_, .slice Al c.clues.length cl_] ∧ Below w.heap.size w W ∧ Below w6.heap.size w6 W) (fun y => b7.length - y) 0 ⟨Nat.zero_le _, fun j hj => absurd hj (Nat.not_lt_zero _), q1x, hbw, hb7⟩ ⟨by first | exact congrArg some el3 | (show some _ = some _; rw [el3]), rfl, trivial⟩ ?_
              clear q1x hbw hb7
              rintro k wj ⟨hk, hle, q1x, hbw, hb7⟩
              by_cases hkl : k < b7.length
              ·
                obtain ⟨bB, oB, e9_, _, hck⟩ := rdll_cell hR7.rd k hkl
                injection e9_ with e9_
                injection e9_ with k1_ k2_ _
                subst k1_
                subst k2_
                have hrk := hR7.row k hkl
                have hlk : (b7.getD k []).length = l.length := hcl _ (by rw [show b7.getD k [] = b7[k] by simp [List.getD, hkl]]; exact List.getElem_mem hkl)
                obtain ⟨Ak, ck, e8_, _⟩ := (Rd.of_own hrk).shape
                rw [e8_] at hck hrk
                refine EC.seq ?_
                refine EC.seq ?_
                refine EC.region ?_
                refine EL.val (x_move rfl) rfl ?_
                refine EL.val (x_move rfl) rfl ?_
                refine EL.val (ln_41 rfl) rfl ?_
                refine EL.val (x_lss rfl rfl (decide_eq_true (show (((k : Nat) : Int) < ((b7.length : Nat) : Int)) by omega))) rfl ?_
                refine EL.val (x_move rfl) rfl ?_
                refine EL.valg rfl rfl (x_move rfl) rfl ?_
                refine EL.valg rfl rfl (x_move rfl) rfl ?_
                refine EL.valg rfl rfl (ix_41 rfl rfl hkl) rfl ?_
                refine EL.valg rfl rfl (ld_26 rfl (below_load hb7 hck)) rfl ?_
                refine EL.valg rfl rfl (x_move rfl) rfl ?_
                cases hls : lessL (b7.getD k []) l
                ·
                  have hat : k = atL l b7 := at_eq hk hle (.inr hls)
                  refine EL.callg rfl rfl (cl_61 rfl rfl) rfl (less_to hls _ _ _ w6.heap.size ((Rd.of_own hrk).below hb7) ((Rd.of_own hl7).below hb7) hlk (by omega)) ?_
                  rintro e w7 ⟨rfl, hc7⟩
                  refine ⟨_, rfl, ?_⟩
                  replace q1x := q1x.below hc7 q1x.lt
                  replace hbw := Below.on hbw hc7 hbw.size
                  replace hb7 := Below.on hb7 hc7 hb7.size
                  clear hc7
                  refine EL.val (x_pick_t rfl rfl) rfl ?_
                  refine EL.nil ?_
                  refine EX.seq ?_
                  refine EC.no rfl ?_
                  refine EC.exit ?_
                  refine EX.seq_exit ?_
                  refine EX.seq_exit ?_
                  refine EX.blk_here ?_
                  refine EX.seq ?_
                  refine EC.seq ?_
                  refine EC.region ?_
                  refine EL.newS (bs_41_0) rfl ?_
                  intro g8 w8 q8 hb8 hg8 hl8
                  have n1_8 : g1 ≠ g8 := Nat.ne_of_lt (Nat.lt_of_lt_of_le q1x.lt hg8)
                  have bhbw_8 := Nat.le_trans hbw.size hg8
                  have bhb7_8 := Nat.le_trans hb7.size hg8
                  have hge8 : w6.heap.size ≤ g8 := Nat.le_trans hb7.size hg8
                  replace q1x := q1x.below hb8 q1x.lt
                  replace hbw := Below.on hbw hb8 hbw.size
                  replace hb7 := Below.on hb7 hb8 hb7.size
                  clear hb8 hg8 hl8
                  refine EL.val (x_move rfl) rfl ?_
                  refine EL.val (x_move rfl) rfl ?_
                  refine EL.val (slh_41 rfl rfl (Nat.le_trans hk hcap)) rfl ?_
                  have hem7 := own_empty (base := w6.heap.size) 1 q8 hge8
                  refine EL.push row_elem rfl rfl hem7 (rd_takeV ((hR7.rd.rd).below hb7) hk) (fun u hu => hR7.oneCell u (List.mem_of_mem_take hu)) (by omega) rfl hb7.size rfl ?_
                  intro vm wm hom hgrm hbm _
                  rw [Nat.zero_add, List.nil_append] at hom
                  replace q1x := blk_grown q1x hem7 rfl hgrm
                  replace hbw := hbw.trans (hbm.mono hsz7)
                  replace hb7 := hb7.trans hbm
                  clear hem7
                  obtain ⟨AM, cM, eM, _⟩ := (Rd.of_own hom).shape
                  subst eM
                  refine EL.val (x_assign rfl) rfl ?_
                  refine EL.nil ?_
                  refine EX.seq ?_
                  have hW := below_row hom (w1 := wm) ⟨rfl, rfl, rfl, Nat.le_refl _, fun _ _ _ => rfl⟩ hb7.size
                  clear hW
                  have lt_1 := q1x.lt
                  refine EC.regionS [[], [], [1], [0, 1, 2], [], [], [4, 5], [0, 1, 2, 3, 4, 5, 6], [0, 1, 2, 3, 4, 5, 6, 7]] 7 [] [3] (fun fl w_ => wm.grownBy w_ ((.slice AM k cM) : Value).ownBlock ∧ (fl 3 = false → w_.ownsRow w6.heap.size 26 1 (.slice AM k cM) k (f7.take k))) (phiS (fun i_ r => match i_ with | 0 => r 0 = .slice AM k cM | 1 => r 1 = .slice AL l.length cL | 4 => r 4 = .slice (some ⟨g6, 0, none⟩) b7.length 0 | 5 => r 5 = .int .i64 (k : Nat) | 6 => r 6 = .slice (some ⟨g6, (if 0 = k then 0 else 0 + k), none⟩) (b7.length - k) (0 - k) | _ => True) [(2, fun fl r w_ => fl 3 = false → (∃ g_, r 2 = .slice (some ⟨g_, 0, none⟩) 1 1 ∧ Blk w_ g_ 26 #[.slice AL l.length cL] ∧ wm.heap.size ≤ g_)), (3, fun _ r w_ => w_.ownsRow w6.heap.size 26 1 (r 3) (k + 1) ((f7.take k) ++ [.slice AL l.length cL]) ∧ ∀ b, (r 3).ownBlock = some b → ((.slice AM k cM) : Value).ownBlock = some b ∨ wm.heap.size ≤ b)]) (by kernel_rfl) rfl rfl (by intro i hi; simp at hi; subst hi; exact ⟨by simp, by omega⟩) (base_row hom) (phiS_cons (monoS_till mono_bs) (phiS_cons (monoS_row (e := 3) (C := fun u_ => ∀ b, u_.ownBlock = some b → ((.slice AM k cM) : Value).ownBlock = some b ∨ wm.heap.size ≤ b)) (phiS_nil))) (fun i_ hi_ hs_ => ?_) (fun i_ hi_ => ?_) ?_
                  · match i_, hi_ with
                    | 0, _ =>
                      intro val fl w1 a hb ha hd hfl
                      obtain ⟨hgb, hg0⟩ := hb
                      have hb := below_row hom hgb hb7.size
                      have ha := ha.sub (Sub.ins (d := 8) (Sub.nil _) rfl)
                      exact ss_val ha rfl rfl (x_move rfl) rfl rfl
                    | 1, _ =>
                      intro val fl w1 a hb ha hd hfl
                      obtain ⟨hgb, hg0⟩ := hb
                      have hb := below_row hom hgb hb7.size
                      have ha := ha.sub (Sub.ins (d := 5) (Sub.nil _) rfl)
                      exact ss_val ha rfl rfl (x_move rfl) rfl rfl
                    | 2, _ =>
                      intro val fl w1 a hb ha hd hfl
                      obtain ⟨hgb, hg0⟩ := hb
                      have hb := below_row hom hgb hb7.size
                      have e1 : val 1 = .slice AL l.length cL := hd 1 (memB_mem.1 rfl)
                      have ha := ha.sub (Sub.ins (d := 90) (Sub.nil _) (dep_get rfl e1))
                      exact ss_newS ha rfl rfl (bs_41_1 rfl) rfl (fun g w' hq _ hge => fun _ => ⟨g, rfl, hq, Nat.le_trans hgb.size hge⟩)
                    | 3, _ =>
                      exact absurd (by simp) hs_
                    | 4, _ =>
                      intro val fl w1 a hb ha hd hfl
                      obtain ⟨hgb, hg0⟩ := hb
                      have hb := below_row hom hgb hb7.size
                      have ha := ha.sub (Sub.ins (d := 3) (Sub.nil _) rfl)
                      exact ss_val ha rfl rfl (x_move rfl) rfl rfl
                    | 5, _ =>
                      intro val fl w1 a hb ha hd hfl
                      obtain ⟨hgb, hg0⟩ := hb
                      have hb := below_row hom hgb hb7.size
                      have ha := ha.sub (Sub.ins (d := 7) (Sub.nil _) rfl)
                      exact ss_val ha rfl rfl (x_move rfl) rfl rfl
                    | 6, _ =>
                      intro val fl w1 a hb ha hd hfl
                      obtain ⟨hgb, hg0⟩ := hb
                      have hb := below_row hom hgb hb7.size
                      have e4 : val 4 = .slice (some ⟨g6, 0, none⟩) b7.length 0 := hd 4 (memB_mem.1 rfl)
                      have e5 : val 5 = .int .i64 (k : Nat) := hd 5 (memB_mem.1 rfl)
                      have ha := ha.sub (Sub.ins (d := 94) (Sub.ins (d := 93) (Sub.nil _) (dep_get rfl e4)) (dep_get rfl e5))
                      exact ss_val ha rfl rfl (sll_41 rfl rfl hk rfl) rfl rfl
                    | k + 7, h => exact absurd h (by omega)
                  · simp only [List.mem_singleton] at hi_; subst hi_
                    intro val fl w1 a hb hfi ha hd hfl
                    obtain ⟨hgb, hg0⟩ := hb
                    have hb := below_row hom hgb hb7.size
                    have e0 : val 0 = .slice AM k cM := hd 0 (memB_mem.1 rfl)
                    obtain ⟨g2_, e2, q2_, h2_⟩ := hd 2 (memB_mem.1 rfl) hfi
                    change val 2 = _ at e2
                    have ha := ha.sub (Sub.ins (d := 91) (Sub.ins (d := 89) (Sub.nil _) (dep_get rfl e0)) (dep_get rfl e2))
                    refine ts_push row_elem ha rfl rfl rfl (hg0 hfi) (rd_one (l := [.slice AL l.length cL]) q2_ rfl) (by intro u hu; rw [List.mem_singleton.1 hu]; rfl) (by omega) rfl (Nat.le_trans hb7.size hgb.size) ?_
                    intro v' w' ho' hgr hat
                    refine ⟨v', rfl, hgr.size, ⟨grown_three hgb hgr, fun h => by rw [fset_eq] at h; cases h⟩, ⟨ho', fun b hb' => ?_⟩, fun j _ hj hn hA => ?_⟩
                    · rcases hat with h | h
                      · exact .inl (h ▸ hb')
                      · refine .inr ?_
                        change v'.ownBlock = some b at hb'
                        rw [h] at hb'
                        injection hb' with hb'
                        have := hgb.size
                        omega
                    · exact phiS_cons_st (C := fun j => j ≠ 3 ∧ 3 ∉ clsAt [[], [], [1], [0, 1, 2], [], [], [4, 5], [0, 1, 2, 3, 4, 5, 6], [0, 1, 2, 3, 4, 5, 6, 7]] j) (fun _ _ h => by rw [fset_eq] at h; cases h) (phiS_cons_st (C := fun j => j ≠ 3 ∧ 3 ∉ clsAt [[], [], [1], [0, 1, 2], [], [], [4, 5], [0, 1, 2, 3, 4, 5, 6], [0, 1, 2, 3, 4, 5, 6, 7]] j) (fun hc => absurd rfl hc.1) (fun _ _ h => h)) j ⟨hj, hn⟩
                  · intro val fl w' hfl hb halc hd
                    obtain ⟨hgb, _⟩ := hb
                    have hb := below_row hom hgb hb7.size
                    have e0 : val 0 = .slice AM k cM := hd 0 (by omega)
                    have e1 : val 1 = .slice AL l.length cL := hd 1 (by omega)
                    obtain ⟨ho3, hn3⟩ := hd 3 (by omega)
                    change w'.ownsRow _ _ _ (val 3) _ _ at ho3
                    have e4 : val 4 = .slice (some ⟨g6, 0, none⟩) b7.length 0 := hd 4 (by omega)
                    have e5 : val 5 = .int .i64 (k : Nat) := hd 5 (by omega)
                    have e6 : val 6 = .slice (some ⟨g6, (if 0 = k then 0 else 0 + k), none⟩) (b7.length - k) (0 - k) := hd 6 (by omega)
                    refine EL.ends (cs := [.slice AM k cM, .slice AL l.length cL, val 2, val 3, .slice (some ⟨g6, 0, none⟩) b7.length 0, .int .i64 (k : Nat), .slice (some ⟨g6, (if 0 = k then 0 else 0 + k), none⟩) (b7.length - k) (0 - k)]) ⟨e0, e1, rfl, rfl, e4, e5, e6, trivial⟩ rfl ?_
                    replace q1x := blk_grown q1x hom rfl hgb
                    replace hbw := hbw.trans (hb.mono hsz7)
                    replace hb7 := hb7.trans (hb.mono (Nat.le_refl _))
                    have hv3 := (Rd.of_own ho3).shape
                    obtain ⟨A3_, c3_, e33, _⟩ := hv3
                    refine EL.push row_elem rfl rfl ho3 (rd_dropV ((hR7.rd.rd).below hb7) hk) (fun u hu => hR7.oneCell u (List.mem_of_mem_drop hu)) (by omega) rfl hb7.size rfl ?_
                    intro vn wn hon hgrn hbn _
                    replace q1x := blk_grown q1x ho3 rfl hgrn
                    replace hbw := hbw.trans (hbn.mono hsz7)
                    replace hb7 := hb7.trans hbn
                    have hRN := hR7.ins (own_less hl7 (Nat.zero_le _)) hb7 hk (own_less hon hsz7)
                    rw [hat] at hRN
                    obtain ⟨AN, cN, eN, _⟩ := (Rd.of_own hRN.own).shape
                    subst eN
                    obtain ⟨gN, eAN⟩ := own_slice hRN.own (by rw [List.length_append, List.length_append, List.length_singleton]; omega)
                    subst eAN
                    refine EL.val (x_assign rfl) rfl ?_
                    refine EL.nil ?_
                    refine EX.blk ?_
                    refine EX.seq ?_
                    refine EC.region ?_
                    refine EL.val (x_move rfl) rfl ?_
                    refine EL.val (x_add rfl rfl (c := ((x + 1 : Nat) : Int)) ((IntWalk.i64_in _ ⟨by first | omega | (simp only; omega), by first | omega | (simp only; omega)⟩).trans (by first | omega | (simp only; omega)))) rfl ?_
                    refine EL.val (x_assign rfl) rfl ?_
                    refine EL.nil ?_
                    refine EX.roundD (x + 1, gN, cN, _) ⟨by rw [hnew]; rfl, rfl, trivial⟩ (by repeat first | with_reducible exact Sub.refl _ | refine sub_past rfl ?_ | exact Sub.refl _ | refine sub_del rfl ?_ | refine sub_insL_nil ?_) ⟨hlt, by rw [hnew]; exact hRN, q1x, hbw⟩ (by simp only; omega)
                ·
                  refine EL.callg rfl rfl (cl_61 rfl rfl) rfl (less_to hls _ _ _ w6.heap.size ((Rd.of_own hrk).below hb7) ((Rd.of_own hl7).below hb7) hlk (by omega)) ?_
                  rintro e w9 ⟨rfl, hc9⟩
                  refine ⟨_, rfl, ?_⟩
                  replace q1x := q1x.below hc9 q1x.lt
                  replace hbw := Below.on hbw hc9 hbw.size
                  replace hb7 := Below.on hb7 hc9 hb7.size
                  clear hc9
                  refine EL.val (x_pick_t rfl rfl) rfl ?_
                  refine EL.nil ?_
                  refine EX.seq ?_
                  refine EC.yes rfl ?_
                  refine EC.skip ?_
                  refine EX.seq ?_
                  refine EC.block ?_
                  refine EC.region ?_
                  refine EL.val (x_move rfl) rfl ?_
                  refine EL.val (x_add rfl rfl (c := ((k + 1 : Nat) : Int)) ((IntWalk.i64_in _ ⟨by first | omega | (simp only; omega), by first | omega | (simp only; omega)⟩).trans (by first | omega | (simp only; omega)))) rfl ?_
                  refine EL.val (x_assign rfl) rfl ?_
                  refine EL.nil ?_
                  refine EX.blk ?_
                  refine EX.roundD (k + 1) ⟨rfl, rfl, trivial⟩ (by repeat first | with_reducible exact Sub.refl _ | refine sub_past rfl ?_ | exact Sub.refl _ | refine sub_del rfl ?_ | refine sub_insL_nil ?_) ⟨hkl, fun j hj => by by_cases e : j < k; (exact hle j e); (rw [show j = k by omega]; exact hls), q1x, hbw, hb7⟩ (by omega)
              ·
                have hkb : k = b7.length := by omega
                have hat : k = atL l b7 := at_eq hk hle (.inl hkb)
                refine EC.seq ?_
                refine EC.seq ?_
                refine EC.region ?_
                refine EL.val (x_move rfl) rfl ?_
                refine EL.val (x_move rfl) rfl ?_
                refine EL.val (ln_41 rfl) rfl ?_
                refine EL.val (x_lss rfl rfl (decide_eq_false (show ¬(((k : Nat) : Int) < ((b7.length : Nat) : Int)) by omega))) rfl ?_
                refine EL.val (x_move rfl) rfl ?_
                refine EL.skip rfl rfl rfl rfl ?_
                refine EL.skip rfl rfl rfl rfl ?_
                refine EL.skip rfl rfl rfl rfl ?_
                refine EL.skip rfl rfl rfl rfl ?_
                refine EL.skip rfl rfl rfl rfl ?_
                refine EL.skip rfl rfl rfl rfl ?_
                refine EL.val (x_pick_f rfl rfl) rfl ?_
                refine EL.nil ?_
                refine EX.seq ?_
                refine EC.no rfl ?_
                refine EC.exit ?_
                refine EX.seq_exit ?_
                refine EX.seq_exit ?_
                refine EX.blk_here ?_
                refine EX.seq ?_
                refine EC.seq ?_
                refine EC.region ?_
                refine EL.newS (bs_41_0) rfl ?_
                intro g10 w10 q10 hb10 hg10 hl10
                have n1_10 : g1 ≠ g10 := Nat.ne_of_lt (Nat.lt_of_lt_of_le q1x.lt hg10)
                have bhbw_10 := Nat.le_trans hbw.size hg10
                have bhb7_10 := Nat.le_trans hb7.size hg10
                have hge10 : w6.heap.size ≤ g10 := Nat.le_trans hb7.size hg10
                replace q1x := q1x.below hb10 q1x.lt
                replace hbw := Below.on hbw hb10 hbw.size
                replace hb7 := Below.on hb7 hb10 hb7.size
                clear hb10 hg10 hl10
                refine EL.val (x_move rfl) rfl ?_
                refine EL.val (x_move rfl) rfl ?_
                refine EL.val (slh_41 rfl rfl (Nat.le_trans hk hcap)) rfl ?_
                have hem7 := own_empty (base := w6.heap.size) 1 q10 hge10
                refine EL.push row_elem rfl rfl hem7 (rd_takeV ((hR7.rd.rd).below hb7) hk) (fun u hu => hR7.oneCell u (List.mem_of_mem_take hu)) (by omega) rfl hb7.size rfl ?_
                intro vm wm hom hgrm hbm _
                rw [Nat.zero_add, List.nil_append] at hom
                replace q1x := blk_grown q1x hem7 rfl hgrm
                replace hbw := hbw.trans (hbm.mono hsz7)
                replace hb7 := hb7.trans hbm
                clear hem7
                obtain ⟨AM, cM, eM, _⟩ := (Rd.of_own hom).shape
                subst eM
                refine EL.val (x_assign rfl) rfl ?_
                refine EL.nil ?_
                refine EX.seq ?_
                have hW := below_row hom (w1 := wm) ⟨rfl, rfl, rfl, Nat.le_refl _, fun _ _ _ => rfl⟩ hb7.size
                clear hW
                have lt_1 := q1x.lt
                refine EC.regionS [[], [], [1], [0, 1, 2], [], [], [4, 5], [0, 1, 2, 3, 4, 5, 6], [0, 1, 2, 3, 4, 5, 6, 7]] 7 [] [3] (fun fl w_ => wm.grownBy w_ ((.slice AM k cM) : Value).ownBlock ∧ (fl 3 = false → w_.ownsRow w6.heap.size 26 1 (.slice AM k cM) k (f7.take k))) (phiS (fun i_ r => match i_ with | 0 => r 0 = .slice AM k cM | 1 => r 1 = .slice AL l.length cL | 4 => r 4 = .slice (some ⟨g6, 0, none⟩) b7.length 0 | 5 => r 5 = .int .i64 (k : Nat) | 6 => r 6 = .slice (some ⟨g6, (if 0 = k then 0 else 0 + k), none⟩) (b7.length - k) (0 - k) | _ => True) [(2, fun fl r w_ => fl 3 = false → (∃ g_, r 2 = .slice (some ⟨g_, 0, none⟩) 1 1 ∧ Blk w_ g_ 26 #[.slice AL l.length cL] ∧ wm.heap.size ≤ g_)), (3, fun _ r w_ => w_.ownsRow w6.heap.size 26 1 (r 3) (k + 1) ((f7.take k) ++ [.slice AL l.length cL]) ∧ ∀ b, (r 3).ownBlock = some b → ((.slice AM k cM) : Value).ownBlock = some b ∨ wm.heap.size ≤ b)]) (by kernel_rfl) rfl rfl (by intro i hi; simp at hi; subst hi; exact ⟨by simp, by omega⟩) (base_row hom) (phiS_cons (monoS_till mono_bs) (phiS_cons (monoS_row (e := 3) (C := fun u_ => ∀ b, u_.ownBlock = some b → ((.slice AM k cM) : Value).ownBlock = some b ∨ wm.heap.size ≤ b)) (phiS_nil))) (fun i_ hi_ hs_ => ?_) (fun i_ hi_ => ?_) ?_
                · match i_, hi_ with
                  | 0, _ =>
                    intro val fl w1 a hb ha hd hfl
                    obtain ⟨hgb, hg0⟩ := hb
                    have hb := below_row hom hgb hb7.size
                    have ha := ha.sub (Sub.ins (d := 8) (Sub.nil _) rfl)
                    exact ss_val ha rfl rfl (x_move rfl) rfl rfl
                  | 1, _ =>
                    intro val fl w1 a hb ha hd hfl
                    obtain ⟨hgb, hg0⟩ := hb
                    have hb := below_row hom hgb hb7.size
                    have ha := ha.sub (Sub.ins (d := 5) (Sub.nil _) rfl)
                    exact ss_val ha rfl rfl (x_move rfl) rfl rfl
                  | 2, _ =>
                    intro val fl w1 a hb ha hd hfl
                    obtain ⟨hgb, hg0⟩ := hb
                    have hb := below_row hom hgb hb7.size
                    have e1 : val 1 = .slice AL l.length cL := hd 1 (memB_mem.1 rfl)
                    have ha := ha.sub (Sub.ins (d := 90) (Sub.nil _) (dep_get rfl e1))
                    exact ss_newS ha rfl rfl (bs_41_1 rfl) rfl (fun g w' hq _ hge => fun _ => ⟨g, rfl, hq, Nat.le_trans hgb.size hge⟩)
                  | 3, _ =>
                    exact absurd (by simp) hs_
                  | 4, _ =>
                    intro val fl w1 a hb ha hd hfl
                    obtain ⟨hgb, hg0⟩ := hb
                    have hb := below_row hom hgb hb7.size
                    have ha := ha.sub (Sub.ins (d := 3) (Sub.nil _) rfl)
                    exact ss_val ha rfl rfl (x_move rfl) rfl rfl
                  | 5, _ =>
                    intro val fl w1 a hb ha hd hfl
                    obtain ⟨hgb, hg0⟩ := hb
                    have hb := below_row hom hgb hb7.size
                    have ha := ha.sub (Sub.ins (d := 7) (Sub.nil _) rfl)
                    exact ss_val ha rfl rfl (x_move rfl) rfl rfl
                  | 6, _ =>
                    intro val fl w1 a hb ha hd hfl
                    obtain ⟨hgb, hg0⟩ := hb
                    have hb := below_row hom hgb hb7.size
                    have e4 : val 4 = .slice (some ⟨g6, 0, none⟩) b7.length 0 := hd 4 (memB_mem.1 rfl)
                    have e5 : val 5 = .int .i64 (k : Nat) := hd 5 (memB_mem.1 rfl)
                    have ha := ha.sub (Sub.ins (d := 94) (Sub.ins (d := 93) (Sub.nil _) (dep_get rfl e4)) (dep_get rfl e5))
                    exact ss_val ha rfl rfl (sll_41 rfl rfl hk rfl) rfl rfl
                  | k + 7, h => exact absurd h (by omega)
                · simp only [List.mem_singleton] at hi_; subst hi_
                  intro val fl w1 a hb hfi ha hd hfl
                  obtain ⟨hgb, hg0⟩ := hb
                  have hb := below_row hom hgb hb7.size
                  have e0 : val 0 = .slice AM k cM := hd 0 (memB_mem.1 rfl)
                  obtain ⟨g2_, e2, q2_, h2_⟩ := hd 2 (memB_mem.1 rfl) hfi
                  change val 2 = _ at e2
                  have ha := ha.sub (Sub.ins (d := 91) (Sub.ins (d := 89) (Sub.nil _) (dep_get rfl e0)) (dep_get rfl e2))
                  refine ts_push row_elem ha rfl rfl rfl (hg0 hfi) (rd_one (l := [.slice AL l.length cL]) q2_ rfl) (by intro u hu; rw [List.mem_singleton.1 hu]; rfl) (by omega) rfl (Nat.le_trans hb7.size hgb.size) ?_
                  intro v' w' ho' hgr hat
                  refine ⟨v', rfl, hgr.size, ⟨grown_three hgb hgr, fun h => by rw [fset_eq] at h; cases h⟩, ⟨ho', fun b hb' => ?_⟩, fun j _ hj hn hA => ?_⟩
                  · rcases hat with h | h
                    · exact .inl (h ▸ hb')
                    · refine .inr ?_
                      change v'.ownBlock = some b at hb'
                      rw [h] at hb'
                      injection hb' with hb'
                      have := hgb.size
                      omega
                  · exact phiS_cons_st (C := fun j => j ≠ 3 ∧ 3 ∉ clsAt [[], [], [1], [0, 1, 2], [], [], [4, 5], [0, 1, 2, 3, 4, 5, 6], [0, 1, 2, 3, 4, 5, 6, 7]] j) (fun _ _ h => by rw [fset_eq] at h; cases h) (phiS_cons_st (C := fun j => j ≠ 3 ∧ 3 ∉ clsAt [[], [], [1], [0, 1, 2], [], [], [4, 5], [0, 1, 2, 3, 4, 5, 6], [0, 1, 2, 3, 4, 5, 6, 7]] j) (fun hc => absurd rfl hc.1) (fun _ _ h => h)) j ⟨hj, hn⟩
                · intro val fl w' hfl hb halc hd
                  obtain ⟨hgb, _⟩ := hb
                  have hb := below_row hom hgb hb7.size
                  have e0 : val 0 = .slice AM k cM := hd 0 (by omega)
                  have e1 : val 1 = .slice AL l.length cL := hd 1 (by omega)
                  obtain ⟨ho3, hn3⟩ := hd 3 (by omega)
                  change w'.ownsRow _ _ _ (val 3) _ _ at ho3
                  have e4 : val 4 = .slice (some ⟨g6, 0, none⟩) b7.length 0 := hd 4 (by omega)
                  have e5 : val 5 = .int .i64 (k : Nat) := hd 5 (by omega)
                  have e6 : val 6 = .slice (some ⟨g6, (if 0 = k then 0 else 0 + k), none⟩) (b7.length - k) (0 - k) := hd 6 (by omega)
                  refine EL.ends (cs := [.slice AM k cM, .slice AL l.length cL, val 2, val 3, .slice (some ⟨g6, 0, none⟩) b7.length 0, .int .i64 (k : Nat), .slice (some ⟨g6, (if 0 = k then 0 else 0 + k), none⟩) (b7.length - k) (0 - k)]) ⟨e0, e1, rfl, rfl, e4, e5, e6, trivial⟩ rfl ?_
                  replace q1x := blk_grown q1x hom rfl hgb
                  replace hbw := hbw.trans (hb.mono hsz7)
                  replace hb7 := hb7.trans (hb.mono (Nat.le_refl _))
                  have hv3 := (Rd.of_own ho3).shape
                  obtain ⟨A3_, c3_, e33, _⟩ := hv3
                  refine EL.push row_elem rfl rfl ho3 (rd_dropV ((hR7.rd.rd).below hb7) hk) (fun u hu => hR7.oneCell u (List.mem_of_mem_drop hu)) (by omega) rfl hb7.size rfl ?_
                  intro vn wn hon hgrn hbn _
                  replace q1x := blk_grown q1x ho3 rfl hgrn
                  replace hbw := hbw.trans (hbn.mono hsz7)
                  replace hb7 := hb7.trans hbn
                  have hRN := hR7.ins (own_less hl7 (Nat.zero_le _)) hb7 hk (own_less hon hsz7)
                  rw [hat] at hRN
                  obtain ⟨AN, cN, eN, _⟩ := (Rd.of_own hRN.own).shape
                  subst eN
                  obtain ⟨gN, eAN⟩ := own_slice hRN.own (by rw [List.length_append, List.length_append, List.length_singleton]; omega)
                  subst eAN
                  refine EL.val (x_assign rfl) rfl ?_
                  refine EL.nil ?_
                  refine EX.blk ?_
                  refine EX.seq ?_
                  refine EC.region ?_
                  refine EL.val (x_move rfl) rfl ?_
                  refine EL.val (x_add rfl rfl (c := ((x + 1 : Nat) : Int)) ((IntWalk.i64_in _ ⟨by first | omega | (simp only; omega), by first | omega | (simp only; omega)⟩).trans (by first | omega | (simp only; omega)))) rfl ?_
                  refine EL.val (x_assign rfl) rfl ?_
                  refine EL.nil ?_
                  refine EX.roundD (x + 1, gN, cN, _) ⟨by rw [hnew]; rfl, rfl, trivial⟩ (by repeat first | with_reducible exact Sub.refl _ | refine sub_past rfl ?_ | exact Sub.refl _ | refine sub_del rfl ?_ | refine sub_insL_nil ?_) ⟨hlt, by rw [hnew]; exact hRN, q1x, hbw⟩ (by simp only; omega)
            ·
              have hcu : cutW c b x = b := by rw [hcud, decide_eq_false h2, Bool.and_false]; rfl
              rw [hcu] at hnew hcl
              refine EL.valg rfl rfl (x_lss rfl rfl (decide_eq_false (show ¬((l.length : Nat) : Int) < (((b.getD 0 []).length : Nat) : Int) by omega))) rfl ?_
              refine EL.val (x_pick_t rfl rfl) rfl ?_
              refine EL.nil ?_
              refine EX.seq ?_
              refine EC.no rfl ?_
              refine EC.skip ?_
              refine EX.seq ?_
              refine EC.seq ?_
              refine EC.region ?_
              refine EL.val (x_assign rfl) rfl ?_
              refine EL.nil ?_
              refine EX.seq ?_
              refine EC.seq ?_
              refine EC.block ?_
              have hR7 := hR.below hbr
              obtain ⟨b7, eb7⟩ : ∃ z, z = b := ⟨_, rfl⟩
              obtain ⟨f7, ef7⟩ : ∃ z, z = fs := ⟨_, rfl⟩
              rw [← eb7] at hnew hcl
              have hb7len : b7.length ≤ 1024 := by rw [eb7]; omega
              have hR7 : OwnLL w9 w.heap.size (.slice (some ⟨gb, 0, none⟩) b7.length cb) b7 f7 := by rw [eb7, ef7]; exact hR7
              have hb7 := Below.refl w9.heap.size w9
              have hl7 := hol
              have hsz7 : w.heap.size ≤ w9.heap.size := hbw.size
              have hcap := own_cap hR7.own
              have el3 : (Value.slice (some ⟨gb, 0, none⟩) b.length cb) = .slice (some ⟨gb, 0, none⟩) b7.length cb := by rw [eb7]
              refine EC.loopD [3, 7, 70, 71, 72, 73, 74, 75, 76, 77, 78, 79, 80, 81, 82, 83] (fun y : Nat => [(3, .slice (some ⟨gb, 0, none⟩) b7.length cb), (7, .int .i64 (y : Nat))]) (fun y W => y ≤ b7.length ∧ (∀ j, j < y → lessL (b7.getD j []) l = true) ∧ Blk W g1 25 #[.int .i64 c.events, .slice Ac c.clocks.length cc_, .slice Al c.clues.length cl_] ∧ Below w.heap.size w W ∧ Below w9.heap.size w9 W) (fun y => b7.length - y) 0 ⟨Nat.zero_le _, fun j hj => absurd hj (Nat.not_lt_zero _), q1x, hbw, hb7⟩ ⟨by first | exact congrArg some el3 | (show some _ = some _; rw [el3]), rfl, trivial⟩ ?_
              clear q1x hbw hb7
              rintro k wj ⟨hk, hle, q1x, hbw, hb7⟩
              by_cases hkl : k < b7.length
              ·
                obtain ⟨bB, oB, e9_, _, hck⟩ := rdll_cell hR7.rd k hkl
                injection e9_ with e9_
                injection e9_ with k1_ k2_ _
                subst k1_
                subst k2_
                have hrk := hR7.row k hkl
                have hlk : (b7.getD k []).length = l.length := hcl _ (by rw [show b7.getD k [] = b7[k] by simp [List.getD, hkl]]; exact List.getElem_mem hkl)
                obtain ⟨Ak, ck, e8_, _⟩ := (Rd.of_own hrk).shape
                rw [e8_] at hck hrk
                refine EC.seq ?_
                refine EC.seq ?_
                refine EC.region ?_
                refine EL.val (x_move rfl) rfl ?_
                refine EL.val (x_move rfl) rfl ?_
                refine EL.val (ln_41 rfl) rfl ?_
                refine EL.val (x_lss rfl rfl (decide_eq_true (show (((k : Nat) : Int) < ((b7.length : Nat) : Int)) by omega))) rfl ?_
                refine EL.val (x_move rfl) rfl ?_
                refine EL.valg rfl rfl (x_move rfl) rfl ?_
                refine EL.valg rfl rfl (x_move rfl) rfl ?_
                refine EL.valg rfl rfl (ix_41 rfl rfl hkl) rfl ?_
                refine EL.valg rfl rfl (ld_26 rfl (below_load hb7 hck)) rfl ?_
                refine EL.valg rfl rfl (x_move rfl) rfl ?_
                cases hls : lessL (b7.getD k []) l
                ·
                  have hat : k = atL l b7 := at_eq hk hle (.inr hls)
                  refine EL.callg rfl rfl (cl_61 rfl rfl) rfl (less_to hls _ _ _ w9.heap.size ((Rd.of_own hrk).below hb7) ((Rd.of_own hl7).below hb7) hlk (by omega)) ?_
                  rintro e w11 ⟨rfl, hc11⟩
                  refine ⟨_, rfl, ?_⟩
                  replace q1x := q1x.below hc11 q1x.lt
                  replace hbw := Below.on hbw hc11 hbw.size
                  replace hb7 := Below.on hb7 hc11 hb7.size
                  clear hc11
                  refine EL.val (x_pick_t rfl rfl) rfl ?_
                  refine EL.nil ?_
                  refine EX.seq ?_
                  refine EC.no rfl ?_
                  refine EC.exit ?_
                  refine EX.seq_exit ?_
                  refine EX.seq_exit ?_
                  refine EX.blk_here ?_
                  refine EX.seq ?_
                  refine EC.seq ?_
                  refine EC.region ?_
                  refine EL.newS (bs_41_0) rfl ?_
                  intro g12 w12 q12 hb12 hg12 hl12
                  have n1_12 : g1 ≠ g12 := Nat.ne_of_lt (Nat.lt_of_lt_of_le q1x.lt hg12)
                  have bhbw_12 := Nat.le_trans hbw.size hg12
                  have bhb7_12 := Nat.le_trans hb7.size hg12
                  have hge12 : w9.heap.size ≤ g12 := Nat.le_trans hb7.size hg12
                  replace q1x := q1x.below hb12 q1x.lt
                  replace hbw := Below.on hbw hb12 hbw.size
                  replace hb7 := Below.on hb7 hb12 hb7.size
                  clear hb12 hg12 hl12
                  refine EL.val (x_move rfl) rfl ?_
                  refine EL.val (x_move rfl) rfl ?_
                  refine EL.val (slh_41 rfl rfl (Nat.le_trans hk hcap)) rfl ?_
                  have hem7 := own_empty (base := w9.heap.size) 1 q12 hge12
                  refine EL.push row_elem rfl rfl hem7 (rd_takeV ((hR7.rd.rd).below hb7) hk) (fun u hu => hR7.oneCell u (List.mem_of_mem_take hu)) (by omega) rfl hb7.size rfl ?_
                  intro vm wm hom hgrm hbm _
                  rw [Nat.zero_add, List.nil_append] at hom
                  replace q1x := blk_grown q1x hem7 rfl hgrm
                  replace hbw := hbw.trans (hbm.mono hsz7)
                  replace hb7 := hb7.trans hbm
                  clear hem7
                  obtain ⟨AM, cM, eM, _⟩ := (Rd.of_own hom).shape
                  subst eM
                  refine EL.val (x_assign rfl) rfl ?_
                  refine EL.nil ?_
                  refine EX.seq ?_
                  have hW := below_row hom (w1 := wm) ⟨rfl, rfl, rfl, Nat.le_refl _, fun _ _ _ => rfl⟩ hb7.size
                  clear hW
                  have lt_1 := q1x.lt
                  refine EC.regionS [[], [], [1], [0, 1, 2], [], [], [4, 5], [0, 1, 2, 3, 4, 5, 6], [0, 1, 2, 3, 4, 5, 6, 7]] 7 [] [3] (fun fl w_ => wm.grownBy w_ ((.slice AM k cM) : Value).ownBlock ∧ (fl 3 = false → w_.ownsRow w9.heap.size 26 1 (.slice AM k cM) k (f7.take k))) (phiS (fun i_ r => match i_ with | 0 => r 0 = .slice AM k cM | 1 => r 1 = .slice AL l.length cL | 4 => r 4 = .slice (some ⟨gb, 0, none⟩) b7.length cb | 5 => r 5 = .int .i64 (k : Nat) | 6 => r 6 = .slice (some ⟨gb, (if cb = k then 0 else 0 + k), none⟩) (b7.length - k) (cb - k) | _ => True) [(2, fun fl r w_ => fl 3 = false → (∃ g_, r 2 = .slice (some ⟨g_, 0, none⟩) 1 1 ∧ Blk w_ g_ 26 #[.slice AL l.length cL] ∧ wm.heap.size ≤ g_)), (3, fun _ r w_ => w_.ownsRow w9.heap.size 26 1 (r 3) (k + 1) ((f7.take k) ++ [.slice AL l.length cL]) ∧ ∀ b, (r 3).ownBlock = some b → ((.slice AM k cM) : Value).ownBlock = some b ∨ wm.heap.size ≤ b)]) (by kernel_rfl) rfl rfl (by intro i hi; simp at hi; subst hi; exact ⟨by simp, by omega⟩) (base_row hom) (phiS_cons (monoS_till mono_bs) (phiS_cons (monoS_row (e := 3) (C := fun u_ => ∀ b, u_.ownBlock = some b → ((.slice AM k cM) : Value).ownBlock = some b ∨ wm.heap.size ≤ b)) (phiS_nil))) (fun i_ hi_ hs_ => ?_) (fun i_ hi_ => ?_) ?_
                  · match i_, hi_ with
                    | 0, _ =>
                      intro val fl w1 a hb ha hd hfl
                      obtain ⟨hgb, hg0⟩ := hb
                      have hb := below_row hom hgb hb7.size
                      have ha := ha.sub (Sub.ins (d := 8) (Sub.nil _) rfl)
                      exact ss_val ha rfl rfl (x_move rfl) rfl rfl
                    | 1, _ =>
                      intro val fl w1 a hb ha hd hfl
                      obtain ⟨hgb, hg0⟩ := hb
                      have hb := below_row hom hgb hb7.size
                      have ha := ha.sub (Sub.ins (d := 5) (Sub.nil _) rfl)
                      exact ss_val ha rfl rfl (x_move rfl) rfl rfl
                    | 2, _ =>
                      intro val fl w1 a hb ha hd hfl
                      obtain ⟨hgb, hg0⟩ := hb
                      have hb := below_row hom hgb hb7.size
                      have e1 : val 1 = .slice AL l.length cL := hd 1 (memB_mem.1 rfl)
                      have ha := ha.sub (Sub.ins (d := 90) (Sub.nil _) (dep_get rfl e1))
                      exact ss_newS ha rfl rfl (bs_41_1 rfl) rfl (fun g w' hq _ hge => fun _ => ⟨g, rfl, hq, Nat.le_trans hgb.size hge⟩)
                    | 3, _ =>
                      exact absurd (by simp) hs_
                    | 4, _ =>
                      intro val fl w1 a hb ha hd hfl
                      obtain ⟨hgb, hg0⟩ := hb
                      have hb := below_row hom hgb hb7.size
                      have ha := ha.sub (Sub.ins (d := 3) (Sub.nil _) rfl)
                      exact ss_val ha rfl rfl (x_move rfl) rfl rfl
                    | 5, _ =>
                      intro val fl w1 a hb ha hd hfl
                      obtain ⟨hgb, hg0⟩ := hb
                      have hb := below_row hom hgb hb7.size
                      have ha := ha.sub (Sub.ins (d := 7) (Sub.nil _) rfl)
                      exact ss_val ha rfl rfl (x_move rfl) rfl rfl
                    | 6, _ =>
                      intro val fl w1 a hb ha hd hfl
                      obtain ⟨hgb, hg0⟩ := hb
                      have hb := below_row hom hgb hb7.size
                      have e4 : val 4 = .slice (some ⟨gb, 0, none⟩) b7.length cb := hd 4 (memB_mem.1 rfl)
                      have e5 : val 5 = .int .i64 (k : Nat) := hd 5 (memB_mem.1 rfl)
                      have ha := ha.sub (Sub.ins (d := 94) (Sub.ins (d := 93) (Sub.nil _) (dep_get rfl e4)) (dep_get rfl e5))
                      exact ss_val ha rfl rfl (sll_41 rfl rfl hk rfl) rfl rfl
                    | k + 7, h => exact absurd h (by omega)
                  · simp only [List.mem_singleton] at hi_; subst hi_
                    intro val fl w1 a hb hfi ha hd hfl
                    obtain ⟨hgb, hg0⟩ := hb
                    have hb := below_row hom hgb hb7.size
                    have e0 : val 0 = .slice AM k cM := hd 0 (memB_mem.1 rfl)
                    obtain ⟨g2_, e2, q2_, h2_⟩ := hd 2 (memB_mem.1 rfl) hfi
                    change val 2 = _ at e2
                    have ha := ha.sub (Sub.ins (d := 91) (Sub.ins (d := 89) (Sub.nil _) (dep_get rfl e0)) (dep_get rfl e2))
                    refine ts_push row_elem ha rfl rfl rfl (hg0 hfi) (rd_one (l := [.slice AL l.length cL]) q2_ rfl) (by intro u hu; rw [List.mem_singleton.1 hu]; rfl) (by omega) rfl (Nat.le_trans hb7.size hgb.size) ?_
                    intro v' w' ho' hgr hat
                    refine ⟨v', rfl, hgr.size, ⟨grown_three hgb hgr, fun h => by rw [fset_eq] at h; cases h⟩, ⟨ho', fun b hb' => ?_⟩, fun j _ hj hn hA => ?_⟩
                    · rcases hat with h | h
                      · exact .inl (h ▸ hb')
                      · refine .inr ?_
                        change v'.ownBlock = some b at hb'
                        rw [h] at hb'
                        injection hb' with hb'
                        have := hgb.size
                        omega
                    · exact phiS_cons_st (C := fun j => j ≠ 3 ∧ 3 ∉ clsAt [[], [], [1], [0, 1, 2], [], [], [4, 5], [0, 1, 2, 3, 4, 5, 6], [0, 1, 2, 3, 4, 5, 6, 7]] j) (fun _ _ h => by rw [fset_eq] at h; cases h) (phiS_cons_st (C := fun j => j ≠ 3 ∧ 3 ∉ clsAt [[], [], [1], [0, 1, 2], [], [], [4, 5], [0, 1, 2, 3, 4, 5, 6], [0, 1, 2, 3, 4, 5, 6, 7]] j) (fun hc => absurd rfl hc.1) (fun _ _ h => h)) j ⟨hj, hn⟩
                  · intro val fl w' hfl hb halc hd
                    obtain ⟨hgb, _⟩ := hb
                    have hb := below_row hom hgb hb7.size
                    have e0 : val 0 = .slice AM k cM := hd 0 (by omega)
                    have e1 : val 1 = .slice AL l.length cL := hd 1 (by omega)
                    obtain ⟨ho3, hn3⟩ := hd 3 (by omega)
                    change w'.ownsRow _ _ _ (val 3) _ _ at ho3
                    have e4 : val 4 = .slice (some ⟨gb, 0, none⟩) b7.length cb := hd 4 (by omega)
                    have e5 : val 5 = .int .i64 (k : Nat) := hd 5 (by omega)
                    have e6 : val 6 = .slice (some ⟨gb, (if cb = k then 0 else 0 + k), none⟩) (b7.length - k) (cb - k) := hd 6 (by omega)
                    refine EL.ends (cs := [.slice AM k cM, .slice AL l.length cL, val 2, val 3, .slice (some ⟨gb, 0, none⟩) b7.length cb, .int .i64 (k : Nat), .slice (some ⟨gb, (if cb = k then 0 else 0 + k), none⟩) (b7.length - k) (cb - k)]) ⟨e0, e1, rfl, rfl, e4, e5, e6, trivial⟩ rfl ?_
                    replace q1x := blk_grown q1x hom rfl hgb
                    replace hbw := hbw.trans (hb.mono hsz7)
                    replace hb7 := hb7.trans (hb.mono (Nat.le_refl _))
                    have hv3 := (Rd.of_own ho3).shape
                    obtain ⟨A3_, c3_, e33, _⟩ := hv3
                    refine EL.push row_elem rfl rfl ho3 (rd_dropV ((hR7.rd.rd).below hb7) hk) (fun u hu => hR7.oneCell u (List.mem_of_mem_drop hu)) (by omega) rfl hb7.size rfl ?_
                    intro vn wn hon hgrn hbn _
                    replace q1x := blk_grown q1x ho3 rfl hgrn
                    replace hbw := hbw.trans (hbn.mono hsz7)
                    replace hb7 := hb7.trans hbn
                    have hRN := hR7.ins (own_less hl7 (Nat.zero_le _)) hb7 hk (own_less hon hsz7)
                    rw [hat] at hRN
                    obtain ⟨AN, cN, eN, _⟩ := (Rd.of_own hRN.own).shape
                    subst eN
                    obtain ⟨gN, eAN⟩ := own_slice hRN.own (by rw [List.length_append, List.length_append, List.length_singleton]; omega)
                    subst eAN
                    refine EL.val (x_assign rfl) rfl ?_
                    refine EL.nil ?_
                    refine EX.blk ?_
                    refine EX.seq ?_
                    refine EC.region ?_
                    refine EL.val (x_move rfl) rfl ?_
                    refine EL.val (x_add rfl rfl (c := ((x + 1 : Nat) : Int)) ((IntWalk.i64_in _ ⟨by first | omega | (simp only; omega), by first | omega | (simp only; omega)⟩).trans (by first | omega | (simp only; omega)))) rfl ?_
                    refine EL.val (x_assign rfl) rfl ?_
                    refine EL.nil ?_
                    refine EX.roundD (x + 1, gN, cN, _) ⟨by rw [hnew]; rfl, rfl, trivial⟩ (by repeat first | with_reducible exact Sub.refl _ | refine sub_past rfl ?_ | exact Sub.refl _ | refine sub_del rfl ?_ | refine sub_insL_nil ?_) ⟨hlt, by rw [hnew]; exact hRN, q1x, hbw⟩ (by simp only; omega)
                ·
                  refine EL.callg rfl rfl (cl_61 rfl rfl) rfl (less_to hls _ _ _ w9.heap.size ((Rd.of_own hrk).below hb7) ((Rd.of_own hl7).below hb7) hlk (by omega)) ?_
                  rintro e w13 ⟨rfl, hc13⟩
                  refine ⟨_, rfl, ?_⟩
                  replace q1x := q1x.below hc13 q1x.lt
                  replace hbw := Below.on hbw hc13 hbw.size
                  replace hb7 := Below.on hb7 hc13 hb7.size
                  clear hc13
                  refine EL.val (x_pick_t rfl rfl) rfl ?_
                  refine EL.nil ?_
                  refine EX.seq ?_
                  refine EC.yes rfl ?_
                  refine EC.skip ?_
                  refine EX.seq ?_
                  refine EC.block ?_
                  refine EC.region ?_
                  refine EL.val (x_move rfl) rfl ?_
                  refine EL.val (x_add rfl rfl (c := ((k + 1 : Nat) : Int)) ((IntWalk.i64_in _ ⟨by first | omega | (simp only; omega), by first | omega | (simp only; omega)⟩).trans (by first | omega | (simp only; omega)))) rfl ?_
                  refine EL.val (x_assign rfl) rfl ?_
                  refine EL.nil ?_
                  refine EX.blk ?_
                  refine EX.roundD (k + 1) ⟨rfl, rfl, trivial⟩ (by repeat first | with_reducible exact Sub.refl _ | refine sub_past rfl ?_ | exact Sub.refl _ | refine sub_del rfl ?_ | refine sub_insL_nil ?_) ⟨hkl, fun j hj => by by_cases e : j < k; (exact hle j e); (rw [show j = k by omega]; exact hls), q1x, hbw, hb7⟩ (by omega)
              ·
                have hkb : k = b7.length := by omega
                have hat : k = atL l b7 := at_eq hk hle (.inl hkb)
                refine EC.seq ?_
                refine EC.seq ?_
                refine EC.region ?_
                refine EL.val (x_move rfl) rfl ?_
                refine EL.val (x_move rfl) rfl ?_
                refine EL.val (ln_41 rfl) rfl ?_
                refine EL.val (x_lss rfl rfl (decide_eq_false (show ¬(((k : Nat) : Int) < ((b7.length : Nat) : Int)) by omega))) rfl ?_
                refine EL.val (x_move rfl) rfl ?_
                refine EL.skip rfl rfl rfl rfl ?_
                refine EL.skip rfl rfl rfl rfl ?_
                refine EL.skip rfl rfl rfl rfl ?_
                refine EL.skip rfl rfl rfl rfl ?_
                refine EL.skip rfl rfl rfl rfl ?_
                refine EL.skip rfl rfl rfl rfl ?_
                refine EL.val (x_pick_f rfl rfl) rfl ?_
                refine EL.nil ?_
                refine EX.seq ?_
                refine EC.no rfl ?_
                refine EC.exit ?_
                refine EX.seq_exit ?_
                refine EX.seq_exit ?_
                refine EX.blk_here ?_
                refine EX.seq ?_
                refine EC.seq ?_
                refine EC.region ?_
                refine EL.newS (bs_41_0) rfl ?_
                intro g14 w14 q14 hb14 hg14 hl14
                have n1_14 : g1 ≠ g14 := Nat.ne_of_lt (Nat.lt_of_lt_of_le q1x.lt hg14)
                have bhbw_14 := Nat.le_trans hbw.size hg14
                have bhb7_14 := Nat.le_trans hb7.size hg14
                have hge14 : w9.heap.size ≤ g14 := Nat.le_trans hb7.size hg14
                replace q1x := q1x.below hb14 q1x.lt
                replace hbw := Below.on hbw hb14 hbw.size
                replace hb7 := Below.on hb7 hb14 hb7.size
                clear hb14 hg14 hl14
                refine EL.val (x_move rfl) rfl ?_
                refine EL.val (x_move rfl) rfl ?_
                refine EL.val (slh_41 rfl rfl (Nat.le_trans hk hcap)) rfl ?_
                have hem7 := own_empty (base := w9.heap.size) 1 q14 hge14
                refine EL.push row_elem rfl rfl hem7 (rd_takeV ((hR7.rd.rd).below hb7) hk) (fun u hu => hR7.oneCell u (List.mem_of_mem_take hu)) (by omega) rfl hb7.size rfl ?_
                intro vm wm hom hgrm hbm _
                rw [Nat.zero_add, List.nil_append] at hom
                replace q1x := blk_grown q1x hem7 rfl hgrm
                replace hbw := hbw.trans (hbm.mono hsz7)
                replace hb7 := hb7.trans hbm
                clear hem7
                obtain ⟨AM, cM, eM, _⟩ := (Rd.of_own hom).shape
                subst eM
                refine EL.val (x_assign rfl) rfl ?_
                refine EL.nil ?_
                refine EX.seq ?_
                have hW := below_row hom (w1 := wm) ⟨rfl, rfl, rfl, Nat.le_refl _, fun _ _ _ => rfl⟩ hb7.size
                clear hW
                have lt_1 := q1x.lt
                refine EC.regionS [[], [], [1], [0, 1, 2], [], [], [4, 5], [0, 1, 2, 3, 4, 5, 6], [0, 1, 2, 3, 4, 5, 6, 7]] 7 [] [3] (fun fl w_ => wm.grownBy w_ ((.slice AM k cM) : Value).ownBlock ∧ (fl 3 = false → w_.ownsRow w9.heap.size 26 1 (.slice AM k cM) k (f7.take k))) (phiS (fun i_ r => match i_ with | 0 => r 0 = .slice AM k cM | 1 => r 1 = .slice AL l.length cL | 4 => r 4 = .slice (some ⟨gb, 0, none⟩) b7.length cb | 5 => r 5 = .int .i64 (k : Nat) | 6 => r 6 = .slice (some ⟨gb, (if cb = k then 0 else 0 + k), none⟩) (b7.length - k) (cb - k) | _ => True) [(2, fun fl r w_ => fl 3 = false → (∃ g_, r 2 = .slice (some ⟨g_, 0, none⟩) 1 1 ∧ Blk w_ g_ 26 #[.slice AL l.length cL] ∧ wm.heap.size ≤ g_)), (3, fun _ r w_ => w_.ownsRow w9.heap.size 26 1 (r 3) (k + 1) ((f7.take k) ++ [.slice AL l.length cL]) ∧ ∀ b, (r 3).ownBlock = some b → ((.slice AM k cM) : Value).ownBlock = some b ∨ wm.heap.size ≤ b)]) (by kernel_rfl) rfl rfl (by intro i hi; simp at hi; subst hi; exact ⟨by simp, by omega⟩) (base_row hom) (phiS_cons (monoS_till mono_bs) (phiS_cons (monoS_row (e := 3) (C := fun u_ => ∀ b, u_.ownBlock = some b → ((.slice AM k cM) : Value).ownBlock = some b ∨ wm.heap.size ≤ b)) (phiS_nil))) (fun i_ hi_ hs_ => ?_) (fun i_ hi_ => ?_) ?_
                · match i_, hi_ with
                  | 0, _ =>
                    intro val fl w1 a hb ha hd hfl
                    obtain ⟨hgb, hg0⟩ := hb
                    have hb := below_row hom hgb hb7.size
                    have ha := ha.sub (Sub.ins (d := 8) (Sub.nil _) rfl)
                    exact ss_val ha rfl rfl (x_move rfl) rfl rfl
                  | 1, _ =>
                    intro val fl w1 a hb ha hd hfl
                    obtain ⟨hgb, hg0⟩ := hb
                    have hb := below_row hom hgb hb7.size
                    have ha := ha.sub (Sub.ins (d := 5) (Sub.nil _) rfl)
                    exact ss_val ha rfl rfl (x_move rfl) rfl rfl
                  | 2, _ =>
                    intro val fl w1 a hb ha hd hfl
                    obtain ⟨hgb, hg0⟩ := hb
                    have hb := below_row hom hgb hb7.size
                    have e1 : val 1 = .slice AL l.length cL := hd 1 (memB_mem.1 rfl)
                    have ha := ha.sub (Sub.ins (d := 90) (Sub.nil _) (dep_get rfl e1))
                    exact ss_newS ha rfl rfl (bs_41_1 rfl) rfl (fun g w' hq _ hge => fun _ => ⟨g, rfl, hq, Nat.le_trans hgb.size hge⟩)
                  | 3, _ =>
                    exact absurd (by simp) hs_
                  | 4, _ =>
                    intro val fl w1 a hb ha hd hfl
                    obtain ⟨hgb, hg0⟩ := hb
                    have hb := below_row hom hgb hb7.size
                    have ha := ha.sub (Sub.ins (d := 3) (Sub.nil _) rfl)
                    exact ss_val ha rfl rfl (x_move rfl) rfl rfl
                  | 5, _ =>
                    intro val fl w1 a hb ha hd hfl
                    obtain ⟨hgb, hg0⟩ := hb
                    have hb := below_row hom hgb hb7.size
                    have ha := ha.sub (Sub.ins (d := 7) (Sub.nil _) rfl)
                    exact ss_val ha rfl rfl (x_move rfl) rfl rfl
                  | 6, _ =>
                    intro val fl w1 a hb ha hd hfl
                    obtain ⟨hgb, hg0⟩ := hb
                    have hb := below_row hom hgb hb7.size
                    have e4 : val 4 = .slice (some ⟨gb, 0, none⟩) b7.length cb := hd 4 (memB_mem.1 rfl)
                    have e5 : val 5 = .int .i64 (k : Nat) := hd 5 (memB_mem.1 rfl)
                    have ha := ha.sub (Sub.ins (d := 94) (Sub.ins (d := 93) (Sub.nil _) (dep_get rfl e4)) (dep_get rfl e5))
                    exact ss_val ha rfl rfl (sll_41 rfl rfl hk rfl) rfl rfl
                  | k + 7, h => exact absurd h (by omega)
                · simp only [List.mem_singleton] at hi_; subst hi_
                  intro val fl w1 a hb hfi ha hd hfl
                  obtain ⟨hgb, hg0⟩ := hb
                  have hb := below_row hom hgb hb7.size
                  have e0 : val 0 = .slice AM k cM := hd 0 (memB_mem.1 rfl)
                  obtain ⟨g2_, e2, q2_, h2_⟩ := hd 2 (memB_mem.1 rfl) hfi
                  change val 2 = _ at e2
                  have ha := ha.sub (Sub.ins (d := 91) (Sub.ins (d := 89) (Sub.nil _) (dep_get rfl e0)) (dep_get rfl e2))
                  refine ts_push row_elem ha rfl rfl rfl (hg0 hfi) (rd_one (l := [.slice AL l.length cL]) q2_ rfl) (by intro u hu; rw [List.mem_singleton.1 hu]; rfl) (by omega) rfl (Nat.le_trans hb7.size hgb.size) ?_
                  intro v' w' ho' hgr hat
                  refine ⟨v', rfl, hgr.size, ⟨grown_three hgb hgr, fun h => by rw [fset_eq] at h; cases h⟩, ⟨ho', fun b hb' => ?_⟩, fun j _ hj hn hA => ?_⟩
                  · rcases hat with h | h
                    · exact .inl (h ▸ hb')
                    · refine .inr ?_
                      change v'.ownBlock = some b at hb'
                      rw [h] at hb'
                      injection hb' with hb'
                      have := hgb.size
                      omega
                  · exact phiS_cons_st (C := fun j => j ≠ 3 ∧ 3 ∉ clsAt [[], [], [1], [0, 1, 2], [], [], [4, 5], [0, 1, 2, 3, 4, 5, 6], [0, 1, 2, 3, 4, 5, 6, 7]] j) (fun _ _ h => by rw [fset_eq] at h; cases h) (phiS_cons_st (C := fun j => j ≠ 3 ∧ 3 ∉ clsAt [[], [], [1], [0, 1, 2], [], [], [4, 5], [0, 1, 2, 3, 4, 5, 6], [0, 1, 2, 3, 4, 5, 6, 7]] j) (fun hc => absurd rfl hc.1) (fun _ _ h => h)) j ⟨hj, hn⟩
                · intro val fl w' hfl hb halc hd
                  obtain ⟨hgb, _⟩ := hb
                  have hb := below_row hom hgb hb7.size
                  have e0 : val 0 = .slice AM k cM := hd 0 (by omega)
                  have e1 : val 1 = .slice AL l.length cL := hd 1 (by omega)
                  obtain ⟨ho3, hn3⟩ := hd 3 (by omega)
                  change w'.ownsRow _ _ _ (val 3) _ _ at ho3
                  have e4 : val 4 = .slice (some ⟨gb, 0, none⟩) b7.length cb := hd 4 (by omega)
                  have e5 : val 5 = .int .i64 (k : Nat) := hd 5 (by omega)
                  have e6 : val 6 = .slice (some ⟨gb, (if cb = k then 0 else 0 + k), none⟩) (b7.length - k) (cb - k) := hd 6 (by omega)
                  refine EL.ends (cs := [.slice AM k cM, .slice AL l.length cL, val 2, val 3, .slice (some ⟨gb, 0, none⟩) b7.length cb, .int .i64 (k : Nat), .slice (some ⟨gb, (if cb = k then 0 else 0 + k), none⟩) (b7.length - k) (cb - k)]) ⟨e0, e1, rfl, rfl, e4, e5, e6, trivial⟩ rfl ?_
                  replace q1x := blk_grown q1x hom rfl hgb
                  replace hbw := hbw.trans (hb.mono hsz7)
                  replace hb7 := hb7.trans (hb.mono (Nat.le_refl _))
                  have hv3 := (Rd.of_own ho3).shape
                  obtain ⟨A3_, c3_, e33, _⟩ := hv3
                  refine EL.push row_elem rfl rfl ho3 (rd_dropV ((hR7.rd.rd).below hb7) hk) (fun u hu => hR7.oneCell u (List.mem_of_mem_drop hu)) (by omega) rfl hb7.size rfl ?_
                  intro vn wn hon hgrn hbn _
                  replace q1x := blk_grown q1x ho3 rfl hgrn
                  replace hbw := hbw.trans (hbn.mono hsz7)
                  replace hb7 := hb7.trans hbn
                  have hRN := hR7.ins (own_less hl7 (Nat.zero_le _)) hb7 hk (own_less hon hsz7)
                  rw [hat] at hRN
                  obtain ⟨AN, cN, eN, _⟩ := (Rd.of_own hRN.own).shape
                  subst eN
                  obtain ⟨gN, eAN⟩ := own_slice hRN.own (by rw [List.length_append, List.length_append, List.length_singleton]; omega)
                  subst eAN
                  refine EL.val (x_assign rfl) rfl ?_
                  refine EL.nil ?_
                  refine EX.blk ?_
                  refine EX.seq ?_
                  refine EC.region ?_
                  refine EL.val (x_move rfl) rfl ?_
                  refine EL.val (x_add rfl rfl (c := ((x + 1 : Nat) : Int)) ((IntWalk.i64_in _ ⟨by first | omega | (simp only; omega), by first | omega | (simp only; omega)⟩).trans (by first | omega | (simp only; omega)))) rfl ?_
                  refine EL.val (x_assign rfl) rfl ?_
                  refine EL.nil ?_
                  refine EX.roundD (x + 1, gN, cN, _) ⟨by rw [hnew]; rfl, rfl, trivial⟩ (by repeat first | with_reducible exact Sub.refl _ | refine sub_past rfl ?_ | exact Sub.refl _ | refine sub_del rfl ?_ | refine sub_insL_nil ?_) ⟨hlt, by rw [hnew]; exact hRN, q1x, hbw⟩ (by simp only; omega)
      ·
        refine EL.val (x_gtr rfl rfl (decide_eq_false (show ¬(0 : Int) < ((b.length : Nat) : Int) by omega))) rfl ?_
        refine EL.val (x_move rfl) rfl ?_
        refine EL.skip rfl rfl rfl rfl ?_
        refine EL.skip rfl rfl rfl rfl ?_
        refine EL.skip rfl rfl rfl rfl ?_
        refine EL.skip rfl rfl rfl rfl ?_
        refine EL.skip rfl rfl rfl rfl ?_
        refine EL.skip rfl rfl rfl rfl ?_
        refine EL.skip rfl rfl rfl rfl ?_
        refine EL.val (x_pick_f rfl rfl) rfl ?_
        refine EL.val (x_move rfl) rfl ?_
        refine EL.valg rfl rfl (ld_25 rfl (q1x.at (j := 0) rfl) (q1x.at (j := 1) rfl) (q1x.at (j := 2) rfl)) rfl ?_
        refine EL.newSg rfl rfl (bs_26_0) rfl ?_
        intro g15 w15 q15 hb15 hg15 hl15
        have n1_15 : g1 ≠ g15 := Nat.ne_of_lt (Nat.lt_of_lt_of_le q1x.lt hg15)
        have bhbw_15 := Nat.le_trans hbw.size hg15
        have bhbr_15 := Nat.le_trans hbr.size hg15
        have hge15 : wr.heap.size ≤ g15 := Nat.le_trans hbr.size hg15
        replace q1x := q1x.below hb15 q1x.lt
        replace hol := own_below hol hb15 (Nat.le_refl _)
        replace hbw := Below.on hbw hb15 hbw.size
        replace hbr := Below.on hbr hb15 hbr.size
        clear hb15 hg15 hl15
        refine EL.valg rfl rfl (x_move rfl) rfl ?_
        refine EL.callg rfl rfl (cl_46 rfl rfl rfl) rfl (rcourses_any c x _ _ vs c.clues.length [] _ _ B hc (Nat.le_trans hB hbw.size) (hr.below (hbw.mono hB)) (by simp) (by omega) (inCourseN_nil c) (own_empty 1 q15 (Nat.zero_le _)) (by omega)) ?_
        rintro e w9 ⟨⟨vr, gs, rfl, hLr⟩, hc9⟩
        refine ⟨_, rfl, ?_⟩
        replace q1x := q1x.below hc9 q1x.lt
        replace q15 := q15.below hc9 q15.lt
        replace hol := own_below hol hc9 (Nat.le_refl _)
        replace hbw := Below.on hbw hc9 hbw.size
        replace hbr := Below.on hbr hc9 hbr.size
        clear hc9
        obtain ⟨Ar, cr, er, _⟩ := (Rd.of_own hLr.own).shape
        subst er
        refine EL.valg rfl rfl (ln_41 rfl) rfl ?_
        by_cases hem : rcrs c x c.clues.length [] = []
        ·
          have hsk : skipW c b x = true := by rw [hskd]; rw [hem]; simp
          have hnew : refW c (x + 1) = b := by rw [hsucc, stepW, if_pos hsk]
          refine EL.valg rfl rfl (x_eql rfl rfl (decide_eq_true (by rw [hem]; rfl))) rfl ?_
          refine EL.val (x_pick_f rfl rfl) rfl ?_
          refine EL.nil ?_
          refine EX.seq ?_
          refine EC.yes rfl ?_
          refine EC.exit ?_
          refine EX.seq_exit ?_
          refine EX.blk_here ?_
          refine EX.seq ?_
          refine EC.region ?_
          refine EL.val (x_move rfl) rfl ?_
          refine EL.val (x_add rfl rfl (c := ((x + 1 : Nat) : Int)) ((IntWalk.i64_in _ ⟨by first | omega | (simp only; omega), by first | omega | (simp only; omega)⟩).trans (by first | omega | (simp only; omega)))) rfl ?_
          refine EL.val (x_assign rfl) rfl ?_
          refine EL.nil ?_
          have hRz := hR.below hbr
          refine EX.roundD (x + 1, gb, cb, fs) ⟨by rw [hnew]; rfl, rfl, trivial⟩ (by repeat first | with_reducible exact Sub.refl _ | refine sub_past rfl ?_ | exact Sub.refl _ | refine sub_del rfl ?_ | refine sub_insL_nil ?_) ⟨hlt, by rw [hnew]; exact hRz, q1x, hbw⟩ (by simp only; omega)
        ·
          have hsk : ¬skipW c b x = true := by rw [hskd, decide_eq_false hb0, Bool.false_and, Bool.false_or, List.isEmpty_iff]; exact hem
          have hcl := cutW_len hinv hsk
          rw [← el] at hcl
          have hnew : refW c (x + 1) = insL_ (cutW c b x) l := by rw [hsucc, stepW, if_neg hsk, el]
          refine EL.valg rfl rfl (x_eql rfl rfl (decide_eq_false (fun h => hem (List.eq_nil_of_length_eq_zero (by omega))))) rfl ?_
          refine EL.val (x_pick_f rfl rfl) rfl ?_
          refine EL.nil ?_
          refine EX.seq ?_
          refine EC.no rfl ?_
          refine EC.skip ?_
          refine EX.seq ?_
          refine EC.seq ?_
          refine EC.seq ?_
          refine EC.region ?_
          refine EL.val (x_move rfl) rfl ?_
          refine EL.val (ln_41 rfl) rfl ?_
          refine EL.val (x_gtr rfl rfl (decide_eq_false (show ¬(0 : Int) < ((b.length : Nat) : Int) by omega))) rfl ?_
          refine EL.val (x_move rfl) rfl ?_
          refine EL.skip rfl rfl rfl rfl ?_
          refine EL.skip rfl rfl rfl rfl ?_
          refine EL.skip rfl rfl rfl rfl ?_
          refine EL.skip rfl rfl rfl rfl ?_
          refine EL.skip rfl rfl rfl rfl ?_
          refine EL.skip rfl rfl rfl rfl ?_
          refine EL.skip rfl rfl rfl rfl ?_
          refine EL.val (x_pick_f rfl rfl) rfl ?_
          refine EL.nil ?_
          refine EX.seq ?_
          refine EC.no rfl ?_
          refine EC.skip ?_
          refine EX.seq ?_
          refine EC.seq ?_
          refine EC.region ?_
          refine EL.val (x_assign rfl) rfl ?_
          refine EL.nil ?_
          refine EX.seq ?_
          refine EC.seq ?_
          refine EC.block ?_
          have hcu : cutW c b x = b := by rw [hcud, decide_eq_false hb0, Bool.false_and]; rfl
          rw [hcu] at hnew hcl
          have hR7 := hR.below hbr
          obtain ⟨b7, eb7⟩ : ∃ z, z = b := ⟨_, rfl⟩
          obtain ⟨f7, ef7⟩ : ∃ z, z = fs := ⟨_, rfl⟩
          rw [← eb7] at hnew hcl
          have hb7len : b7.length ≤ 1024 := by rw [eb7]; omega
          have hR7 : OwnLL w9 w.heap.size (.slice (some ⟨gb, 0, none⟩) b7.length cb) b7 f7 := by rw [eb7, ef7]; exact hR7
          have hb7 := Below.refl w9.heap.size w9
          have hl7 := hol
          have hsz7 : w.heap.size ≤ w9.heap.size := hbw.size
          have hcap := own_cap hR7.own
          have el3 : (Value.slice (some ⟨gb, 0, none⟩) b.length cb) = .slice (some ⟨gb, 0, none⟩) b7.length cb := by rw [eb7]
          refine EC.loopD [3, 7, 70, 71, 72, 73, 74, 75, 76, 77, 78, 79, 80, 81, 82, 83] (fun y : Nat => [(3, .slice (some ⟨gb, 0, none⟩) b7.length cb), (7, .int .i64 (y : Nat))]) (fun y W => y ≤ b7.length ∧ (∀ j, j < y → lessL (b7.getD j []) l = true) ∧ Blk W g1 25 #[.int .i64 c.events, .slice Ac c.clocks.length cc_, .slice Al c.clues.length cl_] ∧ Below w.heap.size w W ∧ Below w9.heap.size w9 W) (fun y => b7.length - y) 0 ⟨Nat.zero_le _, fun j hj => absurd hj (Nat.not_lt_zero _), q1x, hbw, hb7⟩ ⟨by first | exact congrArg some el3 | (show some _ = some _; rw [el3]), rfl, trivial⟩ ?_
          clear q1x hbw hb7
          rintro k wj ⟨hk, hle, q1x, hbw, hb7⟩
          by_cases hkl : k < b7.length
          ·
            obtain ⟨bB, oB, e9_, _, hck⟩ := rdll_cell hR7.rd k hkl
            injection e9_ with e9_
            injection e9_ with k1_ k2_ _
            subst k1_
            subst k2_
            have hrk := hR7.row k hkl
            have hlk : (b7.getD k []).length = l.length := hcl _ (by rw [show b7.getD k [] = b7[k] by simp [List.getD, hkl]]; exact List.getElem_mem hkl)
            obtain ⟨Ak, ck, e8_, _⟩ := (Rd.of_own hrk).shape
            rw [e8_] at hck hrk
            refine EC.seq ?_
            refine EC.seq ?_
            refine EC.region ?_
            refine EL.val (x_move rfl) rfl ?_
            refine EL.val (x_move rfl) rfl ?_
            refine EL.val (ln_41 rfl) rfl ?_
            refine EL.val (x_lss rfl rfl (decide_eq_true (show (((k : Nat) : Int) < ((b7.length : Nat) : Int)) by omega))) rfl ?_
            refine EL.val (x_move rfl) rfl ?_
            refine EL.valg rfl rfl (x_move rfl) rfl ?_
            refine EL.valg rfl rfl (x_move rfl) rfl ?_
            refine EL.valg rfl rfl (ix_41 rfl rfl hkl) rfl ?_
            refine EL.valg rfl rfl (ld_26 rfl (below_load hb7 hck)) rfl ?_
            refine EL.valg rfl rfl (x_move rfl) rfl ?_
            cases hls : lessL (b7.getD k []) l
            ·
              have hat : k = atL l b7 := at_eq hk hle (.inr hls)
              refine EL.callg rfl rfl (cl_61 rfl rfl) rfl (less_to hls _ _ _ w9.heap.size ((Rd.of_own hrk).below hb7) ((Rd.of_own hl7).below hb7) hlk (by omega)) ?_
              rintro e w16 ⟨rfl, hc16⟩
              refine ⟨_, rfl, ?_⟩
              replace q1x := q1x.below hc16 q1x.lt
              replace hbw := Below.on hbw hc16 hbw.size
              replace hb7 := Below.on hb7 hc16 hb7.size
              clear hc16
              refine EL.val (x_pick_t rfl rfl) rfl ?_
              refine EL.nil ?_
              refine EX.seq ?_
              refine EC.no rfl ?_
              refine EC.exit ?_
              refine EX.seq_exit ?_
              refine EX.seq_exit ?_
              refine EX.blk_here ?_
              refine EX.seq ?_
              refine EC.seq ?_
              refine EC.region ?_
              refine EL.newS (bs_41_0) rfl ?_
              intro g17 w17 q17 hb17 hg17 hl17
              have n1_17 : g1 ≠ g17 := Nat.ne_of_lt (Nat.lt_of_lt_of_le q1x.lt hg17)
              have bhbw_17 := Nat.le_trans hbw.size hg17
              have bhb7_17 := Nat.le_trans hb7.size hg17
              have hge17 : w9.heap.size ≤ g17 := Nat.le_trans hb7.size hg17
              replace q1x := q1x.below hb17 q1x.lt
              replace hbw := Below.on hbw hb17 hbw.size
              replace hb7 := Below.on hb7 hb17 hb7.size
              clear hb17 hg17 hl17
              refine EL.val (x_move rfl) rfl ?_
              refine EL.val (x_move rfl) rfl ?_
              refine EL.val (slh_41 rfl rfl (Nat.le_trans hk hcap)) rfl ?_
              have hem7 := own_empty (base := w9.heap.size) 1 q17 hge17
              refine EL.push row_elem rfl rfl hem7 (rd_takeV ((hR7.rd.rd).below hb7) hk) (fun u hu => hR7.oneCell u (List.mem_of_mem_take hu)) (by omega) rfl hb7.size rfl ?_
              intro vm wm hom hgrm hbm _
              rw [Nat.zero_add, List.nil_append] at hom
              replace q1x := blk_grown q1x hem7 rfl hgrm
              replace hbw := hbw.trans (hbm.mono hsz7)
              replace hb7 := hb7.trans hbm
              clear hem7
              obtain ⟨AM, cM, eM, _⟩ := (Rd.of_own hom).shape
              subst eM
              refine EL.val (x_assign rfl) rfl ?_
              refine EL.nil ?_
              refine EX.seq ?_
              have hW := below_row hom (w1 := wm) ⟨rfl, rfl, rfl, Nat.le_refl _, fun _ _ _ => rfl⟩ hb7.size
              clear hW
              have lt_1 := q1x.lt
              refine EC.regionS [[], [], [1], [0, 1, 2], [], [], [4, 5], [0, 1, 2, 3, 4, 5, 6], [0, 1, 2, 3, 4, 5, 6, 7]] 7 [] [3] (fun fl w_ => wm.grownBy w_ ((.slice AM k cM) : Value).ownBlock ∧ (fl 3 = false → w_.ownsRow w9.heap.size 26 1 (.slice AM k cM) k (f7.take k))) (phiS (fun i_ r => match i_ with | 0 => r 0 = .slice AM k cM | 1 => r 1 = .slice AL l.length cL | 4 => r 4 = .slice (some ⟨gb, 0, none⟩) b7.length cb | 5 => r 5 = .int .i64 (k : Nat) | 6 => r 6 = .slice (some ⟨gb, (if cb = k then 0 else 0 + k), none⟩) (b7.length - k) (cb - k) | _ => True) [(2, fun fl r w_ => fl 3 = false → (∃ g_, r 2 = .slice (some ⟨g_, 0, none⟩) 1 1 ∧ Blk w_ g_ 26 #[.slice AL l.length cL] ∧ wm.heap.size ≤ g_)), (3, fun _ r w_ => w_.ownsRow w9.heap.size 26 1 (r 3) (k + 1) ((f7.take k) ++ [.slice AL l.length cL]) ∧ ∀ b, (r 3).ownBlock = some b → ((.slice AM k cM) : Value).ownBlock = some b ∨ wm.heap.size ≤ b)]) (by kernel_rfl) rfl rfl (by intro i hi; simp at hi; subst hi; exact ⟨by simp, by omega⟩) (base_row hom) (phiS_cons (monoS_till mono_bs) (phiS_cons (monoS_row (e := 3) (C := fun u_ => ∀ b, u_.ownBlock = some b → ((.slice AM k cM) : Value).ownBlock = some b ∨ wm.heap.size ≤ b)) (phiS_nil))) (fun i_ hi_ hs_ => ?_) (fun i_ hi_ => ?_) ?_
              · match i_, hi_ with
                | 0, _ =>
                  intro val fl w1 a hb ha hd hfl
                  obtain ⟨hgb, hg0⟩ := hb
                  have hb := below_row hom hgb hb7.size
                  have ha := ha.sub (Sub.ins (d := 8) (Sub.nil _) rfl)
                  exact ss_val ha rfl rfl (x_move rfl) rfl rfl
                | 1, _ =>
                  intro val fl w1 a hb ha hd hfl
                  obtain ⟨hgb, hg0⟩ := hb
                  have hb := below_row hom hgb hb7.size
                  have ha := ha.sub (Sub.ins (d := 5) (Sub.nil _) rfl)
                  exact ss_val ha rfl rfl (x_move rfl) rfl rfl
                | 2, _ =>
                  intro val fl w1 a hb ha hd hfl
                  obtain ⟨hgb, hg0⟩ := hb
                  have hb := below_row hom hgb hb7.size
                  have e1 : val 1 = .slice AL l.length cL := hd 1 (memB_mem.1 rfl)
                  have ha := ha.sub (Sub.ins (d := 90) (Sub.nil _) (dep_get rfl e1))
                  exact ss_newS ha rfl rfl (bs_41_1 rfl) rfl (fun g w' hq _ hge => fun _ => ⟨g, rfl, hq, Nat.le_trans hgb.size hge⟩)
                | 3, _ =>
                  exact absurd (by simp) hs_
                | 4, _ =>
                  intro val fl w1 a hb ha hd hfl
                  obtain ⟨hgb, hg0⟩ := hb
                  have hb := below_row hom hgb hb7.size
                  have ha := ha.sub (Sub.ins (d := 3) (Sub.nil _) rfl)
                  exact ss_val ha rfl rfl (x_move rfl) rfl rfl
                | 5, _ =>
                  intro val fl w1 a hb ha hd hfl
                  obtain ⟨hgb, hg0⟩ := hb
                  have hb := below_row hom hgb hb7.size
                  have ha := ha.sub (Sub.ins (d := 7) (Sub.nil _) rfl)
                  exact ss_val ha rfl rfl (x_move rfl) rfl rfl
                | 6, _ =>
                  intro val fl w1 a hb ha hd hfl
                  obtain ⟨hgb, hg0⟩ := hb
                  have hb := below_row hom hgb hb7.size
                  have e4 : val 4 = .slice (some ⟨gb, 0, none⟩) b7.length cb := hd 4 (memB_mem.1 rfl)
                  have e5 : val 5 = .int .i64 (k : Nat) := hd 5 (memB_mem.1 rfl)
                  have ha := ha.sub (Sub.ins (d := 94) (Sub.ins (d := 93) (Sub.nil _) (dep_get rfl e4)) (dep_get rfl e5))
                  exact ss_val ha rfl rfl (sll_41 rfl rfl hk rfl) rfl rfl
                | k + 7, h => exact absurd h (by omega)
              · simp only [List.mem_singleton] at hi_; subst hi_
                intro val fl w1 a hb hfi ha hd hfl
                obtain ⟨hgb, hg0⟩ := hb
                have hb := below_row hom hgb hb7.size
                have e0 : val 0 = .slice AM k cM := hd 0 (memB_mem.1 rfl)
                obtain ⟨g2_, e2, q2_, h2_⟩ := hd 2 (memB_mem.1 rfl) hfi
                change val 2 = _ at e2
                have ha := ha.sub (Sub.ins (d := 91) (Sub.ins (d := 89) (Sub.nil _) (dep_get rfl e0)) (dep_get rfl e2))
                refine ts_push row_elem ha rfl rfl rfl (hg0 hfi) (rd_one (l := [.slice AL l.length cL]) q2_ rfl) (by intro u hu; rw [List.mem_singleton.1 hu]; rfl) (by omega) rfl (Nat.le_trans hb7.size hgb.size) ?_
                intro v' w' ho' hgr hat
                refine ⟨v', rfl, hgr.size, ⟨grown_three hgb hgr, fun h => by rw [fset_eq] at h; cases h⟩, ⟨ho', fun b hb' => ?_⟩, fun j _ hj hn hA => ?_⟩
                · rcases hat with h | h
                  · exact .inl (h ▸ hb')
                  · refine .inr ?_
                    change v'.ownBlock = some b at hb'
                    rw [h] at hb'
                    injection hb' with hb'
                    have := hgb.size
                    omega
                · exact phiS_cons_st (C := fun j => j ≠ 3 ∧ 3 ∉ clsAt [[], [], [1], [0, 1, 2], [], [], [4, 5], [0, 1, 2, 3, 4, 5, 6], [0, 1, 2, 3, 4, 5, 6, 7]] j) (fun _ _ h => by rw [fset_eq] at h; cases h) (phiS_cons_st (C := fun j => j ≠ 3 ∧ 3 ∉ clsAt [[], [], [1], [0, 1, 2], [], [], [4, 5], [0, 1, 2, 3, 4, 5, 6], [0, 1, 2, 3, 4, 5, 6, 7]] j) (fun hc => absurd rfl hc.1) (fun _ _ h => h)) j ⟨hj, hn⟩
              · intro val fl w' hfl hb halc hd
                obtain ⟨hgb, _⟩ := hb
                have hb := below_row hom hgb hb7.size
                have e0 : val 0 = .slice AM k cM := hd 0 (by omega)
                have e1 : val 1 = .slice AL l.length cL := hd 1 (by omega)
                obtain ⟨ho3, hn3⟩ := hd 3 (by omega)
                change w'.ownsRow _ _ _ (val 3) _ _ at ho3
                have e4 : val 4 = .slice (some ⟨gb, 0, none⟩) b7.length cb := hd 4 (by omega)
                have e5 : val 5 = .int .i64 (k : Nat) := hd 5 (by omega)
                have e6 : val 6 = .slice (some ⟨gb, (if cb = k then 0 else 0 + k), none⟩) (b7.length - k) (cb - k) := hd 6 (by omega)
                refine EL.ends (cs := [.slice AM k cM, .slice AL l.length cL, val 2, val 3, .slice (some ⟨gb, 0, none⟩) b7.length cb, .int .i64 (k : Nat), .slice (some ⟨gb, (if cb = k then 0 else 0 + k), none⟩) (b7.length - k) (cb - k)]) ⟨e0, e1, rfl, rfl, e4, e5, e6, trivial⟩ rfl ?_
                replace q1x := blk_grown q1x hom rfl hgb
                replace hbw := hbw.trans (hb.mono hsz7)
                replace hb7 := hb7.trans (hb.mono (Nat.le_refl _))
                have hv3 := (Rd.of_own ho3).shape
                obtain ⟨A3_, c3_, e33, _⟩ := hv3
                refine EL.push row_elem rfl rfl ho3 (rd_dropV ((hR7.rd.rd).below hb7) hk) (fun u hu => hR7.oneCell u (List.mem_of_mem_drop hu)) (by omega) rfl hb7.size rfl ?_
                intro vn wn hon hgrn hbn _
                replace q1x := blk_grown q1x ho3 rfl hgrn
                replace hbw := hbw.trans (hbn.mono hsz7)
                replace hb7 := hb7.trans hbn
                have hRN := hR7.ins (own_less hl7 (Nat.zero_le _)) hb7 hk (own_less hon hsz7)
                rw [hat] at hRN
                obtain ⟨AN, cN, eN, _⟩ := (Rd.of_own hRN.own).shape
                subst eN
                obtain ⟨gN, eAN⟩ := own_slice hRN.own (by rw [List.length_append, List.length_append, List.length_singleton]; omega)
                subst eAN
                refine EL.val (x_assign rfl) rfl ?_
                refine EL.nil ?_
                refine EX.blk ?_
                refine EX.seq ?_
                refine EC.region ?_
                refine EL.val (x_move rfl) rfl ?_
                refine EL.val (x_add rfl rfl (c := ((x + 1 : Nat) : Int)) ((IntWalk.i64_in _ ⟨by first | omega | (simp only; omega), by first | omega | (simp only; omega)⟩).trans (by first | omega | (simp only; omega)))) rfl ?_
                refine EL.val (x_assign rfl) rfl ?_
                refine EL.nil ?_
                refine EX.roundD (x + 1, gN, cN, _) ⟨by rw [hnew]; rfl, rfl, trivial⟩ (by repeat first | with_reducible exact Sub.refl _ | refine sub_past rfl ?_ | exact Sub.refl _ | refine sub_del rfl ?_ | refine sub_insL_nil ?_) ⟨hlt, by rw [hnew]; exact hRN, q1x, hbw⟩ (by simp only; omega)
            ·
              refine EL.callg rfl rfl (cl_61 rfl rfl) rfl (less_to hls _ _ _ w9.heap.size ((Rd.of_own hrk).below hb7) ((Rd.of_own hl7).below hb7) hlk (by omega)) ?_
              rintro e w18 ⟨rfl, hc18⟩
              refine ⟨_, rfl, ?_⟩
              replace q1x := q1x.below hc18 q1x.lt
              replace hbw := Below.on hbw hc18 hbw.size
              replace hb7 := Below.on hb7 hc18 hb7.size
              clear hc18
              refine EL.val (x_pick_t rfl rfl) rfl ?_
              refine EL.nil ?_
              refine EX.seq ?_
              refine EC.yes rfl ?_
              refine EC.skip ?_
              refine EX.seq ?_
              refine EC.block ?_
              refine EC.region ?_
              refine EL.val (x_move rfl) rfl ?_
              refine EL.val (x_add rfl rfl (c := ((k + 1 : Nat) : Int)) ((IntWalk.i64_in _ ⟨by first | omega | (simp only; omega), by first | omega | (simp only; omega)⟩).trans (by first | omega | (simp only; omega)))) rfl ?_
              refine EL.val (x_assign rfl) rfl ?_
              refine EL.nil ?_
              refine EX.blk ?_
              refine EX.roundD (k + 1) ⟨rfl, rfl, trivial⟩ (by repeat first | with_reducible exact Sub.refl _ | refine sub_past rfl ?_ | exact Sub.refl _ | refine sub_del rfl ?_ | refine sub_insL_nil ?_) ⟨hkl, fun j hj => by by_cases e : j < k; (exact hle j e); (rw [show j = k by omega]; exact hls), q1x, hbw, hb7⟩ (by omega)
          ·
            have hkb : k = b7.length := by omega
            have hat : k = atL l b7 := at_eq hk hle (.inl hkb)
            refine EC.seq ?_
            refine EC.seq ?_
            refine EC.region ?_
            refine EL.val (x_move rfl) rfl ?_
            refine EL.val (x_move rfl) rfl ?_
            refine EL.val (ln_41 rfl) rfl ?_
            refine EL.val (x_lss rfl rfl (decide_eq_false (show ¬(((k : Nat) : Int) < ((b7.length : Nat) : Int)) by omega))) rfl ?_
            refine EL.val (x_move rfl) rfl ?_
            refine EL.skip rfl rfl rfl rfl ?_
            refine EL.skip rfl rfl rfl rfl ?_
            refine EL.skip rfl rfl rfl rfl ?_
            refine EL.skip rfl rfl rfl rfl ?_
            refine EL.skip rfl rfl rfl rfl ?_
            refine EL.skip rfl rfl rfl rfl ?_
            refine EL.val (x_pick_f rfl rfl) rfl ?_
            refine EL.nil ?_
            refine EX.seq ?_
            refine EC.no rfl ?_
            refine EC.exit ?_
            refine EX.seq_exit ?_
            refine EX.seq_exit ?_
            refine EX.blk_here ?_
            refine EX.seq ?_
            refine EC.seq ?_
            refine EC.region ?_
            refine EL.newS (bs_41_0) rfl ?_
            intro g19 w19 q19 hb19 hg19 hl19
            have n1_19 : g1 ≠ g19 := Nat.ne_of_lt (Nat.lt_of_lt_of_le q1x.lt hg19)
            have bhbw_19 := Nat.le_trans hbw.size hg19
            have bhb7_19 := Nat.le_trans hb7.size hg19
            have hge19 : w9.heap.size ≤ g19 := Nat.le_trans hb7.size hg19
            replace q1x := q1x.below hb19 q1x.lt
            replace hbw := Below.on hbw hb19 hbw.size
            replace hb7 := Below.on hb7 hb19 hb7.size
            clear hb19 hg19 hl19
            refine EL.val (x_move rfl) rfl ?_
            refine EL.val (x_move rfl) rfl ?_
            refine EL.val (slh_41 rfl rfl (Nat.le_trans hk hcap)) rfl ?_
            have hem7 := own_empty (base := w9.heap.size) 1 q19 hge19
            refine EL.push row_elem rfl rfl hem7 (rd_takeV ((hR7.rd.rd).below hb7) hk) (fun u hu => hR7.oneCell u (List.mem_of_mem_take hu)) (by omega) rfl hb7.size rfl ?_
            intro vm wm hom hgrm hbm _
            rw [Nat.zero_add, List.nil_append] at hom
            replace q1x := blk_grown q1x hem7 rfl hgrm
            replace hbw := hbw.trans (hbm.mono hsz7)
            replace hb7 := hb7.trans hbm
            clear hem7
            obtain ⟨AM, cM, eM, _⟩ := (Rd.of_own hom).shape
            subst eM
            refine EL.val (x_assign rfl) rfl ?_
            refine EL.nil ?_
            refine EX.seq ?_
            have hW := below_row hom (w1 := wm) ⟨rfl, rfl, rfl, Nat.le_refl _, fun _ _ _ => rfl⟩ hb7.size
            clear hW
            have lt_1 := q1x.lt
            refine EC.regionS [[], [], [1], [0, 1, 2], [], [], [4, 5], [0, 1, 2, 3, 4, 5, 6], [0, 1, 2, 3, 4, 5, 6, 7]] 7 [] [3] (fun fl w_ => wm.grownBy w_ ((.slice AM k cM) : Value).ownBlock ∧ (fl 3 = false → w_.ownsRow w9.heap.size 26 1 (.slice AM k cM) k (f7.take k))) (phiS (fun i_ r => match i_ with | 0 => r 0 = .slice AM k cM | 1 => r 1 = .slice AL l.length cL | 4 => r 4 = .slice (some ⟨gb, 0, none⟩) b7.length cb | 5 => r 5 = .int .i64 (k : Nat) | 6 => r 6 = .slice (some ⟨gb, (if cb = k then 0 else 0 + k), none⟩) (b7.length - k) (cb - k) | _ => True) [(2, fun fl r w_ => fl 3 = false → (∃ g_, r 2 = .slice (some ⟨g_, 0, none⟩) 1 1 ∧ Blk w_ g_ 26 #[.slice AL l.length cL] ∧ wm.heap.size ≤ g_)), (3, fun _ r w_ => w_.ownsRow w9.heap.size 26 1 (r 3) (k + 1) ((f7.take k) ++ [.slice AL l.length cL]) ∧ ∀ b, (r 3).ownBlock = some b → ((.slice AM k cM) : Value).ownBlock = some b ∨ wm.heap.size ≤ b)]) (by kernel_rfl) rfl rfl (by intro i hi; simp at hi; subst hi; exact ⟨by simp, by omega⟩) (base_row hom) (phiS_cons (monoS_till mono_bs) (phiS_cons (monoS_row (e := 3) (C := fun u_ => ∀ b, u_.ownBlock = some b → ((.slice AM k cM) : Value).ownBlock = some b ∨ wm.heap.size ≤ b)) (phiS_nil))) (fun i_ hi_ hs_ => ?_) (fun i_ hi_ => ?_) ?_
            · match i_, hi_ with
              | 0, _ =>
                intro val fl w1 a hb ha hd hfl
                obtain ⟨hgb, hg0⟩ := hb
                have hb := below_row hom hgb hb7.size
                have ha := ha.sub (Sub.ins (d := 8) (Sub.nil _) rfl)
                exact ss_val ha rfl rfl (x_move rfl) rfl rfl
              | 1, _ =>
                intro val fl w1 a hb ha hd hfl
                obtain ⟨hgb, hg0⟩ := hb
                have hb := below_row hom hgb hb7.size
                have ha := ha.sub (Sub.ins (d := 5) (Sub.nil _) rfl)
                exact ss_val ha rfl rfl (x_move rfl) rfl rfl
              | 2, _ =>
                intro val fl w1 a hb ha hd hfl
                obtain ⟨hgb, hg0⟩ := hb
                have hb := below_row hom hgb hb7.size
                have e1 : val 1 = .slice AL l.length cL := hd 1 (memB_mem.1 rfl)
                have ha := ha.sub (Sub.ins (d := 90) (Sub.nil _) (dep_get rfl e1))
                exact ss_newS ha rfl rfl (bs_41_1 rfl) rfl (fun g w' hq _ hge => fun _ => ⟨g, rfl, hq, Nat.le_trans hgb.size hge⟩)
              | 3, _ =>
                exact absurd (by simp) hs_
              | 4, _ =>
                intro val fl w1 a hb ha hd hfl
                obtain ⟨hgb, hg0⟩ := hb
                have hb := below_row hom hgb hb7.size
                have ha := ha.sub (Sub.ins (d := 3) (Sub.nil _) rfl)
                exact ss_val ha rfl rfl (x_move rfl) rfl rfl
              | 5, _ =>
                intro val fl w1 a hb ha hd hfl
                obtain ⟨hgb, hg0⟩ := hb
                have hb := below_row hom hgb hb7.size
                have ha := ha.sub (Sub.ins (d := 7) (Sub.nil _) rfl)
                exact ss_val ha rfl rfl (x_move rfl) rfl rfl
              | 6, _ =>
                intro val fl w1 a hb ha hd hfl
                obtain ⟨hgb, hg0⟩ := hb
                have hb := below_row hom hgb hb7.size
                have e4 : val 4 = .slice (some ⟨gb, 0, none⟩) b7.length cb := hd 4 (memB_mem.1 rfl)
                have e5 : val 5 = .int .i64 (k : Nat) := hd 5 (memB_mem.1 rfl)
                have ha := ha.sub (Sub.ins (d := 94) (Sub.ins (d := 93) (Sub.nil _) (dep_get rfl e4)) (dep_get rfl e5))
                exact ss_val ha rfl rfl (sll_41 rfl rfl hk rfl) rfl rfl
              | k + 7, h => exact absurd h (by omega)
            · simp only [List.mem_singleton] at hi_; subst hi_
              intro val fl w1 a hb hfi ha hd hfl
              obtain ⟨hgb, hg0⟩ := hb
              have hb := below_row hom hgb hb7.size
              have e0 : val 0 = .slice AM k cM := hd 0 (memB_mem.1 rfl)
              obtain ⟨g2_, e2, q2_, h2_⟩ := hd 2 (memB_mem.1 rfl) hfi
              change val 2 = _ at e2
              have ha := ha.sub (Sub.ins (d := 91) (Sub.ins (d := 89) (Sub.nil _) (dep_get rfl e0)) (dep_get rfl e2))
              refine ts_push row_elem ha rfl rfl rfl (hg0 hfi) (rd_one (l := [.slice AL l.length cL]) q2_ rfl) (by intro u hu; rw [List.mem_singleton.1 hu]; rfl) (by omega) rfl (Nat.le_trans hb7.size hgb.size) ?_
              intro v' w' ho' hgr hat
              refine ⟨v', rfl, hgr.size, ⟨grown_three hgb hgr, fun h => by rw [fset_eq] at h; cases h⟩, ⟨ho', fun b hb' => ?_⟩, fun j _ hj hn hA => ?_⟩
              · rcases hat with h | h
                · exact .inl (h ▸ hb')
                · refine .inr ?_
                  change v'.ownBlock = some b at hb'
                  rw [h] at hb'
                  injection hb' with hb'
                  have := hgb.size
                  omega
              · exact phiS_cons_st (C := fun j => j ≠ 3 ∧ 3 ∉ clsAt [[], [], [1], [0, 1, 2], [], [], [4, 5], [0, 1, 2, 3, 4, 5, 6], [0, 1, 2, 3, 4, 5, 6, 7]] j) (fun _ _ h => by rw [fset_eq] at h; cases h) (phiS_cons_st (C := fun j => j ≠ 3 ∧ 3 ∉ clsAt [[], [], [1], [0, 1, 2], [], [], [4, 5], [0, 1, 2, 3, 4, 5, 6], [0, 1, 2, 3, 4, 5, 6, 7]] j) (fun hc => absurd rfl hc.1) (fun _ _ h => h)) j ⟨hj, hn⟩
            · intro val fl w' hfl hb halc hd
              obtain ⟨hgb, _⟩ := hb
              have hb := below_row hom hgb hb7.size
              have e0 : val 0 = .slice AM k cM := hd 0 (by omega)
              have e1 : val 1 = .slice AL l.length cL := hd 1 (by omega)
              obtain ⟨ho3, hn3⟩ := hd 3 (by omega)
              change w'.ownsRow _ _ _ (val 3) _ _ at ho3
              have e4 : val 4 = .slice (some ⟨gb, 0, none⟩) b7.length cb := hd 4 (by omega)
              have e5 : val 5 = .int .i64 (k : Nat) := hd 5 (by omega)
              have e6 : val 6 = .slice (some ⟨gb, (if cb = k then 0 else 0 + k), none⟩) (b7.length - k) (cb - k) := hd 6 (by omega)
              refine EL.ends (cs := [.slice AM k cM, .slice AL l.length cL, val 2, val 3, .slice (some ⟨gb, 0, none⟩) b7.length cb, .int .i64 (k : Nat), .slice (some ⟨gb, (if cb = k then 0 else 0 + k), none⟩) (b7.length - k) (cb - k)]) ⟨e0, e1, rfl, rfl, e4, e5, e6, trivial⟩ rfl ?_
              replace q1x := blk_grown q1x hom rfl hgb
              replace hbw := hbw.trans (hb.mono hsz7)
              replace hb7 := hb7.trans (hb.mono (Nat.le_refl _))
              have hv3 := (Rd.of_own ho3).shape
              obtain ⟨A3_, c3_, e33, _⟩ := hv3
              refine EL.push row_elem rfl rfl ho3 (rd_dropV ((hR7.rd.rd).below hb7) hk) (fun u hu => hR7.oneCell u (List.mem_of_mem_drop hu)) (by omega) rfl hb7.size rfl ?_
              intro vn wn hon hgrn hbn _
              replace q1x := blk_grown q1x ho3 rfl hgrn
              replace hbw := hbw.trans (hbn.mono hsz7)
              replace hb7 := hb7.trans hbn
              have hRN := hR7.ins (own_less hl7 (Nat.zero_le _)) hb7 hk (own_less hon hsz7)
              rw [hat] at hRN
              obtain ⟨AN, cN, eN, _⟩ := (Rd.of_own hRN.own).shape
              subst eN
              obtain ⟨gN, eAN⟩ := own_slice hRN.own (by rw [List.length_append, List.length_append, List.length_singleton]; omega)
              subst eAN
              refine EL.val (x_assign rfl) rfl ?_
              refine EL.nil ?_
              refine EX.blk ?_
              refine EX.seq ?_
              refine EC.region ?_
              refine EL.val (x_move rfl) rfl ?_
              refine EL.val (x_add rfl rfl (c := ((x + 1 : Nat) : Int)) ((IntWalk.i64_in _ ⟨by first | omega | (simp only; omega), by first | omega | (simp only; omega)⟩).trans (by first | omega | (simp only; omega)))) rfl ?_
              refine EL.val (x_assign rfl) rfl ?_
              refine EL.nil ?_
              refine EX.roundD (x + 1, gN, cN, _) ⟨by rw [hnew]; rfl, rfl, trivial⟩ (by repeat first | with_reducible exact Sub.refl _ | refine sub_past rfl ?_ | exact Sub.refl _ | refine sub_del rfl ?_ | refine sub_insL_nil ?_) ⟨hlt, by rw [hnew]; exact hRN, q1x, hbw⟩ (by simp only; omega)
  ·
    have hxe : x = P2 := by omega
    subst hxe
    refine EC.seq ?_
    refine EC.seq ?_
    refine EC.region ?_
    refine EL.val (x_move rfl) rfl ?_
    refine EL.val (fa_25_2 rfl) rfl ?_
    refine EL.val (ld_23 rfl (q1x.at (j := 2) rfl)) rfl ?_
    refine EL.val (ln_23 rfl) rfl ?_
    refine EL.val (cv_3_104 rfl (u64_nat (by omega))) rfl ?_
    refine EL.val (x_shl1 rfl rfl (by omega)) rfl ?_
    refine EL.val (x_lss rfl rfl (decide_eq_false (show ¬((x : Nat) : Int) < ((2 ^ c.clues.length : Nat) : Int) by omega))) rfl ?_
    refine EL.nil ?_
    refine EX.seq ?_
    refine EC.no rfl ?_
    refine EC.exit ?_
    refine EX.seq_exit ?_
    refine EX.seq_exit ?_
    refine EX.blk_here ?_
    refine EX.seq ?_
    refine EC.seq ?_
    refine EC.region ?_
    refine EL.val (x_move rfl) rfl ?_
    refine EL.val (x_assign rfl) rfl ?_
    refine EL.nil ?_
    refine EX.seq ?_
    refine EC.ret ?_
    exact EX.done (res1 rfl rfl) ⟨⟨_, fs, rfl, by rw [eP2, refW_wrong hc] at hR; rw [eP2, refW_wrong hc]; exact hR⟩, hbw⟩
end Go.Proofs.Ytmaiiigijjfjfaa
set_option linter.unusedVariables false
set_option linter.unusedSimpArgs false
namespace Go.Proofs.Ytmaiiigijjfjfaa
open Go Go.RowKit
section
variable {n : Nat} {σ : Sg} {w : World} {dst : Option Tmp} {ty : TypeId} {pos : String} {af : Array Edge} {g : Option (Nat × Bool)} {x y z : Operand} {at' : Array TypeId}
theorem cl_35 {x0 : Operand} {v0 : Value} (h0 : evS σ x0 = some v0) (a : Act) (ha : Env n σ a) : (execOp a.eval ⟨dst, .call { callee := .value (.func 35), args := #[x0], argTypes := at' }, ty, pos, af, g⟩).run Try.prog w = .ok (.enter 35 #[v0]) w := by
  simp only [execOp, resolve, List.map_toArray, List.map_cons, List.map_nil, ha.eval h0]
  simp [go_sem, Act.eval]
theorem cl_36 {x0 : Operand} {v0 : Value} (h0 : evS σ x0 = some v0) (a : Act) (ha : Env n σ a) : (execOp a.eval ⟨dst, .call { callee := .value (.func 36), args := #[x0], argTypes := at' }, ty, pos, af, g⟩).run Try.prog w = .ok (.enter 36 #[v0]) w := by
  simp only [execOp, resolve, List.map_toArray, List.map_cons, List.map_nil, ha.eval h0]
  simp [go_sem, Act.eval]
end
end Go.Proofs.Ytmaiiigijjfjfaa
set_option linter.unusedVariables false
set_option linter.unusedSimpArgs false
namespace Go.Proofs.Ytmaiiigijjfjfaa
open Go Go.RowKit
theorem wrong_to {c : Case} {E : Int} {L : List (List Int)} (he : wrgErr c = E) (hL : wrgRes c = L) (vc vl : Value) (vs : List Value) (w : World) (B : Nat) (hr : RdCase w B vc vl c vs) (hB : B ≤ w.heap.size) (hn1 : c.clocks.length ≤ 1073741824) (hn2 : c.clues.length ≤ 1073741824) :
    Calls Try.prog 35 #[.agg #[.int .i64 c.events, vc, vl]] w fun e w' => (∃ v vs', e = .returned (.tuple #[v, .int .i64 E]) ∧ RdLL iC 1 w' w'.heap.size v L vs') ∧ Below w.heap.size w w' := he ▸ hL ▸ wrong_any c vc vl vs w B hr hB hn1 hn2
theorem wrgRes_no {c : Case} (h : wrgErr c ≠ 0) : wrgRes c = [] := if_neg h
theorem wrgRes_ok {c : Case} (h : wrgErr c = 0) : wrgRes c = wrongL c := if_pos h
theorem wrong_len {c : Case} (hc : caseB c = true) (h : c.clues.length ≤ 10) : (wrongL c).length ≤ 1024 := by
  rw [← refW_wrong hc]
  have h1 := refW_len c (2 ^ c.clues.length)
  have h2 : (2 : Nat) ^ c.clues.length ≤ 2 ^ 10 := Nat.pow_le_pow_right (by omega) h
  omega
theorem wrong_each {c : Case} (hc : caseB c = true) {i : Nat} (hi : i < (wrongL c).length) : ((wrongL c).getD i []).length ≤ c.clues.length := by
  have hm : (wrongL c).getD i [] ∈ wrongL c := by
    rw [show (wrongL c).getD i [] = (wrongL c)[i] by simp [List.getD, hi]]
    exact List.getElem_mem hi
  rw [← refW_wrong hc] at hm
  obtain ⟨s, _, _, e, _⟩ := (refW_inv c _ (Nat.le_refl _)).sound _ hm
  rw [refW_wrong hc] at e
  rw [e]
  exact bitsTo_len s _
set_option maxHeartbeats 4000000 in
set_option maxRecDepth 100000 in
theorem wrongs_law (c : Case) (vc vl : Value) (vs : List Value) (w : World) (B : Nat) (hr : RdCase w B vc vl c vs) (hB : B ≤ w.heap.size) (hn1 : c.clocks.length ≤ 9223372036854775807) (hn2 : c.clues.length ≤ 9223372036854775807) :
    Calls Try.prog 8 #[.agg #[.int .i64 c.events, vc, vl]] w fun e w' => e = .returned (.bool true) ∧ Below w.heap.size w w' := by
  obtain ⟨Ac, cc_, rfl, _⟩ := hr.clocks.shape
  obtain ⟨Al, cl_, rfl, _⟩ := hr.clues.rd.shape
  have hbw := Below.refl w.heap.size w
  refine EC.enter 89 Try.func8 rfl rfl rfl ?_
  refine EC.seq ?_
  refine EC.region ?_
  refine EL.newP (bx_25 rfl) rfl ?_
  intro g1 w1 q1 hb1 hg1 hl1
  have bhbw_1 := Nat.le_trans hbw.size hg1
  replace hbw := Below.on hbw hb1 hbw.size
  clear hb1 hg1 hl1
  refine EL.val (x_assign rfl) rfl ?_
  refine EL.nil ?_
  refine EX.seq ?_
  refine EC.seq ?_
  refine EC.seq ?_
  refine EC.region ?_
  refine EL.val (ld_25 rfl (q1.at (j := 0) rfl) (q1.at (j := 1) rfl) (q1.at (j := 2) rfl)) rfl ?_
  refine EL.call (cl_11 rfl) rfl (large_any c _ _ vs _ B (hr.below (hbw.mono hB)) (Nat.le_trans hB hbw.size) hn1 hn2) ?_
  rintro e wB ⟨⟨bB, rfl, hsm⟩, hcB⟩
  cases bB
  ·
    replace hsm := hsm rfl
    have hn1 : c.clocks.length ≤ 1073741824 := by have := hsm.clocks; omega
    have hn2 : c.clues.length ≤ 1073741824 := by have := hsm.clues; omega
    refine ⟨_, rfl, ?_⟩
    replace q1 := q1.below hcB q1.lt
    replace hbw := Below.on hbw hcB hbw.size
    clear hcB
    refine EL.val (x_move rfl) rfl ?_
    refine EL.valg rfl rfl (ld_25 rfl (q1.at (j := 0) rfl) (q1.at (j := 1) rfl) (q1.at (j := 2) rfl)) rfl ?_
    cases hcb : caseB c
    ·
      refine EL.callg rfl rfl (cl_19 rfl) rfl (rcase_any c _ _ vs _ B (hr.below (hbw.mono hB)) (Nat.le_trans hB hbw.size) hn1 hn2 hcb) ?_
      rintro e w2 ⟨rfl, hc2⟩
      refine ⟨_, rfl, ?_⟩
      replace q1 := q1.below hc2 q1.lt
      replace hbw := Below.on hbw hc2 hbw.size
      clear hc2
      refine EL.valg rfl rfl (x_move rfl) rfl ?_
      refine EL.skip rfl rfl rfl rfl ?_
      refine EL.skip rfl rfl rfl rfl ?_
      refine EL.skip rfl rfl rfl rfl ?_
      refine EL.skip rfl rfl rfl rfl ?_
      refine EL.valg rfl rfl (x_pick_f rfl rfl) rfl ?_
      refine EL.valg rfl rfl (x_move rfl) rfl ?_
      refine EL.skip rfl rfl rfl rfl ?_
      refine EL.skip rfl rfl rfl rfl ?_
      refine EL.skip rfl rfl rfl rfl ?_
      refine EL.valg rfl rfl (x_pick_f rfl rfl) rfl ?_
      refine EL.valg rfl rfl (x_move rfl) rfl ?_
      refine EL.skip rfl rfl rfl rfl ?_
      refine EL.skip rfl rfl rfl rfl ?_
      refine EL.skip rfl rfl rfl rfl ?_
      refine EL.skip rfl rfl rfl rfl ?_
      refine EL.skip rfl rfl rfl rfl ?_
      refine EL.skip rfl rfl rfl rfl ?_
      refine EL.skip rfl rfl rfl rfl ?_
      refine EL.skip rfl rfl rfl rfl ?_
      refine EL.skip rfl rfl rfl rfl ?_
      refine EL.valg rfl rfl (x_pick_f rfl rfl) rfl ?_
      refine EL.val (x_pick_f rfl rfl) rfl ?_
      refine EL.nil ?_
      refine EX.seq ?_
      refine EC.no rfl ?_
      refine EC.skip ?_
      refine EX.seq ?_
      refine EC.seq ?_
      refine EC.region ?_
      refine EL.val (ld_25 rfl (q1.at (j := 0) rfl) (q1.at (j := 1) rfl) (q1.at (j := 2) rfl)) rfl ?_
      refine EL.call (cl_14 rfl) rfl (copied_any c _ _ vs _ B (hr.below (hbw.mono hB)) (Nat.le_trans hB hbw.size) hn1 hn2 hsm) ?_
      rintro e w3 ⟨⟨va_, vb_, ws, rfl, hoc⟩, hc3⟩
      refine ⟨_, rfl, ?_⟩
      replace q1 := q1.below hc3 q1.lt
      replace hbw := Below.on hbw hc3 hbw.size
      clear hc3
      have hrc := hoc.rd
      obtain ⟨Ad, cd_, rfl, _⟩ := hrc.clocks.shape
      obtain ⟨Am, cm_, rfl, _⟩ := hrc.clues.rd.shape
      have hsw := hbw.size
      have hb1 := Below.refl w3.heap.size w3
      refine EL.newP al_25 rfl ?_
      intro g4 w4 q4 hb4 hg4 hl4
      have n1_4 : g1 ≠ g4 := Nat.ne_of_lt (Nat.lt_of_lt_of_le q1.lt hg4)
      have bhbw_4 := Nat.le_trans hbw.size hg4
      have bhb1_4 := Nat.le_trans hb1.size hg4
      replace q1 := q1.below hb4 q1.lt
      replace hbw := Below.on hbw hb4 hbw.size
      replace hb1 := Below.on hb1 hb4 hb1.size
      clear hb4 hg4 hl4
      refine EL.store rfl rfl q4 sz_25 rfl rfl rfl rfl ?_
      intro w5 hq5 hg5
      replace q1 := q1.grown hg5 (fun h => n1_4 (Option.some.inj h))
      replace hbw := below_store hbw hg5 bhbw_4
      replace hb1 := below_store hb1 hg5 bhb1_4
      replace q4 := hq5
      clear hg5 hq5
      refine EL.nil ?_
      refine EX.seq ?_
      refine EC.seq ?_
      refine EC.region ?_
      refine EL.val (ld_25 rfl (q4.at (j := 0) rfl) (q4.at (j := 1) rfl) (q4.at (j := 2) rfl)) rfl ?_
      refine EL.call (cl_35 rfl) rfl (wrong_to (wrg_bad (by rw [hcb]; decide)) (wrgRes_no (by rw [wrg_bad (by rw [hcb]; decide)]; decide)) _ _ ws _ _ (hrc.below hb1) hb1.size hn1 hn2) ?_
      rintro e w6 ⟨⟨vL, us, rfl, hrL⟩, hc6⟩
      refine ⟨_, rfl, ?_⟩
      replace q1 := q1.below hc6 q1.lt
      replace q4 := q4.below hc6 q4.lt
      replace hbw := Below.on hbw hc6 hbw.size
      replace hb1 := Below.on hb1 hc6 hb1.size
      clear hc6
      obtain ⟨AL, cL, rfl, _⟩ := hrL.rd.shape
      have hbL := Below.refl w6.heap.size w6
      refine EL.val (x_move rfl) rfl ?_
      refine EL.val (x_extract rfl rfl) rfl ?_
      refine EL.val (x_extract rfl rfl) rfl ?_
      refine EL.val (x_assign rfl) rfl ?_
      refine EL.val (x_assign rfl) rfl ?_
      refine EL.nil ?_
      refine EX.seq ?_
      refine EC.seq ?_
      refine EC.seq ?_
      refine EC.region ?_
      refine EL.val (ld_25 rfl (q4.at (j := 0) rfl) (q4.at (j := 1) rfl) (q4.at (j := 2) rfl)) rfl ?_
      refine EL.val (ld_25 rfl (q1.at (j := 0) rfl) (q1.at (j := 1) rfl) (q1.at (j := 2) rfl)) rfl ?_
      refine EL.call (cl_22 rfl rfl) rfl (unchanged_same c hsm _ _ _ _ ws vs _ _ (hrc.below hb1) ((hr.below (hbw.mono hB)).more (Nat.le_trans hB hsw))) ?_
      rintro e w7 ⟨rfl, hc7⟩
      refine ⟨_, rfl, ?_⟩
      replace q1 := q1.below hc7 q1.lt
      replace q4 := q4.below hc7 q4.lt
      replace hbw := Below.on hbw hc7 hbw.size
      replace hb1 := Below.on hb1 hc7 hb1.size
      replace hbL := Below.on hbL hc7 hbL.size
      clear hc7
      refine EL.val (x_not rfl) rfl ?_
      refine EL.nil ?_
      refine EX.seq ?_
      refine EC.no rfl ?_
      refine EC.skip ?_
      refine EX.seq ?_
      refine EC.seq ?_
      refine EC.seq ?_
      refine EC.region ?_
      refine EL.val (ld_25 rfl (q1.at (j := 0) rfl) (q1.at (j := 1) rfl) (q1.at (j := 2) rfl)) rfl ?_
      refine EL.call (cl_19 rfl) rfl (rcase_any c _ _ vs _ B (hr.below (hbw.mono hB)) (Nat.le_trans hB hbw.size) hn1 hn2 hcb) ?_
      rintro e w8 ⟨rfl, hc8⟩
      refine ⟨_, rfl, ?_⟩
      replace q1 := q1.below hc8 q1.lt
      replace q4 := q4.below hc8 q4.lt
      replace hbw := Below.on hbw hc8 hbw.size
      replace hb1 := Below.on hb1 hc8 hb1.size
      replace hbL := Below.on hbL hc8 hbL.size
      clear hc8
      refine EL.val (x_not rfl) rfl ?_
      refine EL.nil ?_
      refine EX.seq ?_
      refine EC.yes rfl ?_
      refine EC.seq ?_
      refine EC.region ?_
      refine EL.val (x_move rfl) rfl ?_
      refine EL.val (x_eql (r := true) rfl rfl (decide_eq_true rfl)) rfl ?_
      refine EL.val (x_move rfl) rfl ?_
      refine EL.valg rfl rfl (x_move rfl) rfl ?_
      refine EL.valg rfl rfl (ln_41 rfl) rfl ?_
      refine EL.valg rfl rfl (x_eql (r := true) rfl rfl (decide_eq_true rfl)) rfl ?_
      refine EL.val (x_pick_t rfl rfl) rfl ?_
      refine EL.val (x_move rfl) rfl ?_
      refine EL.callg rfl rfl cl_12 rfl (known_any _) ?_
      rintro e w9 ⟨rfl, hc9⟩
      refine ⟨_, rfl, ?_⟩
      replace q1 := q1.below hc9 q1.lt
      replace q4 := q4.below hc9 q4.lt
      replace hbw := Below.on hbw hc9 hbw.size
      replace hb1 := Below.on hb1 hc9 hb1.size
      replace hbL := Below.on hbL hc9 hbL.size
      clear hc9
      refine EL.val (x_pick_t rfl rfl) rfl ?_
      refine EL.val (x_assign rfl) rfl ?_
      refine EL.nil ?_
      refine EX.seq ?_
      refine EC.ret ?_
      refine EX.seq_ret ?_
      exact EX.done (res1 rfl rfl) ⟨rfl, hbw⟩
    ·
      refine EL.callg rfl rfl (cl_19 rfl) rfl (rcase_any c _ _ vs _ B (hr.below (hbw.mono hB)) (Nat.le_trans hB hbw.size) hn1 hn2 hcb) ?_
      rintro e w10 ⟨rfl, hc10⟩
      refine ⟨_, rfl, ?_⟩
      replace q1 := q1.below hc10 q1.lt
      replace hbw := Below.on hbw hc10 hbw.size
      clear hc10
      refine EL.valg rfl rfl (x_move rfl) rfl ?_
      refine EL.valg rfl rfl (fa_25_2 rfl) rfl ?_
      refine EL.valg rfl rfl (ld_23 rfl (q1.at (j := 2) rfl)) rfl ?_
      refine EL.valg rfl rfl (ln_23 rfl) rfl ?_
      by_cases h10 : 10 < c.clues.length
      ·
        refine EL.valg rfl rfl (x_leq (r := false) rfl rfl (by simp only [decide_eq_true_eq, decide_eq_false_iff_not]; omega)) rfl ?_
        refine EL.valg rfl rfl (x_pick_t rfl rfl) rfl ?_
        refine EL.valg rfl rfl (x_move rfl) rfl ?_
        refine EL.skip rfl rfl rfl rfl ?_
        refine EL.skip rfl rfl rfl rfl ?_
        refine EL.skip rfl rfl rfl rfl ?_
        refine EL.valg rfl rfl (x_pick_f rfl rfl) rfl ?_
        refine EL.valg rfl rfl (x_move rfl) rfl ?_
        refine EL.skip rfl rfl rfl rfl ?_
        refine EL.skip rfl rfl rfl rfl ?_
        refine EL.skip rfl rfl rfl rfl ?_
        refine EL.skip rfl rfl rfl rfl ?_
        refine EL.skip rfl rfl rfl rfl ?_
        refine EL.skip rfl rfl rfl rfl ?_
        refine EL.skip rfl rfl rfl rfl ?_
        refine EL.skip rfl rfl rfl rfl ?_
        refine EL.skip rfl rfl rfl rfl ?_
        refine EL.valg rfl rfl (x_pick_f rfl rfl) rfl ?_
        refine EL.val (x_pick_f rfl rfl) rfl ?_
        refine EL.nil ?_
        refine EX.seq ?_
        refine EC.no rfl ?_
        refine EC.skip ?_
        refine EX.seq ?_
        refine EC.seq ?_
        refine EC.region ?_
        refine EL.val (ld_25 rfl (q1.at (j := 0) rfl) (q1.at (j := 1) rfl) (q1.at (j := 2) rfl)) rfl ?_
        refine EL.call (cl_14 rfl) rfl (copied_any c _ _ vs _ B (hr.below (hbw.mono hB)) (Nat.le_trans hB hbw.size) hn1 hn2 hsm) ?_
        rintro e w11 ⟨⟨va_, vb_, ws, rfl, hoc⟩, hc11⟩
        refine ⟨_, rfl, ?_⟩
        replace q1 := q1.below hc11 q1.lt
        replace hbw := Below.on hbw hc11 hbw.size
        clear hc11
        have hrc := hoc.rd
        obtain ⟨Ad, cd_, rfl, _⟩ := hrc.clocks.shape
        obtain ⟨Am, cm_, rfl, _⟩ := hrc.clues.rd.shape
        have hsw := hbw.size
        have hb1 := Below.refl w11.heap.size w11
        refine EL.newP al_25 rfl ?_
        intro g12 w12 q12 hb12 hg12 hl12
        have n1_12 : g1 ≠ g12 := Nat.ne_of_lt (Nat.lt_of_lt_of_le q1.lt hg12)
        have bhbw_12 := Nat.le_trans hbw.size hg12
        have bhb1_12 := Nat.le_trans hb1.size hg12
        replace q1 := q1.below hb12 q1.lt
        replace hbw := Below.on hbw hb12 hbw.size
        replace hb1 := Below.on hb1 hb12 hb1.size
        clear hb12 hg12 hl12
        refine EL.store rfl rfl q12 sz_25 rfl rfl rfl rfl ?_
        intro w13 hq13 hg13
        replace q1 := q1.grown hg13 (fun h => n1_12 (Option.some.inj h))
        replace hbw := below_store hbw hg13 bhbw_12
        replace hb1 := below_store hb1 hg13 bhb1_12
        replace q12 := hq13
        clear hg13 hq13
        refine EL.nil ?_
        refine EX.seq ?_
        refine EC.seq ?_
        refine EC.region ?_
        refine EL.val (ld_25 rfl (q12.at (j := 0) rfl) (q12.at (j := 1) rfl) (q12.at (j := 2) rfl)) rfl ?_
        refine EL.call (cl_35 rfl) rfl (wrong_to (wrg_long hcb (.inl h10)) (wrgRes_no (by rw [wrg_long hcb (.inl h10)]; decide)) _ _ ws _ _ (hrc.below hb1) hb1.size hn1 hn2) ?_
        rintro e w14 ⟨⟨vL, us, rfl, hrL⟩, hc14⟩
        refine ⟨_, rfl, ?_⟩
        replace q1 := q1.below hc14 q1.lt
        replace q12 := q12.below hc14 q12.lt
        replace hbw := Below.on hbw hc14 hbw.size
        replace hb1 := Below.on hb1 hc14 hb1.size
        clear hc14
        obtain ⟨AL, cL, rfl, _⟩ := hrL.rd.shape
        have hbL := Below.refl w14.heap.size w14
        refine EL.val (x_move rfl) rfl ?_
        refine EL.val (x_extract rfl rfl) rfl ?_
        refine EL.val (x_extract rfl rfl) rfl ?_
        refine EL.val (x_assign rfl) rfl ?_
        refine EL.val (x_assign rfl) rfl ?_
        refine EL.nil ?_
        refine EX.seq ?_
        refine EC.seq ?_
        refine EC.seq ?_
        refine EC.region ?_
        refine EL.val (ld_25 rfl (q12.at (j := 0) rfl) (q12.at (j := 1) rfl) (q12.at (j := 2) rfl)) rfl ?_
        refine EL.val (ld_25 rfl (q1.at (j := 0) rfl) (q1.at (j := 1) rfl) (q1.at (j := 2) rfl)) rfl ?_
        refine EL.call (cl_22 rfl rfl) rfl (unchanged_same c hsm _ _ _ _ ws vs _ _ (hrc.below hb1) ((hr.below (hbw.mono hB)).more (Nat.le_trans hB hsw))) ?_
        rintro e w15 ⟨rfl, hc15⟩
        refine ⟨_, rfl, ?_⟩
        replace q1 := q1.below hc15 q1.lt
        replace q12 := q12.below hc15 q12.lt
        replace hbw := Below.on hbw hc15 hbw.size
        replace hb1 := Below.on hb1 hc15 hb1.size
        replace hbL := Below.on hbL hc15 hbL.size
        clear hc15
        refine EL.val (x_not rfl) rfl ?_
        refine EL.nil ?_
        refine EX.seq ?_
        refine EC.no rfl ?_
        refine EC.skip ?_
        refine EX.seq ?_
        refine EC.seq ?_
        refine EC.seq ?_
        refine EC.region ?_
        refine EL.val (ld_25 rfl (q1.at (j := 0) rfl) (q1.at (j := 1) rfl) (q1.at (j := 2) rfl)) rfl ?_
        refine EL.call (cl_19 rfl) rfl (rcase_any c _ _ vs _ B (hr.below (hbw.mono hB)) (Nat.le_trans hB hbw.size) hn1 hn2 hcb) ?_
        rintro e w16 ⟨rfl, hc16⟩
        refine ⟨_, rfl, ?_⟩
        replace q1 := q1.below hc16 q1.lt
        replace q12 := q12.below hc16 q12.lt
        replace hbw := Below.on hbw hc16 hbw.size
        replace hb1 := Below.on hb1 hc16 hb1.size
        replace hbL := Below.on hbL hc16 hbL.size
        clear hc16
        refine EL.val (x_not rfl) rfl ?_
        refine EL.nil ?_
        refine EX.seq ?_
        refine EC.no rfl ?_
        refine EC.skip ?_
        refine EX.seq ?_
        refine EC.seq ?_
        refine EC.seq ?_
        refine EC.region ?_
        refine EL.val (fa_25_2 rfl) rfl ?_
        refine EL.val (ld_23 rfl (q1.at (j := 2) rfl)) rfl ?_
        refine EL.val (ln_23 rfl) rfl ?_
        refine EL.val (x_gtr (r := true) rfl rfl (by simp only [decide_eq_true_eq, decide_eq_false_iff_not]; omega)) rfl ?_
        refine EL.val (x_move rfl) rfl ?_
        refine EL.skip rfl rfl rfl rfl ?_
        refine EL.skip rfl rfl rfl rfl ?_
        refine EL.skip rfl rfl rfl rfl ?_
        refine EL.val (x_pick_t rfl rfl) rfl ?_
        refine EL.nil ?_
        refine EX.seq ?_
        refine EC.yes rfl ?_
        refine EC.seq ?_
        refine EC.region ?_
        refine EL.val (x_move rfl) rfl ?_
        refine EL.val (x_eql (r := true) rfl rfl (decide_eq_true rfl)) rfl ?_
        refine EL.val (x_move rfl) rfl ?_
        refine EL.valg rfl rfl (x_move rfl) rfl ?_
        refine EL.valg rfl rfl (ln_41 rfl) rfl ?_
        refine EL.valg rfl rfl (x_eql (r := true) rfl rfl (decide_eq_true rfl)) rfl ?_
        refine EL.val (x_pick_t rfl rfl) rfl ?_
        refine EL.val (x_move rfl) rfl ?_
        refine EL.callg rfl rfl cl_12 rfl (known_any _) ?_
        rintro e w17 ⟨rfl, hc17⟩
        refine ⟨_, rfl, ?_⟩
        replace q1 := q1.below hc17 q1.lt
        replace q12 := q12.below hc17 q12.lt
        replace hbw := Below.on hbw hc17 hbw.size
        replace hb1 := Below.on hb1 hc17 hb1.size
        replace hbL := Below.on hbL hc17 hbL.size
        clear hc17
        refine EL.val (x_pick_t rfl rfl) rfl ?_
        refine EL.val (x_assign rfl) rfl ?_
        refine EL.nil ?_
        refine EX.seq ?_
        refine EC.ret ?_
        refine EX.seq_ret ?_
        exact EX.done (res1 rfl rfl) ⟨rfl, hbw⟩
      ·
        refine EL.valg rfl rfl (x_leq (r := true) rfl rfl (by simp only [decide_eq_true_eq, decide_eq_false_iff_not]; omega)) rfl ?_
        refine EL.valg rfl rfl (x_pick_t rfl rfl) rfl ?_
        refine EL.valg rfl rfl (x_move rfl) rfl ?_
        refine EL.valg rfl rfl (ld_25 rfl (q1.at (j := 0) rfl) (q1.at (j := 1) rfl) (q1.at (j := 2) rfl)) rfl ?_
        refine EL.callg rfl rfl (cl_20 rfl) rfl (rmany_any c _ _ vs _ B (hr.below (hbw.mono hB)) (Nat.le_trans hB hbw.size) hn1 hn2 hcb) ?_
        rintro e w18 ⟨rfl, hc18⟩
        refine ⟨_, rfl, ?_⟩
        replace q1 := q1.below hc18 q1.lt
        replace hbw := Below.on hbw hc18 hbw.size
        clear hc18
        by_cases hmn : 512 < manyC c
        ·
          refine EL.valg rfl rfl (x_leq (r := false) rfl rfl (by simp only [decide_eq_true_eq, decide_eq_false_iff_not]; omega)) rfl ?_
          refine EL.valg rfl rfl (x_pick_t rfl rfl) rfl ?_
          refine EL.valg rfl rfl (x_move rfl) rfl ?_
          refine EL.skip rfl rfl rfl rfl ?_
          refine EL.skip rfl rfl rfl rfl ?_
          refine EL.skip rfl rfl rfl rfl ?_
          refine EL.skip rfl rfl rfl rfl ?_
          refine EL.skip rfl rfl rfl rfl ?_
          refine EL.skip rfl rfl rfl rfl ?_
          refine EL.skip rfl rfl rfl rfl ?_
          refine EL.skip rfl rfl rfl rfl ?_
          refine EL.skip rfl rfl rfl rfl ?_
          refine EL.valg rfl rfl (x_pick_f rfl rfl) rfl ?_
          refine EL.val (x_pick_f rfl rfl) rfl ?_
          refine EL.nil ?_
          refine EX.seq ?_
          refine EC.no rfl ?_
          refine EC.skip ?_
          refine EX.seq ?_
          refine EC.seq ?_
          refine EC.region ?_
          refine EL.val (ld_25 rfl (q1.at (j := 0) rfl) (q1.at (j := 1) rfl) (q1.at (j := 2) rfl)) rfl ?_
          refine EL.call (cl_14 rfl) rfl (copied_any c _ _ vs _ B (hr.below (hbw.mono hB)) (Nat.le_trans hB hbw.size) hn1 hn2 hsm) ?_
          rintro e w19 ⟨⟨va_, vb_, ws, rfl, hoc⟩, hc19⟩
          refine ⟨_, rfl, ?_⟩
          replace q1 := q1.below hc19 q1.lt
          replace hbw := Below.on hbw hc19 hbw.size
          clear hc19
          have hrc := hoc.rd
          obtain ⟨Ad, cd_, rfl, _⟩ := hrc.clocks.shape
          obtain ⟨Am, cm_, rfl, _⟩ := hrc.clues.rd.shape
          have hsw := hbw.size
          have hb1 := Below.refl w19.heap.size w19
          refine EL.newP al_25 rfl ?_
          intro g20 w20 q20 hb20 hg20 hl20
          have n1_20 : g1 ≠ g20 := Nat.ne_of_lt (Nat.lt_of_lt_of_le q1.lt hg20)
          have bhbw_20 := Nat.le_trans hbw.size hg20
          have bhb1_20 := Nat.le_trans hb1.size hg20
          replace q1 := q1.below hb20 q1.lt
          replace hbw := Below.on hbw hb20 hbw.size
          replace hb1 := Below.on hb1 hb20 hb1.size
          clear hb20 hg20 hl20
          refine EL.store rfl rfl q20 sz_25 rfl rfl rfl rfl ?_
          intro w21 hq21 hg21
          replace q1 := q1.grown hg21 (fun h => n1_20 (Option.some.inj h))
          replace hbw := below_store hbw hg21 bhbw_20
          replace hb1 := below_store hb1 hg21 bhb1_20
          replace q20 := hq21
          clear hg21 hq21
          refine EL.nil ?_
          refine EX.seq ?_
          refine EC.seq ?_
          refine EC.region ?_
          refine EL.val (ld_25 rfl (q20.at (j := 0) rfl) (q20.at (j := 1) rfl) (q20.at (j := 2) rfl)) rfl ?_
          refine EL.call (cl_35 rfl) rfl (wrong_to (wrg_long hcb (.inr hmn)) (wrgRes_no (by rw [wrg_long hcb (.inr hmn)]; decide)) _ _ ws _ _ (hrc.below hb1) hb1.size hn1 hn2) ?_
          rintro e w22 ⟨⟨vL, us, rfl, hrL⟩, hc22⟩
          refine ⟨_, rfl, ?_⟩
          replace q1 := q1.below hc22 q1.lt
          replace q20 := q20.below hc22 q20.lt
          replace hbw := Below.on hbw hc22 hbw.size
          replace hb1 := Below.on hb1 hc22 hb1.size
          clear hc22
          obtain ⟨AL, cL, rfl, _⟩ := hrL.rd.shape
          have hbL := Below.refl w22.heap.size w22
          refine EL.val (x_move rfl) rfl ?_
          refine EL.val (x_extract rfl rfl) rfl ?_
          refine EL.val (x_extract rfl rfl) rfl ?_
          refine EL.val (x_assign rfl) rfl ?_
          refine EL.val (x_assign rfl) rfl ?_
          refine EL.nil ?_
          refine EX.seq ?_
          refine EC.seq ?_
          refine EC.seq ?_
          refine EC.region ?_
          refine EL.val (ld_25 rfl (q20.at (j := 0) rfl) (q20.at (j := 1) rfl) (q20.at (j := 2) rfl)) rfl ?_
          refine EL.val (ld_25 rfl (q1.at (j := 0) rfl) (q1.at (j := 1) rfl) (q1.at (j := 2) rfl)) rfl ?_
          refine EL.call (cl_22 rfl rfl) rfl (unchanged_same c hsm _ _ _ _ ws vs _ _ (hrc.below hb1) ((hr.below (hbw.mono hB)).more (Nat.le_trans hB hsw))) ?_
          rintro e w23 ⟨rfl, hc23⟩
          refine ⟨_, rfl, ?_⟩
          replace q1 := q1.below hc23 q1.lt
          replace q20 := q20.below hc23 q20.lt
          replace hbw := Below.on hbw hc23 hbw.size
          replace hb1 := Below.on hb1 hc23 hb1.size
          replace hbL := Below.on hbL hc23 hbL.size
          clear hc23
          refine EL.val (x_not rfl) rfl ?_
          refine EL.nil ?_
          refine EX.seq ?_
          refine EC.no rfl ?_
          refine EC.skip ?_
          refine EX.seq ?_
          refine EC.seq ?_
          refine EC.seq ?_
          refine EC.region ?_
          refine EL.val (ld_25 rfl (q1.at (j := 0) rfl) (q1.at (j := 1) rfl) (q1.at (j := 2) rfl)) rfl ?_
          refine EL.call (cl_19 rfl) rfl (rcase_any c _ _ vs _ B (hr.below (hbw.mono hB)) (Nat.le_trans hB hbw.size) hn1 hn2 hcb) ?_
          rintro e w24 ⟨rfl, hc24⟩
          refine ⟨_, rfl, ?_⟩
          replace q1 := q1.below hc24 q1.lt
          replace q20 := q20.below hc24 q20.lt
          replace hbw := Below.on hbw hc24 hbw.size
          replace hb1 := Below.on hb1 hc24 hb1.size
          replace hbL := Below.on hbL hc24 hbL.size
          clear hc24
          refine EL.val (x_not rfl) rfl ?_
          refine EL.nil ?_
          refine EX.seq ?_
          refine EC.no rfl ?_
          refine EC.skip ?_
          refine EX.seq ?_
          refine EC.seq ?_
          refine EC.seq ?_
          refine EC.region ?_
          refine EL.val (fa_25_2 rfl) rfl ?_
          refine EL.val (ld_23 rfl (q1.at (j := 2) rfl)) rfl ?_
          refine EL.val (ln_23 rfl) rfl ?_
          refine EL.val (x_gtr (r := false) rfl rfl (by simp only [decide_eq_true_eq, decide_eq_false_iff_not]; omega)) rfl ?_
          refine EL.val (x_move rfl) rfl ?_
          refine EL.valg rfl rfl (ld_25 rfl (q1.at (j := 0) rfl) (q1.at (j := 1) rfl) (q1.at (j := 2) rfl)) rfl ?_
          refine EL.callg rfl rfl (cl_20 rfl) rfl (rmany_any c _ _ vs _ B (hr.below (hbw.mono hB)) (Nat.le_trans hB hbw.size) hn1 hn2 hcb) ?_
          rintro e w25 ⟨rfl, hc25⟩
          refine ⟨_, rfl, ?_⟩
          replace q1 := q1.below hc25 q1.lt
          replace q20 := q20.below hc25 q20.lt
          replace hbw := Below.on hbw hc25 hbw.size
          replace hb1 := Below.on hb1 hc25 hb1.size
          replace hbL := Below.on hbL hc25 hbL.size
          clear hc25
          refine EL.valg rfl rfl (x_gtr (r := true) rfl rfl (by simp only [decide_eq_true_eq, decide_eq_false_iff_not]; omega)) rfl ?_
          refine EL.val (x_pick_f rfl rfl) rfl ?_
          refine EL.nil ?_
          refine EX.seq ?_
          refine EC.yes rfl ?_
          refine EC.seq ?_
          refine EC.region ?_
          refine EL.val (x_move rfl) rfl ?_
          refine EL.val (x_eql (r := true) rfl rfl (decide_eq_true rfl)) rfl ?_
          refine EL.val (x_move rfl) rfl ?_
          refine EL.valg rfl rfl (x_move rfl) rfl ?_
          refine EL.valg rfl rfl (ln_41 rfl) rfl ?_
          refine EL.valg rfl rfl (x_eql (r := true) rfl rfl (decide_eq_true rfl)) rfl ?_
          refine EL.val (x_pick_t rfl rfl) rfl ?_
          refine EL.val (x_move rfl) rfl ?_
          refine EL.callg rfl rfl cl_12 rfl (known_any _) ?_
          rintro e w26 ⟨rfl, hc26⟩
          refine ⟨_, rfl, ?_⟩
          replace q1 := q1.below hc26 q1.lt
          replace q20 := q20.below hc26 q20.lt
          replace hbw := Below.on hbw hc26 hbw.size
          replace hb1 := Below.on hb1 hc26 hb1.size
          replace hbL := Below.on hbL hc26 hbL.size
          clear hc26
          refine EL.val (x_pick_t rfl rfl) rfl ?_
          refine EL.val (x_assign rfl) rfl ?_
          refine EL.nil ?_
          refine EX.seq ?_
          refine EC.ret ?_
          refine EX.seq_ret ?_
          exact EX.done (res1 rfl rfl) ⟨rfl, hbw⟩
        ·
          refine EL.valg rfl rfl (x_leq (r := true) rfl rfl (by simp only [decide_eq_true_eq, decide_eq_false_iff_not]; omega)) rfl ?_
          refine EL.valg rfl rfl (x_pick_t rfl rfl) rfl ?_
          refine EL.valg rfl rfl (x_move rfl) rfl ?_
          refine EL.valg rfl rfl (fa_25_2 rfl) rfl ?_
          refine EL.valg rfl rfl (ld_23 rfl (q1.at (j := 2) rfl)) rfl ?_
          refine EL.valg rfl rfl (ln_23 rfl) rfl ?_
          by_cases h5 : 5 < c.clues.length
          ·
            refine EL.valg rfl rfl (x_gtr (r := true) rfl rfl (by simp only [decide_eq_true_eq, decide_eq_false_iff_not]; omega)) rfl ?_
            refine EL.valg rfl rfl (x_move rfl) rfl ?_
            refine EL.skip rfl rfl rfl rfl ?_
            refine EL.skip rfl rfl rfl rfl ?_
            refine EL.skip rfl rfl rfl rfl ?_
            refine EL.valg rfl rfl (x_pick_t rfl rfl) rfl ?_
            refine EL.valg rfl rfl (x_pick_t rfl rfl) rfl ?_
            refine EL.val (x_pick_f rfl rfl) rfl ?_
            refine EL.nil ?_
            refine EX.seq ?_
            refine EC.yes rfl ?_
            refine EC.seq ?_
            refine EC.region ?_
            refine EL.call cl_12 rfl (known_any _) ?_
            rintro e w27 ⟨rfl, hc27⟩
            refine ⟨_, rfl, ?_⟩
            replace q1 := q1.below hc27 q1.lt
            replace hbw := Below.on hbw hc27 hbw.size
            clear hc27
            refine EL.val (x_assign rfl) rfl ?_
            refine EL.nil ?_
            refine EX.seq ?_
            refine EC.ret ?_
            refine EX.seq_ret ?_
            exact EX.done (res1 rfl rfl) ⟨rfl, hbw⟩
          ·
            refine EL.valg rfl rfl (x_gtr (r := false) rfl rfl (by simp only [decide_eq_true_eq, decide_eq_false_iff_not]; omega)) rfl ?_
            refine EL.valg rfl rfl (x_move rfl) rfl ?_
            refine EL.valg rfl rfl (ld_25 rfl (q1.at (j := 0) rfl) (q1.at (j := 1) rfl) (q1.at (j := 2) rfl)) rfl ?_
            refine EL.callg rfl rfl (cl_20 rfl) rfl (rmany_any c _ _ vs _ B (hr.below (hbw.mono hB)) (Nat.le_trans hB hbw.size) hn1 hn2 hcb) ?_
            rintro e w28 ⟨rfl, hc28⟩
            refine ⟨_, rfl, ?_⟩
            replace q1 := q1.below hc28 q1.lt
            replace hbw := Below.on hbw hc28 hbw.size
            clear hc28
            by_cases h12 : 12 < manyC c
            ·
              refine EL.valg rfl rfl (x_gtr (r := true) rfl rfl (by simp only [decide_eq_true_eq, decide_eq_false_iff_not]; omega)) rfl ?_
              refine EL.valg rfl rfl (x_pick_f rfl rfl) rfl ?_
              refine EL.valg rfl rfl (x_pick_t rfl rfl) rfl ?_
              refine EL.val (x_pick_f rfl rfl) rfl ?_
              refine EL.nil ?_
              refine EX.seq ?_
              refine EC.yes rfl ?_
              refine EC.seq ?_
              refine EC.region ?_
              refine EL.call cl_12 rfl (known_any _) ?_
              rintro e w29 ⟨rfl, hc29⟩
              refine ⟨_, rfl, ?_⟩
              replace q1 := q1.below hc29 q1.lt
              replace hbw := Below.on hbw hc29 hbw.size
              clear hc29
              refine EL.val (x_assign rfl) rfl ?_
              refine EL.nil ?_
              refine EX.seq ?_
              refine EC.ret ?_
              refine EX.seq_ret ?_
              exact EX.done (res1 rfl rfl) ⟨rfl, hbw⟩
            ·
              refine EL.valg rfl rfl (x_gtr (r := false) rfl rfl (by simp only [decide_eq_true_eq, decide_eq_false_iff_not]; omega)) rfl ?_
              refine EL.valg rfl rfl (x_pick_f rfl rfl) rfl ?_
              refine EL.valg rfl rfl (x_pick_t rfl rfl) rfl ?_
              refine EL.val (x_pick_f rfl rfl) rfl ?_
              refine EL.nil ?_
              refine EX.seq ?_
              refine EC.no rfl ?_
              refine EC.skip ?_
              refine EX.seq ?_
              refine EC.seq ?_
              refine EC.region ?_
              refine EL.val (ld_25 rfl (q1.at (j := 0) rfl) (q1.at (j := 1) rfl) (q1.at (j := 2) rfl)) rfl ?_
              refine EL.call (cl_14 rfl) rfl (copied_any c _ _ vs _ B (hr.below (hbw.mono hB)) (Nat.le_trans hB hbw.size) hn1 hn2 hsm) ?_
              rintro e w30 ⟨⟨va_, vb_, ws, rfl, hoc⟩, hc30⟩
              refine ⟨_, rfl, ?_⟩
              replace q1 := q1.below hc30 q1.lt
              replace hbw := Below.on hbw hc30 hbw.size
              clear hc30
              have hrc := hoc.rd
              obtain ⟨Ad, cd_, rfl, _⟩ := hrc.clocks.shape
              obtain ⟨Am, cm_, rfl, _⟩ := hrc.clues.rd.shape
              have hsw := hbw.size
              have hb1 := Below.refl w30.heap.size w30
              refine EL.newP al_25 rfl ?_
              intro g31 w31 q31 hb31 hg31 hl31
              have n1_31 : g1 ≠ g31 := Nat.ne_of_lt (Nat.lt_of_lt_of_le q1.lt hg31)
              have bhbw_31 := Nat.le_trans hbw.size hg31
              have bhb1_31 := Nat.le_trans hb1.size hg31
              replace q1 := q1.below hb31 q1.lt
              replace hbw := Below.on hbw hb31 hbw.size
              replace hb1 := Below.on hb1 hb31 hb1.size
              clear hb31 hg31 hl31
              refine EL.store rfl rfl q31 sz_25 rfl rfl rfl rfl ?_
              intro w32 hq32 hg32
              replace q1 := q1.grown hg32 (fun h => n1_31 (Option.some.inj h))
              replace hbw := below_store hbw hg32 bhbw_31
              replace hb1 := below_store hb1 hg32 bhb1_31
              replace q31 := hq32
              clear hg32 hq32
              refine EL.nil ?_
              refine EX.seq ?_
              refine EC.seq ?_
              refine EC.region ?_
              refine EL.val (ld_25 rfl (q31.at (j := 0) rfl) (q31.at (j := 1) rfl) (q31.at (j := 2) rfl)) rfl ?_
              refine EL.call (cl_35 rfl) rfl (wrong_to (wrg_ok hcb h10 hmn) (wrgRes_ok (wrg_ok hcb h10 hmn)) _ _ ws _ _ (hrc.below hb1) hb1.size hn1 hn2) ?_
              rintro e w33 ⟨⟨vL, us, rfl, hrL⟩, hc33⟩
              refine ⟨_, rfl, ?_⟩
              replace q1 := q1.below hc33 q1.lt
              replace q31 := q31.below hc33 q31.lt
              replace hbw := Below.on hbw hc33 hbw.size
              replace hb1 := Below.on hb1 hc33 hb1.size
              clear hc33
              obtain ⟨AL, cL, rfl, _⟩ := hrL.rd.shape
              have hbL := Below.refl w33.heap.size w33
              refine EL.val (x_move rfl) rfl ?_
              refine EL.val (x_extract rfl rfl) rfl ?_
              refine EL.val (x_extract rfl rfl) rfl ?_
              refine EL.val (x_assign rfl) rfl ?_
              refine EL.val (x_assign rfl) rfl ?_
              refine EL.nil ?_
              refine EX.seq ?_
              refine EC.seq ?_
              refine EC.seq ?_
              refine EC.region ?_
              refine EL.val (ld_25 rfl (q31.at (j := 0) rfl) (q31.at (j := 1) rfl) (q31.at (j := 2) rfl)) rfl ?_
              refine EL.val (ld_25 rfl (q1.at (j := 0) rfl) (q1.at (j := 1) rfl) (q1.at (j := 2) rfl)) rfl ?_
              refine EL.call (cl_22 rfl rfl) rfl (unchanged_same c hsm _ _ _ _ ws vs _ _ (hrc.below hb1) ((hr.below (hbw.mono hB)).more (Nat.le_trans hB hsw))) ?_
              rintro e w34 ⟨rfl, hc34⟩
              refine ⟨_, rfl, ?_⟩
              replace q1 := q1.below hc34 q1.lt
              replace q31 := q31.below hc34 q31.lt
              replace hbw := Below.on hbw hc34 hbw.size
              replace hb1 := Below.on hb1 hc34 hb1.size
              replace hbL := Below.on hbL hc34 hbL.size
              clear hc34
              refine EL.val (x_not rfl) rfl ?_
              refine EL.nil ?_
              refine EX.seq ?_
              refine EC.no rfl ?_
              refine EC.skip ?_
              refine EX.seq ?_
              refine EC.seq ?_
              refine EC.seq ?_
              refine EC.region ?_
              refine EL.val (ld_25 rfl (q1.at (j := 0) rfl) (q1.at (j := 1) rfl) (q1.at (j := 2) rfl)) rfl ?_
              refine EL.call (cl_19 rfl) rfl (rcase_any c _ _ vs _ B (hr.below (hbw.mono hB)) (Nat.le_trans hB hbw.size) hn1 hn2 hcb) ?_
              rintro e w35 ⟨rfl, hc35⟩
              refine ⟨_, rfl, ?_⟩
              replace q1 := q1.below hc35 q1.lt
              replace q31 := q31.below hc35 q31.lt
              replace hbw := Below.on hbw hc35 hbw.size
              replace hb1 := Below.on hb1 hc35 hb1.size
              replace hbL := Below.on hbL hc35 hbL.size
              clear hc35
              refine EL.val (x_not rfl) rfl ?_
              refine EL.nil ?_
              refine EX.seq ?_
              refine EC.no rfl ?_
              refine EC.skip ?_
              refine EX.seq ?_
              refine EC.seq ?_
              refine EC.seq ?_
              refine EC.region ?_
              refine EL.val (fa_25_2 rfl) rfl ?_
              refine EL.val (ld_23 rfl (q1.at (j := 2) rfl)) rfl ?_
              refine EL.val (ln_23 rfl) rfl ?_
              refine EL.val (x_gtr (r := false) rfl rfl (by simp only [decide_eq_true_eq, decide_eq_false_iff_not]; omega)) rfl ?_
              refine EL.val (x_move rfl) rfl ?_
              refine EL.valg rfl rfl (ld_25 rfl (q1.at (j := 0) rfl) (q1.at (j := 1) rfl) (q1.at (j := 2) rfl)) rfl ?_
              refine EL.callg rfl rfl (cl_20 rfl) rfl (rmany_any c _ _ vs _ B (hr.below (hbw.mono hB)) (Nat.le_trans hB hbw.size) hn1 hn2 hcb) ?_
              rintro e w36 ⟨rfl, hc36⟩
              refine ⟨_, rfl, ?_⟩
              replace q1 := q1.below hc36 q1.lt
              replace q31 := q31.below hc36 q31.lt
              replace hbw := Below.on hbw hc36 hbw.size
              replace hb1 := Below.on hb1 hc36 hb1.size
              replace hbL := Below.on hbL hc36 hbL.size
              clear hc36
              refine EL.valg rfl rfl (x_gtr (r := false) rfl rfl (by simp only [decide_eq_true_eq, decide_eq_false_iff_not]; omega)) rfl ?_
              refine EL.val (x_pick_f rfl rfl) rfl ?_
              refine EL.nil ?_
              refine EX.seq ?_
              refine EC.no rfl ?_
              refine EC.skip ?_
              refine EX.seq ?_
              refine EC.seq ?_
              refine EC.region ?_
              refine EL.val (x_move rfl) rfl ?_
              refine EL.val (x_eql (r := true) rfl rfl (decide_eq_true rfl)) rfl ?_
              refine EL.val (x_move rfl) rfl ?_
              refine EL.valg rfl rfl (x_move rfl) rfl ?_
              refine EL.valg rfl rfl (ld_25 rfl (q1.at (j := 0) rfl) (q1.at (j := 1) rfl) (q1.at (j := 2) rfl)) rfl ?_
              refine EL.callg rfl rfl (cl_36 rfl) rfl (rwrong_any c _ _ vs _ B (hr.below (hbw.mono hB)) (Nat.le_trans hB hbw.size) hn1 hn2 hcb (by omega)) ?_
              rintro e w37 ⟨⟨vC, fs, rfl, hLL⟩, hc37⟩
              refine ⟨_, rfl, ?_⟩
              replace q1 := q1.below hc37 q1.lt
              replace q31 := q31.below hc37 q31.lt
              replace hbw := Below.on hbw hc37 hbw.size
              replace hb1 := Below.on hb1 hc37 hb1.size
              replace hbL := Below.on hbL hc37 hbL.size
              clear hc37
              have hrC := hLL.rd
              obtain ⟨AC, cC, rfl, _⟩ := hrC.rd.shape
              refine EL.callg rfl rfl (cl_23 rfl rfl) rfl (same_same (wrongL c) _ _ us fs _ _ ((hrL.below hbL).more hbL.size) hrC (Nat.le_refl _) (by have := wrong_len (c := c) hcb (by omega); omega) (fun i hi => by have := wrong_each hcb hi; omega)) ?_
              rintro e w38 ⟨rfl, hc38⟩
              refine ⟨_, rfl, ?_⟩
              replace q1 := q1.below hc38 q1.lt
              replace q31 := q31.below hc38 q31.lt
              replace hbw := Below.on hbw hc38 hbw.size
              replace hb1 := Below.on hb1 hc38 hb1.size
              replace hbL := Below.on hbL hc38 hbL.size
              clear hc38
              refine EL.val (x_pick_t rfl rfl) rfl ?_
              refine EL.val (x_move rfl) rfl ?_
              refine EL.callg rfl rfl cl_12 rfl (known_any _) ?_
              rintro e w39 ⟨rfl, hc39⟩
              refine ⟨_, rfl, ?_⟩
              replace q1 := q1.below hc39 q1.lt
              replace q31 := q31.below hc39 q31.lt
              replace hbw := Below.on hbw hc39 hbw.size
              replace hb1 := Below.on hb1 hc39 hb1.size
              replace hbL := Below.on hbL hc39 hbL.size
              clear hc39
              refine EL.val (x_pick_t rfl rfl) rfl ?_
              refine EL.val (x_assign rfl) rfl ?_
              refine EL.nil ?_
              refine EX.seq ?_
              refine EC.ret ?_
              exact EX.done (res1 rfl rfl) ⟨rfl, hbw⟩
  ·
    refine ⟨_, rfl, ?_⟩
    replace q1 := q1.below hcB q1.lt
    replace hbw := Below.on hbw hcB hbw.size
    clear hcB
    refine EL.val (x_move rfl) rfl ?_
    refine EL.skip rfl rfl rfl rfl ?_
    refine EL.skip rfl rfl rfl rfl ?_
    refine EL.skip rfl rfl rfl rfl ?_
    refine EL.skip rfl rfl rfl rfl ?_
    refine EL.skip rfl rfl rfl rfl ?_
    refine EL.skip rfl rfl rfl rfl ?_
    refine EL.skip rfl rfl rfl rfl ?_
    refine EL.skip rfl rfl rfl rfl ?_
    refine EL.skip rfl rfl rfl rfl ?_
    refine EL.skip rfl rfl rfl rfl ?_
    refine EL.skip rfl rfl rfl rfl ?_
    refine EL.skip rfl rfl rfl rfl ?_
    refine EL.skip rfl rfl rfl rfl ?_
    refine EL.skip rfl rfl rfl rfl ?_
    refine EL.skip rfl rfl rfl rfl ?_
    refine EL.skip rfl rfl rfl rfl ?_
    refine EL.skip rfl rfl rfl rfl ?_
    refine EL.skip rfl rfl rfl rfl ?_
    refine EL.skip rfl rfl rfl rfl ?_
    refine EL.skip rfl rfl rfl rfl ?_
    refine EL.skip rfl rfl rfl rfl ?_
    refine EL.skip rfl rfl rfl rfl ?_
    refine EL.skip rfl rfl rfl rfl ?_
    refine EL.skip rfl rfl rfl rfl ?_
    refine EL.val (x_pick_t rfl rfl) rfl ?_
    refine EL.nil ?_
    refine EX.seq ?_
    refine EC.yes rfl ?_
    refine EC.seq ?_
    refine EC.region ?_
    refine EL.call cl_12 rfl (known_any _) ?_
    rintro e w40 ⟨rfl, hc40⟩
    refine ⟨_, rfl, ?_⟩
    replace q1 := q1.below hc40 q1.lt
    replace hbw := Below.on hbw hc40 hbw.size
    clear hc40
    refine EL.val (x_assign rfl) rfl ?_
    refine EL.nil ?_
    refine EX.seq ?_
    refine EC.ret ?_
    refine EX.seq_ret ?_
    exact EX.done (res1 rfl rfl) ⟨rfl, hbw⟩
end Go.Proofs.Ytmaiiigijjfjfaa
