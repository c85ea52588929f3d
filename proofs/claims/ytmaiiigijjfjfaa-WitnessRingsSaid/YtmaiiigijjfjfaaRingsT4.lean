/- X24, WLift2: what WitnessRingsProof needs of them (merged by trimpack.py). -/
import Derived.Test.YtmaiiigijjfjfaaRingsT3
set_option linter.unusedVariables false
set_option linter.unusedSimpArgs false
namespace Go.Proofs.Ytmaiiigijjfjfaa
open Go Go.RowKit
def u8s (l : List Int) : List Value := l.map fun x => .int .u8 x
theorem part_any (l : List Int) (v : Value) (i : Nat) (w : World) (B : Nat) (hr : Rd w B 1 v l.length (u8s l)) (hn : l.length ≤ 9223372036854775807) :
    Calls Try.prog 34 #[v, .int .i64 (i : Nat)] w fun e w' => e = .returned (.int .u8 (partI l i)) ∧ Below w.heap.size w w' := by
  obtain ⟨A, c, rfl, _⟩ := hr.shape
  have hbw := Below.refl w.heap.size w
  refine EC.enter 15 Try.func34 rfl rfl rfl ?_
  refine EC.seq ?_
  refine EC.region ?_
  refine EL.val (x_assign rfl) rfl ?_
  refine EL.nil ?_
  refine EX.seq ?_
  refine EC.seq ?_
  refine EC.seq ?_
  refine EC.region ?_
  refine EL.val (x_move rfl) rfl ?_
  refine EL.val (ln_63 rfl) rfl ?_
  by_cases h0 : l.length = 0
  ·
    have hp : partI l i = 0 := by rw [partI, if_pos h0]
    refine EL.val (x_eql rfl rfl (by first | assumption | exact decide_eq_true (by omega))) rfl ?_
    refine EL.nil ?_
    refine EX.seq ?_
    refine EC.yes rfl ?_
    refine EC.seq ?_
    refine EC.region ?_
    refine EL.val (x_assign rfl) rfl ?_
    refine EL.nil ?_
    refine EX.seq ?_
    refine EC.ret ?_
    refine EX.seq_ret ?_
    exact EX.done (res1 rfl rfl) ⟨by rw [hp], hbw⟩
  ·
    have hk : i % l.length < l.length := Nat.mod_lt _ (by omega)
    have hp : partI l i = l.getD (i % l.length) 0 := by rw [partI, if_neg h0]
    obtain ⟨b, o, rfl, _, hc⟩ := hr.at_ (by omega)
    have c0 := hc (i % l.length) (.int .u8 (partI l i)) (by rw [hp]; simp [u8s, hk])
    refine EL.val (x_eql rfl rfl (by first | assumption | exact decide_eq_false (by omega))) rfl ?_
    refine EL.nil ?_
    refine EX.seq ?_
    refine EC.no rfl ?_
    refine EC.skip ?_
    refine EX.seq ?_
    refine EC.seq ?_
    refine EC.region ?_
    refine EL.val (x_move rfl) rfl ?_
    refine EL.val (x_move rfl) rfl ?_
    refine EL.val (x_move rfl) rfl ?_
    refine EL.val (ln_63 rfl) rfl ?_
    refine EL.val (x_rem rfl rfl (c := ((i % l.length : Nat) : Int)) (by omega) rfl) rfl ?_
    refine EL.val (ix_63 rfl rfl hk) rfl ?_
    refine EL.val (ld_5 rfl c0) rfl ?_
    refine EL.val (x_assign rfl) rfl ?_
    refine EL.nil ?_
    refine EX.seq ?_
    refine EC.ret ?_
    exact EX.done (res1 rfl rfl) ⟨rfl, hbw⟩
section
variable {P : Program} {n : Nat} {L : List Oper} {Q : Exit → Act → World → Prop} {rest : List Oper} {σ : Sg} {w : World}
theorem EL.pushF {d ty t e size bytes base B m k : Nat} {s x : Operand} {pos : String} {af : Array Edge} {A : Option Addr} (E : Elem P t e size bytes) {src : Value} {xs news : List Value} (hs : evS σ s = some (.slice A k k)) (hx : evS σ x = some src) (hown : w.ownsRow base e size (.slice A k k) k xs) (hr : Rd w B size src m news) (h1 : ∀ u ∈ news, u.oneCell' = true) (hm : k + m ≤ 1048576) (hby : Nat.ble bytes 1048576 = true) (hbase : base ≤ w.heap.size) (hd : Nat.blt d n = true)
    (next : ∀ v' w', w'.ownsRow base e size v' (k + m) (xs ++ news) → Below w.heap.size w w' → (m = 0 ∨ v'.ownBlock = some w.heap.size) → EL P n L Q rest (ins σ d v') w') : EL P n L Q (⟨some d, .call { callee := .builtin .append, args := #[s, x], argTypes := #[t, t] }, ty, pos, af, none⟩ :: rest) σ w := fun a ha => by
  obtain ⟨v', w', h2, h3, h4, h5⟩ := run_full (P := P) (ty := ty) E hown hr h1 hm (by simpa [Nat.ble_eq] using hby) hbase
  exact wpL_run (wanted_none rfl _) (run_append_call rfl (ha.eval hs) (ha.eval hx) h2) (next v' w' h3 h4 h5 _ (ha.put hd v'))
end
theorem blk_type {w w' : World} {g k T T' : Nat} {cs cs' : Array Value} (h : Blk w g T cs) (hq : Blk w k T' cs') (hT : Nat.beq T' T = false) (hg : w.grownBy w' (some k)) : Blk w' g T cs := h.grown hg fun e => by
  injection e with e
  subst e
  unfold Blk at h hq
  rw [hq] at h
  injection h with h
  injection h with _ h
  subst h
  rw [Nat.beq_refl] at hT
  cases hT
theorem mono_bs1 {k T C : Nat} {f : Nat → Value} {cs : Array Value} : Mono fun r w => ∃ g, r k = f g ∧ Blk w g T cs ∧ C ≤ g := fun _ _ _ hb ⟨g, h1, h2, h3⟩ => ⟨g, h1, h2.below hb h2.lt, h3⟩
theorem mono_bs2 {k T T' C : Nat} {f : Nat → Value} {h : Nat → Array Value} {cs : Array Value} : Mono fun r w => ∃ q g, r k = f q ∧ Blk w q T' (h g) ∧ Blk w g T cs ∧ C ≤ g ∧ C ≤ q := fun _ _ _ hb ⟨q, g, h1, h4, h2, h3, h5⟩ => ⟨q, g, h1, h4.below hb h4.lt, h2.below hb h2.lt, h3, h5⟩
theorem OwnClues.grown {W W' : World} {base base2 e2 size2 m : Nat} {vb u : Value} {l : List (List Opt)} {vs ys : List Value} (h : OwnClues W base vb l vs) (hu : W.ownsRow base2 e2 size2 u m ys) (h1 : Nat.beq e2 74 = false) (h2 : Nat.beq e2 71 = false) (hg : W.grownBy W' u.ownBlock) : OwnClues W' base vb l vs := ⟨h.len, own_grown h.own hu h1 hg, fun i hi => own_grown (h.row i hi) hu h2 hg, h.apart⟩
theorem part_bd {l : List Int} (h : ∀ y ∈ l, 0 ≤ y ∧ y ≤ 255) (i : Nat) : 0 ≤ partI l i ∧ partI l i ≤ 255 := by
  unfold partI
  by_cases h0 : l.length = 0
  · rw [if_pos h0]; omega
  · rw [if_neg h0]
    have hk : i % l.length < l.length := Nat.mod_lt _ (by omega)
    rw [show l.getD (i % l.length) 0 = l[i % l.length] by simp [List.getD, hk]]
    exact h _ (List.getElem_mem hk)
theorem part_mod {x : Int} {n : Nat} (h : 0 ≤ x) : x.tmod ((n : Nat) : Int) = ((x.toNat % n : Nat) : Int) := by
  obtain ⟨k, rfl⟩ : ∃ k : Nat, x = k := ⟨x.toNat, by omega⟩
  rfl
theorem bare_small {c : Case} {b : List Int} (h1 : c.clues.length ≤ 25) (h2 : c.clocks.length ≤ 12) : Small (bareC c b) := ⟨by rw [show (bareC c b).clues.length = c.clues.length from bareL_len _ _ _]; exact h1, h2, fun j hj => by
  rw [show (bareC c b).clues.length = c.clues.length from bareL_len _ _ _] at hj
  rw [show (bareC c b).clues.getD j [] = [chosen c b j] from bareL_get hj]
  exact (by decide : 1 ≤ 5)⟩
theorem own_some {W : World} {base e x cF : Nat} {AF : Option Addr} {vc : Value} {xs : List Value} (h : W.ownsRow base e 1 (.slice AF x cF) x xs) (h0 : x = 0 → ∃ g g', vc = .slice (some ⟨g, 0, none⟩) 0 0 ∧ Value.slice AF x cF = .slice (some ⟨g', 0, none⟩) 0 0) : ∃ g, AF = some ⟨g, 0, none⟩ := by
  by_cases e : x = 0
  · obtain ⟨_, g, _, h1⟩ := h0 e
    injection h1 with h1
    exact ⟨g, h1⟩
  · exact own_slice h (by omega)
theorem opt_clock {c : Case} {o : Opt} (h : optB c o = true) : 0 ≤ o.clock ∧ o.clock ≤ ((c.clocks.length : Nat) : Int) := by
  simp only [optB, Bool.and_eq_true, inB_iff, bdOk_iff] at h
  obtain ⟨_, _, h3⟩ := h
  by_cases hk : o.kind = 1
  · rw [if_pos hk] at h3
    simp only [Bool.and_eq_true, inB_iff] at h3
    omega
  · rw [if_neg hk] at h3
    simp only [Bool.and_eq_true, inB_iff, decide_eq_true_eq] at h3
    omega
theorem link_cases (sn : Bool) (X D1 D2 : Lnk) : sn = true ∨ (sn = false ∧ X = D1) ∨ (sn = false ∧ X ≠ D1 ∧ X = D2) ∨ (sn = false ∧ X ≠ D1 ∧ X ≠ D2) := by
  cases sn
  · by_cases h1 : X = D1
    · exact .inr (.inl ⟨rfl, h1⟩)
    · by_cases h2 : X = D2
      · exact .inr (.inr (.inl ⟨rfl, h1, h2⟩))
      · exact .inr (.inr (.inr ⟨rfl, h1, h2⟩))
  · exact .inl rfl
theorem not_used {c : Case} {r : List Lnk} {p : Opt} {D1 D2 : Lnk} (he : optL c p = [D1, D2]) (h : ∀ j, j < r.length → r.getD j lnk0 ≠ D1 ∧ r.getD j lnk0 ≠ D2) : usedB c r p = false := by
  cases e : usedB c r p
  · rfl
  · exfalso
    obtain ⟨x, hx, hy⟩ := used_iff.1 e
    obtain ⟨j, hj, ej⟩ := mem_getD (d := lnk0) hx
    obtain ⟨h1, h2⟩ := h j hj
    rw [ej] at h1 h2
    rw [he] at hy
    simp only [List.mem_cons, List.not_mem_nil, or_false] at hy
    rcases hy with h | h
    · exact h1 h
    · exact h2 h
theorem rows_snoc {w : World} {B : Nat} {L : List (List Opt)} {fs : List Value} {v : Value} {l : List Opt} (hl : fs.length = L.length) (h : ∀ i, i < L.length → Rd w B 6 (fs.getD i undef) (L.getD i []).length (optsC (L.getD i []))) (hv : Rd w B 6 v l.length (optsC l)) : ∀ i, i < (L ++ [l]).length → Rd w B 6 ((fs ++ [v]).getD i undef) ((L ++ [l]).getD i []).length (optsC ((L ++ [l]).getD i [])) := fun i hi => by
  rw [getD_end, getD_end, hl]
  by_cases h1 : i < L.length
  · rw [if_pos h1, if_pos h1]
    exact h i h1
  · have h2 : i = L.length := by simp at hi; omega
    rw [if_neg h1, if_neg h1, if_pos h2, if_pos h2]
    exact hv
theorem rd_zeros {w : World} {B b o n m cF : Nat} (h : Rd w B 1 (.slice (some ⟨b, o, none⟩) n cF) n (ints (zeros n))) (hm : m ≤ n) : Rd w B 1 (.slice (some ⟨b, o, none⟩) m cF) m (ints (zeros m)) := by
  obtain ⟨_, A, c', e, hc, hr⟩ := h
  injection e with e1 _ e3
  subst e1
  subst e3
  refine ⟨by simp [ints, zeros], _, _, rfl, by omega, fun h0 => ?_⟩
  obtain ⟨b', o', e, hb, hcell⟩ := hr (by omega)
  refine ⟨b', o', e, hb, fun j u hu => hcell j u ?_⟩
  have hj := (List.getElem?_eq_some_iff.1 hu).1
  simp only [ints, zeros, List.length_map, List.length_replicate] at hj
  simp only [ints, zeros, List.map_replicate, List.getElem?_replicate] at hu ⊢
  rw [if_pos (by omega)] at hu ⊢
  exact hu
set_option maxHeartbeats 8000000 in
set_option maxRecDepth 100000 in
theorem rings_law (c : Case) (vc vl : Value) (vs : List Value) (w : World) (B : Nat) (hr : RdCase w B vc vl c vs) (hB : B ≤ w.heap.size) (hn1 : c.clocks.length ≤ 9223372036854775807) (hn2 : c.clues.length ≤ 9223372036854775807) (b : List Int) (vb : Value) (hrb : Rd w B 1 vb b.length (u8s b)) (hbb : ∀ y ∈ b, 0 ≤ y ∧ y ≤ 255) (hnb : b.length ≤ 9223372036854775807) :
    Calls Try.prog 7 #[.agg #[.int .i64 c.events, vc, vl], vb] w fun e w' => e = .returned (.bool true) ∧ Below w.heap.size w w' := by
  obtain ⟨Ac, cc_, rfl, _⟩ := hr.clocks.shape
  obtain ⟨Al, cl_, rfl, _⟩ := hr.clues.rd.shape
  obtain ⟨Ab, cb_, rfl, _⟩ := hrb.shape
  have hbw := Below.refl w.heap.size w
  refine EC.enter 253 Try.func7 rfl rfl rfl ?_
  refine EC.seq ?_
  refine EC.region ?_
  refine EL.newP (bx_25 rfl) rfl ?_
  intro g1 w1 q1 hb1 hg1 hl1
  have bhbw_1 := Nat.le_trans hbw.size hg1
  replace hbw := Below.on hbw hb1 hbw.size
  clear hb1 hg1 hl1
  refine EL.val (x_assign rfl) rfl ?_
  refine EL.nil ?_
  refine EX.seq ?_
  refine EC.seq ?_
  refine EC.seq ?_
  refine EC.region ?_
  refine EL.val (ld_25 rfl (q1.at (j := 0) rfl) (q1.at (j := 1) rfl) (q1.at (j := 2) rfl)) rfl ?_
  refine EL.call (cl_11 rfl) rfl (large_any c _ _ vs _ B (hr.below (hbw.mono hB)) (Nat.le_trans hB hbw.size) hn1 hn2) ?_
  rintro e wB ⟨⟨bB, rfl, hsm⟩, hcB⟩
  cases bB
  ·
    replace hsm := hsm rfl
    have hn1 : c.clocks.length ≤ 1073741824 := by have := hsm.clocks; omega
    have hn2 : c.clues.length ≤ 1073741824 := by have := hsm.clues; omega
    refine ⟨_, rfl, ?_⟩
    replace q1 := q1.below hcB q1.lt
    replace hbw := Below.on hbw hcB hbw.size
    clear hcB
    refine EL.val (x_move rfl) rfl ?_
    refine EL.valg rfl rfl (ld_25 rfl (q1.at (j := 0) rfl) (q1.at (j := 1) rfl) (q1.at (j := 2) rfl)) rfl ?_
    refine EL.callg rfl rfl (cl_14 rfl) rfl (copied_any c _ _ vs _ B (hr.below (hbw.mono hB)) (Nat.le_trans hB hbw.size) hn1 hn2 hsm) ?_
    rintro e w3 ⟨⟨vaq2, vbq2, wsq2, rfl, hoq2⟩, hc3⟩
    refine ⟨_, rfl, ?_⟩
    replace q1 := q1.below hc3 q1.lt
    replace hbw := Below.on hbw hc3 hbw.size
    clear hc3
    have hrq2 := hoq2.rd
    obtain ⟨Adq2, cdq2, rfl, _⟩ := hrq2.clocks.shape
    obtain ⟨Amq2, cmq2, rfl, _⟩ := hrq2.clues.rd.shape
    have hbq2 := Below.refl w3.heap.size w3
    by_cases hcb : caseB c = true
    ·
      obtain ⟨hev, h8, h20, hck, hcl⟩ := caseB_ok hcb
      refine EL.callg rfl rfl (cl_25 rfl) rfl (check_ok hcb _ _ wsq2 _ _ (hrq2.below hbq2) hbq2.size hn1 hn2) ?_
      rintro e w4 ⟨rfl, hc4⟩
      refine ⟨_, rfl, ?_⟩
      replace q1 := q1.below hc4 q1.lt
      replace hbw := Below.on hbw hc4 hbw.size
      replace hbq2 := Below.on hbq2 hc4 hbq2.size
      clear hc4
      refine EL.valg rfl rfl (x_neq (r := false) rfl rfl (by decide)) rfl ?_
      refine EL.val (x_pick_f rfl rfl) rfl ?_
      refine EL.nil ?_
      refine EX.seq ?_
      refine EC.no rfl ?_
      refine EC.skip ?_
      refine EX.seq ?_
      refine EC.seq ?_
      have hsz0 := hbw.size
      have lt_1 := q1.lt
      refine EC.regionS [[], [], [1], [], [], [4], [3, 4, 5], [1, 2, 3, 4, 5, 6], [], [], [0, 3, 4, 5, 6, 9], [0, 1, 2, 3, 4, 5, 6, 7, 9, 10], [0, 1, 2, 3, 4, 5, 6, 7, 8, 9, 10, 11]] 12 [9] [11] (fun _ w_ => Below w4.heap.size w4 w_) (phiS (fun i_ r => match i_ with | 1 => r 1 = .pointer (some ⟨g1, 0, none⟩) | 2 => r 2 = .int .i64 c.events | 4 => r 4 = .pointer (some ⟨g1, 1, none⟩) | 5 => r 5 = .slice Ac c.clocks.length cc_ | _ => True) [(0, fun _ r w_ => ∃ g_, r 0 = .slice (some ⟨g_, 0, none⟩) 0 0 ∧ Blk w_ g_ 3 #[] ∧ w4.heap.size ≤ g_), (3, fun fl r w_ => fl 11 = false → (∃ g_, r 3 = .slice (some ⟨g_, 0, none⟩) 0 0 ∧ Blk w_ g_ 54 #[] ∧ w4.heap.size ≤ g_)), (6, fun _ r w_ => ∃ A_ c_, r 6 = .slice A_ c.clocks.length c_ ∧ w_.ownsRow w4.heap.size 54 2 (.slice A_ c.clocks.length c_) c.clocks.length (bdsC c.clocks)), (7, fun _ r w_ => ∃ A_ c_, r 7 = .agg #[.int .i64 c.events, .slice A_ c.clocks.length c_, .slice none 0 0] ∧ w_.ownsRow w4.heap.size 54 2 (.slice A_ c.clocks.length c_) c.clocks.length (bdsC c.clocks)), (8, fun _ r w_ => ∃ g_, r 8 = .slice (some ⟨g_, 0, none⟩) 0 0 ∧ Blk w_ g_ 3 #[] ∧ w4.heap.size ≤ g_), (9, fun fl r w_ => ∃ g_, r 9 = .pointer (some ⟨g_, 0, none⟩) ∧ w4.heap.size ≤ g_ ∧ (fl 11 = false → Blk w_ g_ 25 #[.int .i64 0, .slice none 0 0, .slice none 0 0])), (10, fun _ r w_ => ∃ g_, r 10 = .slice (some ⟨g_, 0, none⟩) 0 0 ∧ Blk w_ g_ 3 #[] ∧ w4.heap.size ≤ g_), (11, fun _ r w_ => ∃ g_ A_ c_, r 9 = .pointer (some ⟨g_, 0, none⟩) ∧ Blk w_ g_ 25 #[.int .i64 c.events, .slice A_ c.clocks.length c_, .slice none 0 0] ∧ w_.ownsRow w4.heap.size 54 2 (.slice A_ c.clocks.length c_) c.clocks.length (bdsC c.clocks) ∧ w4.heap.size ≤ g_)]) (by kernel_rfl) rfl rfl (by intro i hi; simp at hi; first | (subst hi; exact ⟨by simp, by omega⟩) | (rcases hi with rfl | rfl | rfl <;> exact ⟨by simp, by omega⟩) | (rcases hi with rfl | rfl <;> exact ⟨by simp, by omega⟩)) (base_below w4) (phiS_cons monoS_bs (phiS_cons (monoS_till mono_bs) (phiS_cons monoS_cp (phiS_cons monoS_cp (phiS_cons monoS_bs (phiS_cons monoS_alloc (phiS_cons monoS_bs (phiS_cons (fun _ _ _ _ hb ⟨g, A, c9, h1, h2, h3, h4⟩ => ⟨g, A, c9, h1, h2.below hb h2.lt, own_below h3 hb (Nat.le_refl _), h4⟩) (phiS_nil))))))))) (fun i_ hi_ hs_ => ?_) (fun i_ hi_ => ?_) ?_
      · match i_, hi_ with
        | 0, _ =>
          intro val fl w1 a hb ha hd hfl
          have ha := ha.sub (Sub.nil _)
          exact ss_newS ha rfl rfl bs_26_0 rfl (fun g w' hq _ hge => ⟨g, rfl, hq, Nat.le_trans hb.size hge⟩)
        | 1, _ =>
          intro val fl w1 a hb ha hd hfl
          have ha := ha.sub (Sub.ins (d := 2) (Sub.nil _) rfl)
          exact ss_val ha rfl rfl (fa_25_0 rfl) rfl rfl
        | 2, _ =>
          intro val fl w1 a hb ha hd hfl
          have e1 : val 1 = .pointer (some ⟨g1, 0, none⟩) := hd 1 (memB_mem.1 rfl)
          have ha := ha.sub (Sub.ins (d := 32) (Sub.nil _) (dep_get rfl e1))
          exact ss_val ha rfl rfl (ld_3 rfl ((q1.below hb q1.lt).at (j := 0) rfl)) rfl rfl
        | 3, _ =>
          intro val fl w1 a hb ha hd hfl
          have ha := ha.sub (Sub.nil _)
          exact ss_newS ha rfl rfl (bs_22_0) rfl (fun g w' hq _ hge => fun _ => ⟨g, rfl, hq, Nat.le_trans hb.size hge⟩)
        | 4, _ =>
          intro val fl w1 a hb ha hd hfl
          have ha := ha.sub (Sub.ins (d := 2) (Sub.nil _) rfl)
          exact ss_val ha rfl rfl (fa_25_1 rfl) rfl rfl
        | 5, _ =>
          intro val fl w1 a hb ha hd hfl
          have e4 : val 4 = .pointer (some ⟨g1, 1, none⟩) := hd 4 (memB_mem.1 rfl)
          have ha := ha.sub (Sub.ins (d := 35) (Sub.nil _) (dep_get rfl e4))
          exact ss_val ha rfl rfl (ld_22 rfl ((q1.below hb q1.lt).at (j := 1) rfl)) rfl rfl
        | 6, _ =>
          intro val fl w1 a hb ha hd hfl
          obtain ⟨g3_, e3, q3_, h3_⟩ := hd 3 (memB_mem.1 rfl) (hfl 11 (by simp) (memB_mem.1 rfl))
          change val 3 = _ at e3
          have e5 : val 5 = .slice Ac c.clocks.length cc_ := hd 5 (memB_mem.1 rfl)
          have ha := ha.sub (Sub.ins (d := 36) (Sub.ins (d := 34) (Sub.nil _) (dep_get rfl e3)) (dep_get rfl e5))
          refine ss_copy bd_elem ha rfl rfl rfl q3_ h3_ (hr.clocks.below ((Below.on hbw hb hbw.size).mono hB)) (bdsC_one _) (by omega) rfl hb.size rfl (fun v' w' ho => ?_)
          obtain ⟨A, c9, rfl, _⟩ := (Rd.of_own ho).shape
          exact ⟨A, c9, rfl, ho⟩
        | 7, _ =>
          intro val fl w1 a hb ha hd hfl
          have e2 : val 2 = .int .i64 c.events := hd 2 (memB_mem.1 rfl)
          obtain ⟨A6_, c6_, e6, o6_⟩ := hd 6 (memB_mem.1 rfl)
          have ha := ha.sub (Sub.ins (d := 37) (Sub.ins (d := 33) (Sub.nil _) (dep_get rfl e2)) (dep_get rfl e6))
          exact ss_val ha rfl rfl (bd_25_0_1 rfl rfl) ⟨A6_, c6_, rfl, o6_⟩ rfl
        | 8, _ =>
          intro val fl w1 a hb ha hd hfl
          have ha := ha.sub (Sub.nil _)
          exact ss_newS ha rfl rfl bs_26_0 rfl (fun g w' hq _ hge => ⟨g, rfl, hq, Nat.le_trans hb.size hge⟩)
        | 9, _ =>
          intro val fl w1 a hb ha hd hfl
          have ha := ha.sub (Sub.nil _)
          exact ss_newP ha rfl rfl al_25 (fun g w' hq _ hge => ⟨g, rfl, Nat.le_trans hb.size hge, fun _ => hq⟩)
        | 10, _ =>
          intro val fl w1 a hb ha hd hfl
          obtain ⟨g0_, e0, q0_, h0_⟩ := hd 0 (memB_mem.1 rfl)
          have ha := ha.sub (Sub.ins (d := 31) (Sub.nil _) (dep_get rfl e0))
          exact ss_val ha rfl rfl (x_assign rfl) ⟨_, rfl, q0_, h0_⟩ rfl
        | 11, _ =>
          exact absurd (by simp) hs_
        | k + 12, h => exact absurd h (by omega)
      · simp only [List.mem_singleton] at hi_; subst hi_
        intro val fl w1 a hb hfi ha hd hfl
        obtain ⟨g9_, e9, hg9_, q9_⟩ := hd 9 (memB_mem.1 rfl)
        change val 9 = _ at e9
        obtain ⟨A7_, c7_, e7, o7_⟩ := hd 7 (memB_mem.1 rfl)
        have ha := ha.sub (Sub.ins (d := 38) (Sub.ins (d := 6) (Sub.nil _) (dep_get rfl e9)) (dep_get rfl e7))
        refine ts_store ha rfl rfl rfl (q9_ hfi) sz_25 rfl rfl rfl rfl ?_
        intro w' hq hgr
        refine ⟨undef, rfl, hgr.size, below_store hb hgr hg9_, ⟨g9_, A7_, c7_, e9, hq, own_type o7_ (q9_ hfi) rfl hgr, hg9_⟩, fun j _ hj hn hA => ?_⟩
        exact phiS_cons_st (C := fun j => j ≠ 11 ∧ 11 ∉ clsAt [[], [], [1], [], [], [4], [3, 4, 5], [1, 2, 3, 4, 5, 6], [], [], [0, 3, 4, 5, 6, 9], [0, 1, 2, 3, 4, 5, 6, 7, 9, 10], [0, 1, 2, 3, 4, 5, 6, 7, 8, 9, 10, 11]] j ∧ ∀ p ∈ [9], (p = j ∨ p ∈ clsAt [[], [], [1], [], [], [4], [3, 4, 5], [1, 2, 3, 4, 5, 6], [], [], [0, 3, 4, 5, 6, 9], [0, 1, 2, 3, 4, 5, 6, 7, 9, 10], [0, 1, 2, 3, 4, 5, 6, 7, 8, 9, 10, 11]] j) → ∀ q ∈ [9], (q = 11 ∨ q ∈ clsAt [[], [], [1], [], [], [4], [3, 4, 5], [1, 2, 3, 4, 5, 6], [], [], [0, 3, 4, 5, 6, 9], [0, 1, 2, 3, 4, 5, 6, 7, 9, 10], [0, 1, 2, 3, 4, 5, 6, 7, 8, 9, 10, 11]] 11) → p ≠ q → val p ≠ val q) (fun _ ⟨g, h1, h2, h3⟩ => ⟨g, h1, blk_type h2 (q9_ hfi) rfl hgr, h3⟩) (phiS_cons_st (C := fun j => j ≠ 11 ∧ 11 ∉ clsAt [[], [], [1], [], [], [4], [3, 4, 5], [1, 2, 3, 4, 5, 6], [], [], [0, 3, 4, 5, 6, 9], [0, 1, 2, 3, 4, 5, 6, 7, 9, 10], [0, 1, 2, 3, 4, 5, 6, 7, 8, 9, 10, 11]] j ∧ ∀ p ∈ [9], (p = j ∨ p ∈ clsAt [[], [], [1], [], [], [4], [3, 4, 5], [1, 2, 3, 4, 5, 6], [], [], [0, 3, 4, 5, 6, 9], [0, 1, 2, 3, 4, 5, 6, 7, 9, 10], [0, 1, 2, 3, 4, 5, 6, 7, 8, 9, 10, 11]] j) → ∀ q ∈ [9], (q = 11 ∨ q ∈ clsAt [[], [], [1], [], [], [4], [3, 4, 5], [1, 2, 3, 4, 5, 6], [], [], [0, 3, 4, 5, 6, 9], [0, 1, 2, 3, 4, 5, 6, 7, 9, 10], [0, 1, 2, 3, 4, 5, 6, 7, 8, 9, 10, 11]] 11) → p ≠ q → val p ≠ val q) (fun _ _ h => by rw [fset_eq] at h; cases h) (phiS_cons_st (C := fun j => j ≠ 11 ∧ 11 ∉ clsAt [[], [], [1], [], [], [4], [3, 4, 5], [1, 2, 3, 4, 5, 6], [], [], [0, 3, 4, 5, 6, 9], [0, 1, 2, 3, 4, 5, 6, 7, 9, 10], [0, 1, 2, 3, 4, 5, 6, 7, 8, 9, 10, 11]] j ∧ ∀ p ∈ [9], (p = j ∨ p ∈ clsAt [[], [], [1], [], [], [4], [3, 4, 5], [1, 2, 3, 4, 5, 6], [], [], [0, 3, 4, 5, 6, 9], [0, 1, 2, 3, 4, 5, 6, 7, 9, 10], [0, 1, 2, 3, 4, 5, 6, 7, 8, 9, 10, 11]] j) → ∀ q ∈ [9], (q = 11 ∨ q ∈ clsAt [[], [], [1], [], [], [4], [3, 4, 5], [1, 2, 3, 4, 5, 6], [], [], [0, 3, 4, 5, 6, 9], [0, 1, 2, 3, 4, 5, 6, 7, 9, 10], [0, 1, 2, 3, 4, 5, 6, 7, 8, 9, 10, 11]] 11) → p ≠ q → val p ≠ val q) (fun _ ⟨A, c9, h1, h2⟩ => ⟨A, c9, h1, own_type h2 (q9_ hfi) rfl hgr⟩) (phiS_cons_st (C := fun j => j ≠ 11 ∧ 11 ∉ clsAt [[], [], [1], [], [], [4], [3, 4, 5], [1, 2, 3, 4, 5, 6], [], [], [0, 3, 4, 5, 6, 9], [0, 1, 2, 3, 4, 5, 6, 7, 9, 10], [0, 1, 2, 3, 4, 5, 6, 7, 8, 9, 10, 11]] j ∧ ∀ p ∈ [9], (p = j ∨ p ∈ clsAt [[], [], [1], [], [], [4], [3, 4, 5], [1, 2, 3, 4, 5, 6], [], [], [0, 3, 4, 5, 6, 9], [0, 1, 2, 3, 4, 5, 6, 7, 9, 10], [0, 1, 2, 3, 4, 5, 6, 7, 8, 9, 10, 11]] j) → ∀ q ∈ [9], (q = 11 ∨ q ∈ clsAt [[], [], [1], [], [], [4], [3, 4, 5], [1, 2, 3, 4, 5, 6], [], [], [0, 3, 4, 5, 6, 9], [0, 1, 2, 3, 4, 5, 6, 7, 9, 10], [0, 1, 2, 3, 4, 5, 6, 7, 8, 9, 10, 11]] 11) → p ≠ q → val p ≠ val q) (fun _ ⟨A, c9, h1, h2⟩ => ⟨A, c9, h1, own_type h2 (q9_ hfi) rfl hgr⟩) (phiS_cons_st (C := fun j => j ≠ 11 ∧ 11 ∉ clsAt [[], [], [1], [], [], [4], [3, 4, 5], [1, 2, 3, 4, 5, 6], [], [], [0, 3, 4, 5, 6, 9], [0, 1, 2, 3, 4, 5, 6, 7, 9, 10], [0, 1, 2, 3, 4, 5, 6, 7, 8, 9, 10, 11]] j ∧ ∀ p ∈ [9], (p = j ∨ p ∈ clsAt [[], [], [1], [], [], [4], [3, 4, 5], [1, 2, 3, 4, 5, 6], [], [], [0, 3, 4, 5, 6, 9], [0, 1, 2, 3, 4, 5, 6, 7, 9, 10], [0, 1, 2, 3, 4, 5, 6, 7, 8, 9, 10, 11]] j) → ∀ q ∈ [9], (q = 11 ∨ q ∈ clsAt [[], [], [1], [], [], [4], [3, 4, 5], [1, 2, 3, 4, 5, 6], [], [], [0, 3, 4, 5, 6, 9], [0, 1, 2, 3, 4, 5, 6, 7, 9, 10], [0, 1, 2, 3, 4, 5, 6, 7, 8, 9, 10, 11]] 11) → p ≠ q → val p ≠ val q) (fun _ ⟨g, h1, h2, h3⟩ => ⟨g, h1, blk_type h2 (q9_ hfi) rfl hgr, h3⟩) (phiS_cons_st (C := fun j => j ≠ 11 ∧ 11 ∉ clsAt [[], [], [1], [], [], [4], [3, 4, 5], [1, 2, 3, 4, 5, 6], [], [], [0, 3, 4, 5, 6, 9], [0, 1, 2, 3, 4, 5, 6, 7, 9, 10], [0, 1, 2, 3, 4, 5, 6, 7, 8, 9, 10, 11]] j ∧ ∀ p ∈ [9], (p = j ∨ p ∈ clsAt [[], [], [1], [], [], [4], [3, 4, 5], [1, 2, 3, 4, 5, 6], [], [], [0, 3, 4, 5, 6, 9], [0, 1, 2, 3, 4, 5, 6, 7, 9, 10], [0, 1, 2, 3, 4, 5, 6, 7, 8, 9, 10, 11]] j) → ∀ q ∈ [9], (q = 11 ∨ q ∈ clsAt [[], [], [1], [], [], [4], [3, 4, 5], [1, 2, 3, 4, 5, 6], [], [], [0, 3, 4, 5, 6, 9], [0, 1, 2, 3, 4, 5, 6, 7, 9, 10], [0, 1, 2, 3, 4, 5, 6, 7, 8, 9, 10, 11]] 11) → p ≠ q → val p ≠ val q) (fun _ ⟨g, h1, h2, _⟩ => ⟨g, h1, h2, fun h => by rw [fset_eq] at h; cases h⟩) (phiS_cons_st (C := fun j => j ≠ 11 ∧ 11 ∉ clsAt [[], [], [1], [], [], [4], [3, 4, 5], [1, 2, 3, 4, 5, 6], [], [], [0, 3, 4, 5, 6, 9], [0, 1, 2, 3, 4, 5, 6, 7, 9, 10], [0, 1, 2, 3, 4, 5, 6, 7, 8, 9, 10, 11]] j ∧ ∀ p ∈ [9], (p = j ∨ p ∈ clsAt [[], [], [1], [], [], [4], [3, 4, 5], [1, 2, 3, 4, 5, 6], [], [], [0, 3, 4, 5, 6, 9], [0, 1, 2, 3, 4, 5, 6, 7, 9, 10], [0, 1, 2, 3, 4, 5, 6, 7, 8, 9, 10, 11]] j) → ∀ q ∈ [9], (q = 11 ∨ q ∈ clsAt [[], [], [1], [], [], [4], [3, 4, 5], [1, 2, 3, 4, 5, 6], [], [], [0, 3, 4, 5, 6, 9], [0, 1, 2, 3, 4, 5, 6, 7, 9, 10], [0, 1, 2, 3, 4, 5, 6, 7, 8, 9, 10, 11]] 11) → p ≠ q → val p ≠ val q) (fun _ ⟨g, h1, h2, h3⟩ => ⟨g, h1, blk_type h2 (q9_ hfi) rfl hgr, h3⟩) (phiS_cons_st (C := fun j => j ≠ 11 ∧ 11 ∉ clsAt [[], [], [1], [], [], [4], [3, 4, 5], [1, 2, 3, 4, 5, 6], [], [], [0, 3, 4, 5, 6, 9], [0, 1, 2, 3, 4, 5, 6, 7, 9, 10], [0, 1, 2, 3, 4, 5, 6, 7, 8, 9, 10, 11]] j ∧ ∀ p ∈ [9], (p = j ∨ p ∈ clsAt [[], [], [1], [], [], [4], [3, 4, 5], [1, 2, 3, 4, 5, 6], [], [], [0, 3, 4, 5, 6, 9], [0, 1, 2, 3, 4, 5, 6, 7, 9, 10], [0, 1, 2, 3, 4, 5, 6, 7, 8, 9, 10, 11]] j) → ∀ q ∈ [9], (q = 11 ∨ q ∈ clsAt [[], [], [1], [], [], [4], [3, 4, 5], [1, 2, 3, 4, 5, 6], [], [], [0, 3, 4, 5, 6, 9], [0, 1, 2, 3, 4, 5, 6, 7, 9, 10], [0, 1, 2, 3, 4, 5, 6, 7, 8, 9, 10, 11]] 11) → p ≠ q → val p ≠ val q) (fun hc => absurd rfl hc.1) (fun _ _ h => h)))))))) j ⟨hj, hn, hA⟩
      · intro val fl wR3 hfl hb halc hd
        obtain ⟨g0_, e0, q0_, h0_⟩ := hd 0 (by omega)
        change val 0 = _ at e0
        have e1 : val 1 = .pointer (some ⟨g1, 0, none⟩) := hd 1 (by omega)
        have e2 : val 2 = .int .i64 c.events := hd 2 (by omega)
        have e4 : val 4 = .pointer (some ⟨g1, 1, none⟩) := hd 4 (by omega)
        have e5 : val 5 = .slice Ac c.clocks.length cc_ := hd 5 (by omega)
        obtain ⟨A6_, c6_, e6, o6_⟩ := hd 6 (by omega)
        change val 6 = _ at e6
        obtain ⟨A7_, c7_, e7, o7_⟩ := hd 7 (by omega)
        change val 7 = _ at e7
        obtain ⟨g8_, e8, q8_, h8_⟩ := hd 8 (by omega)
        change val 8 = _ at e8
        obtain ⟨ga9_3, A9_, c9_, e9, qa9_3, oa9, hga9_3⟩ := hd 11 (by omega)
        change val 9 = _ at e9
        obtain ⟨g10_, e10, q10_, h10_⟩ := hd 10 (by omega)
        change val 10 = _ at e10
        refine EL.ends (cs := [.slice (some ⟨g0_, 0, none⟩) 0 0, .pointer (some ⟨g1, 0, none⟩), .int .i64 c.events, val 3, .pointer (some ⟨g1, 1, none⟩), .slice Ac c.clocks.length cc_, .slice A6_ c.clocks.length c6_, .agg #[.int .i64 c.events, .slice A7_ c.clocks.length c7_, .slice none 0 0], .slice (some ⟨g8_, 0, none⟩) 0 0, .pointer (some ⟨ga9_3, 0, none⟩), .slice (some ⟨g10_, 0, none⟩) 0 0, val 11]) ⟨e0, e1, e2, rfl, e4, e5, e6, e7, e8, e9, e10, rfl, trivial⟩ rfl ?_
        replace q1 := q1.below hb q1.lt
        have bge5 := alc_ge halc (i := 9) rfl rfl e9
        have n1_5 : g1 ≠ ga9_3 := Nat.ne_of_lt (Nat.lt_of_lt_of_le lt_1 bge5)
        have bhbw_5 := Nat.le_trans hbw.size bge5
        replace hbw := Below.on hbw hb hbw.size
        replace oa9 := own_less oa9 hsz0
        have hg6 : w.heap.size ≤ ga9_3 := Nat.le_trans hsz0 hga9_3
        have hg10 : w.heap.size ≤ g10_ := Nat.le_trans hsz0 h10_
        have hg8 : w.heap.size ≤ g8_ := Nat.le_trans hsz0 h8_
        refine EL.val (x_assign rfl) rfl ?_
        refine EL.nil ?_
        refine EX.seq ?_
        refine EC.seq ?_
        refine EC.seq ?_
        refine EC.region ?_
        refine EL.val (x_assign rfl) rfl ?_
        refine EL.nil ?_
        refine EX.seq ?_
        refine EC.block ?_
        refine EC.loopD [4, 5, 7, 8, 9, 40, 41, 42, 43, 44, 45, 46, 47, 48, 49, 50, 51, 52, 53, 54, 55, 56, 57, 58, 59, 60, 61, 62, 63, 64, 65, 66, 67, 68, 69, 70, 71, 72, 73, 74, 75, 76, 77, 78, 79, 80, 81, 82, 83, 84, 85, 86, 87, 88, 89] (fun x : Nat × Value × Value × Value × List Value => [(5, x.2.1), (7, x.2.2.1), (8, .int .i64 (x.1 : Nat))]) (fun x W => x.1 ≤ c.clues.length ∧ Blk W g1 25 #[.int .i64 c.events, .slice Ac c.clocks.length cc_, .slice Al c.clues.length cl_] ∧ Blk W ga9_3 25 #[.int .i64 c.events, .slice A9_ c.clocks.length c9_, x.2.2.2.1] ∧ W.ownsRow w.heap.size 54 2 (.slice A9_ c.clocks.length c9_) c.clocks.length (bdsC c.clocks) ∧ W.ownsRow w.heap.size 3 1 x.2.1 x.1 (ints (crsBy c b x.1)) ∧ W.ownsRow w.heap.size 3 1 x.2.2.1 x.1 (ints (zeros x.1)) ∧ (x.1 = 0 → ∃ g g', x.2.1 = .slice (some ⟨g, 0, none⟩) 0 0 ∧ x.2.2.1 = .slice (some ⟨g', 0, none⟩) 0 0) ∧ (0 < x.1 → Apart x.2.1 x.2.2.1) ∧ OwnClues W w.heap.size x.2.2.2.1 (bareL c b x.1) x.2.2.2.2 ∧ Below w.heap.size w W) (fun x => c.clues.length - x.1) (0, .slice (some ⟨g10_, 0, none⟩) 0 0, .slice (some ⟨g8_, 0, none⟩) 0 0, .slice none 0 0, []) ⟨Nat.zero_le _, q1, qa9_3, oa9, own_empty 1 q10_ hg10, own_empty 1 q8_ hg8, fun _ => ⟨_, _, rfl, rfl⟩, fun h => absurd h (Nat.lt_irrefl 0), OwnClues.nil, hbw⟩ ⟨rfl, rfl, rfl, trivial⟩ ?_
        clear q1 qa9_3 oa9 q10_ q8_ q0_ hbw
        rintro ⟨x, vc, vf, vo, fs⟩ wx ⟨hx, q1x, q6x, oa9, hoc, hof, hz0, hap, hcu, hbw⟩
        dsimp only at hx q6x hoc hof hz0 hap hcu
        obtain ⟨AO, cO, eO, _⟩ := (Rd.of_own hcu.own).shape
        obtain ⟨AC, cC, eC, _⟩ := (Rd.of_own hoc).shape
        obtain ⟨AF, cF, eF, hcF⟩ := (Rd.of_own hof).shape
        subst eO
        subst eC
        subst eF
        have hbl := bareL_len c b x
        by_cases hlt : x < c.clues.length
        ·
          obtain ⟨bl, ol, e_, _, hcell⟩ := rdll_cell hr.clues x hlt
          subst e_
          have hrow := hr.clues.row x hlt
          obtain ⟨Ao, co, eo, _⟩ := hrow.shape
          rw [eo] at hcell hrow
          have hlx := (hcl x hlt).1
          have hpk := pick_lt (b := b) hcb hlt
          have hpr := part_bd hbb x
          obtain ⟨K, eK⟩ : ∃ z, z = pickK c b x := ⟨_, rfl⟩
          have eK2 : (partI b x).tmod (((c.clues.getD x []).length : Nat) : Int) = ((K : Nat) : Int) := by rw [eK]; exact part_mod hpr.1
          rw [← eK] at hpk
          obtain ⟨bo, oo, e_, _, oc⟩ := opts_cells _ K hpk w B _ _ _ hrow
          subst e_
          obtain ⟨p, ep⟩ : ∃ z, z = (c.clues.getD x []).getD K opt0 := ⟨_, rfl⟩
          have hch : chosen c b x = p := by rw [ep, eK]; rfl
          rw [← ep] at oc
          refine EC.seq ?_
          refine EC.seq ?_
          refine EC.region ?_
          refine EL.val (x_move rfl) rfl ?_
          refine EL.val (fa_25_2 rfl) rfl ?_
          refine EL.val (ld_23 rfl (q1x.at (j := 2) rfl)) rfl ?_
          refine EL.val (ln_23 rfl) rfl ?_
          refine EL.val (x_lss rfl rfl (decide_eq_true (show (((x : Nat) : Int) < ((c.clues.length : Nat) : Int)) by omega))) rfl ?_
          refine EL.nil ?_
          refine EX.seq ?_
          refine EC.yes rfl ?_
          refine EC.skip ?_
          refine EX.seq ?_
          refine EC.seq ?_
          refine EC.block ?_
          refine EC.seq ?_
          refine EC.seq ?_
          refine EC.region ?_
          refine EL.val (fa_25_2 rfl) rfl ?_
          refine EL.val (ld_23 rfl (q1x.at (j := 2) rfl)) rfl ?_
          refine EL.val (x_move rfl) rfl ?_
          refine EL.val (ix_23 rfl rfl hlt) rfl ?_
          refine EL.val (fa_74_0 rfl) rfl ?_
          refine EL.val (ld_72 rfl (below_load hbw hcell)) rfl ?_
          refine EL.val (ln_72 rfl) rfl ?_
          refine EL.val (x_lss (r := false) rfl rfl (decide_eq_false (by omega))) rfl ?_
          refine EL.nil ?_
          refine EX.seq ?_
          refine EC.no rfl ?_
          refine EC.skip ?_
          refine EX.seq ?_
          refine EC.seq ?_
          refine EC.regionQ (by kernel_rfl) (by kernel_rfl) ?_
          refine EQ.val (fun _ hw => (x_move rfl)) rfl ?_
          refine EQ.val (fun _ hw => (x_move rfl)) rfl ?_
          refine EQ.call (fun _ _ _ ha => cl_34 rfl rfl _ ha) rfl (fun W hw => (part_any b _ x W B (hrb.below ((hbw.trans (hw.mono hbw.size)).mono hB)) hnb).mono fun e w' h => ⟨h.1, hw.trans (h.2.mono hw.size)⟩) ?_
          refine EQ.val (fun _ hw => (cv_5_3 rfl (IntWalk.i64_in _ ⟨by omega, by omega⟩))) rfl ?_
          refine EQ.val (fun _ hw => (fa_25_2 rfl)) rfl ?_
          refine EQ.val (fun _ hw => (ld_23 rfl (below_load hw (q1x.at (j := 2) rfl)))) rfl ?_
          refine EQ.val (fun _ hw => (x_move rfl)) rfl ?_
          refine EQ.val (fun _ hw => (ix_23 rfl rfl hlt)) rfl ?_
          refine EQ.val (fun _ hw => (fa_74_0 rfl)) rfl ?_
          refine EQ.val (fun _ hw => (ld_72 rfl (below_load hw (below_load hbw hcell)))) rfl ?_
          refine EQ.val (fun _ hw => (ln_72 rfl)) rfl ?_
          refine EQ.val (fun _ hw => (x_rem rfl rfl (c := ((K : Nat) : Int)) (by omega) eK2)) rfl ?_
          refine EQ.val (fun _ hw => (x_assign rfl)) rfl ?_
          refine EQ.fin (fun w6 hw_ => ?_)
          replace q1x := q1x.below hw_ q1x.lt
          replace q6x := q6x.below hw_ q6x.lt
          replace oa9 := own_below oa9 hw_ (Nat.le_refl _)
          replace hoc := own_below hoc hw_ (Nat.le_refl _)
          replace hof := own_below hof hw_ (Nat.le_refl _)
          replace hcu := hcu.below hw_
          replace hbw := Below.on hbw hw_ hbw.size
          clear hw_
          refine EX.seq ?_
          refine EC.seq ?_
          refine EC.region ?_
          refine EL.val (x_move rfl) rfl ?_
          refine EL.val (x_move rfl) rfl ?_
          refine EL.newS (bs_26_1 rfl) rfl ?_
          intro g7 w7 q7 hb7 hg7 hl7
          have n1_7 : g1 ≠ g7 := Nat.ne_of_lt (Nat.lt_of_lt_of_le q1x.lt hg7)
          have n5_7 : ga9_3 ≠ g7 := Nat.ne_of_lt (Nat.lt_of_lt_of_le q6x.lt hg7)
          have bhbw_7 := Nat.le_trans hbw.size hg7
          replace q1x := q1x.below hb7 q1x.lt
          replace q6x := q6x.below hb7 q6x.lt
          replace oa9 := own_below oa9 hb7 (Nat.le_refl _)
          replace hoc := own_below hoc hb7 (Nat.le_refl _)
          replace hof := own_below hof hb7 (Nat.le_refl _)
          replace hcu := hcu.below hb7
          replace hbw := Below.on hbw hb7 hbw.size
          clear hb7 hg7 hl7
          by_cases hx0 : x = 0
          ·
            obtain ⟨gc0, gf0, ec0, ef0⟩ := hz0 hx0
            obtain rfl := hx0
            injection ec0 with h1 _ h3
            subst h1
            subst h3
            injection ef0 with h1 _ h3
            subst h1
            subst h3
            refine EL.pushF i64_elem rfl rfl hoc (rd_one (l := [.int .i64 ((K : Nat) : Int)]) q7 rfl) (by intro u hu; rw [List.mem_singleton.1 hu]; rfl) (by omega) rfl hbw.size rfl ?_
            intro v8 w8 hoc2 hf8 hl8
            have hl8 := hl8.resolve_left (by omega)
            replace q1x := q1x.below hf8 q1x.lt
            replace q6x := q6x.below hf8 q6x.lt
            replace q7 := q7.below hf8 q7.lt
            replace oa9 := own_below oa9 hf8 (Nat.le_refl _)
            replace hof := own_below hof hf8 (Nat.le_refl _)
            replace hcu := hcu.below hf8
            replace hbw := Below.on hbw hf8 hbw.size
            have hltc := fun g h => ((hoc2.lt g h).2)
            have hvc := v8
            have hbk := Below.refl w8.heap.size w8
            refine EL.val (x_move rfl) rfl ?_
            refine EL.newS (bs_26_1 rfl) rfl ?_
            intro g9 w9 q9 hb9 hg9 hl9
            have n1_9 : g1 ≠ g9 := Nat.ne_of_lt (Nat.lt_of_lt_of_le q1x.lt hg9)
            have n5_9 : ga9_3 ≠ g9 := Nat.ne_of_lt (Nat.lt_of_lt_of_le q6x.lt hg9)
            have n7_9 : g7 ≠ g9 := Nat.ne_of_lt (Nat.lt_of_lt_of_le q7.lt hg9)
            have bhbw_9 := Nat.le_trans hbw.size hg9
            have bhbk_9 := Nat.le_trans hbk.size hg9
            replace q1x := q1x.below hb9 q1x.lt
            replace q6x := q6x.below hb9 q6x.lt
            replace q7 := q7.below hb9 q7.lt
            replace oa9 := own_below oa9 hb9 (Nat.le_refl _)
            replace hof := own_below hof hb9 (Nat.le_refl _)
            replace hcu := hcu.below hb9
            replace hoc2 := own_below hoc2 hb9 (Nat.le_refl _)
            replace hbw := Below.on hbw hb9 hbw.size
            replace hbk := Below.on hbk hb9 hbk.size
            clear hb9 hg9 hl9
            have hbk_ := hbk.size
            refine EL.pushF i64_elem rfl rfl hof (rd_one (l := [.int .i64 0]) q9 rfl) (by intro u hu; rw [List.mem_singleton.1 hu]; rfl) (by omega) rfl hbw.size rfl ?_
            intro v10 w10 hof2 hf10 hl10
            have hl10 := hl10.resolve_left (by omega)
            replace q1x := q1x.below hf10 q1x.lt
            replace q6x := q6x.below hf10 q6x.lt
            replace q7 := q7.below hf10 q7.lt
            replace q9 := q9.below hf10 q9.lt
            replace oa9 := own_below oa9 hf10 (Nat.le_refl _)
            replace hcu := hcu.below hf10
            replace hoc2 := own_below hoc2 hf10 (Nat.le_refl _)
            replace hbw := Below.on hbw hf10 hbw.size
            replace hbk := Below.on hbk hf10 hbk.size
            clear hbk
            have hap2 : Apart v8 v10 := fun g h1 h2 => by rw [hl10] at h2; injection h2 with h2; have := hltc g h1; have := hbk_; omega
            refine EL.val (x_assign rfl) rfl ?_
            refine EL.val (x_assign rfl) rfl ?_
            refine EL.nil ?_
            refine EX.seq ?_
            have hcu0 := hcu
            have hszx := hbw.size
            have lt_1 := q1x.lt
            have lt_5 := q6x.lt
            have lt_7 := q7.lt
            have lt_9 := q9.lt
            refine EC.regionP [[], [0], [], [2], [], [2, 3, 4], [2, 3, 4, 5], [2, 3, 4, 5, 6], [], [2, 3, 4, 5, 6, 7, 8], [2, 3, 4, 5, 6, 7, 8, 9], [2, 3, 4, 5, 6, 7, 8, 9, 10], [2, 3, 4, 5, 6, 7, 8, 9, 10, 11], [2, 3, 4, 5, 6, 7, 8, 9, 10, 11, 12], [0, 1, 2, 3, 4, 5, 6, 7, 8, 9, 10, 11, 12, 13], [0, 1, 2, 3, 4, 5, 6, 7, 8, 9, 10, 11, 12, 13, 14], [0, 1, 2, 3, 4, 5, 6, 7, 8, 9, 10, 11, 12, 13, 14, 15]] 14 [] (phi (fun i_ r => match i_ with | 0 => r 0 = .pointer (some ⟨ga9_3, 2, none⟩) | 1 => r 1 = .slice AO (bareL c b 0).length cO | 2 => r 2 = .pointer (some ⟨g1, 2, none⟩) | 3 => r 3 = .slice (some ⟨bl, ol, none⟩) c.clues.length cl_ | 4 => r 4 = .int .i64 (0 : Nat) | 5 => r 5 = .pointer (some ⟨bl, ol + 0, none⟩) | 6 => r 6 = .pointer (some ⟨bl, ol + 0, none⟩) | 7 => r 7 = .slice (some ⟨bo, oo, none⟩) (c.clues.getD 0 []).length co | 8 => r 8 = .int .i64 (K : Nat) | 9 => r 9 = .pointer (some ⟨bo, oo + K * 6, none⟩) | 10 => r 10 = .agg #[.int .i64 p.kind, .int .i64 p.event, .int .i64 p.clock, .int .i64 p.after, .int .i64 p.mins.lo, .int .i64 p.mins.hi] | _ => True) [(11, fun r w_ => ∃ g_, r 11 = .slice (some ⟨g_, 0, none⟩) 1 1 ∧ Blk w_ g_ 71 #[.int .i64 p.kind, .int .i64 p.event, .int .i64 p.clock, .int .i64 p.after, .int .i64 p.mins.lo, .int .i64 p.mins.hi] ∧ w10.heap.size ≤ g_), (12, fun r w_ => ∃ g_, r 12 = .agg #[.slice (some ⟨g_, 0, none⟩) 1 1] ∧ Blk w_ g_ 71 #[.int .i64 p.kind, .int .i64 p.event, .int .i64 p.clock, .int .i64 p.after, .int .i64 p.mins.lo, .int .i64 p.mins.hi] ∧ w10.heap.size ≤ g_), (13, fun r w_ => ∃ k_ g_, r 13 = .slice (some ⟨k_, 0, none⟩) 1 1 ∧ Blk w_ k_ 74 #[.slice (some ⟨g_, 0, none⟩) 1 1] ∧ Blk w_ g_ 71 #[.int .i64 p.kind, .int .i64 p.event, .int .i64 p.clock, .int .i64 p.after, .int .i64 p.mins.lo, .int .i64 p.mins.hi] ∧ w10.heap.size ≤ g_ ∧ w10.heap.size ≤ k_)]) (by kernel_rfl) rfl rfl (phi_cons mono_bs (phi_cons mono_bs1 (phi_cons mono_bs2 (phi_nil)))) (fun i_ hi_ => ?_) ?_
            · match i_, hi_ with
              | 0, _ =>
                intro val w1 a hb ha hd
                have ha := ha.sub (Sub.ins (d := 6) (Sub.nil _) rfl)
                exact hs_val ha rfl rfl (fa_25_2 rfl) rfl rfl
              | 1, _ =>
                intro val w1 a hb ha hd
                have e0 : val 0 = .pointer (some ⟨ga9_3, 2, none⟩) := hd 0 (memB_mem.1 rfl)
                have ha := ha.sub (Sub.ins (d := 74) (Sub.nil _) (dep_get rfl e0))
                exact hs_val ha rfl rfl (ld_23 rfl ((q6x.below hb q6x.lt).at (j := 2) rfl)) rfl rfl
              | 2, _ =>
                intro val w1 a hb ha hd
                have ha := ha.sub (Sub.ins (d := 2) (Sub.nil _) rfl)
                exact hs_val ha rfl rfl (fa_25_2 rfl) rfl rfl
              | 3, _ =>
                intro val w1 a hb ha hd
                have e2 : val 2 = .pointer (some ⟨g1, 2, none⟩) := hd 2 (memB_mem.1 rfl)
                have ha := ha.sub (Sub.ins (d := 76) (Sub.nil _) (dep_get rfl e2))
                exact hs_val ha rfl rfl (ld_23 rfl ((q1x.below hb q1x.lt).at (j := 2) rfl)) rfl rfl
              | 4, _ =>
                intro val w1 a hb ha hd
                have ha := ha.sub (Sub.ins (d := 8) (Sub.nil _) rfl)
                exact hs_val ha rfl rfl (x_move rfl) rfl rfl
              | 5, _ =>
                intro val w1 a hb ha hd
                have e3 : val 3 = .slice (some ⟨bl, ol, none⟩) c.clues.length cl_ := hd 3 (memB_mem.1 rfl)
                have e4 : val 4 = .int .i64 (0 : Nat) := hd 4 (memB_mem.1 rfl)
                have ha := ha.sub (Sub.ins (d := 78) (Sub.ins (d := 77) (Sub.nil _) (dep_get rfl e3)) (dep_get rfl e4))
                exact hs_val ha rfl rfl (ix_23 rfl rfl hlt) rfl rfl
              | 6, _ =>
                intro val w1 a hb ha hd
                have e5 : val 5 = .pointer (some ⟨bl, ol + 0, none⟩) := hd 5 (memB_mem.1 rfl)
                have ha := ha.sub (Sub.ins (d := 79) (Sub.nil _) (dep_get rfl e5))
                exact hs_val ha rfl rfl (fa_74_0 rfl) rfl rfl
              | 7, _ =>
                intro val w1 a hb ha hd
                have e6 : val 6 = .pointer (some ⟨bl, ol + 0, none⟩) := hd 6 (memB_mem.1 rfl)
                have ha := ha.sub (Sub.ins (d := 80) (Sub.nil _) (dep_get rfl e6))
                exact hs_val ha rfl rfl (ld_72 rfl (below_load (Below.on hbw hb hbw.size) hcell)) rfl rfl
              | 8, _ =>
                intro val w1 a hb ha hd
                have ha := ha.sub (Sub.ins (d := 9) (Sub.nil _) rfl)
                exact hs_val ha rfl rfl (x_move rfl) rfl rfl
              | 9, _ =>
                intro val w1 a hb ha hd
                have e7 : val 7 = .slice (some ⟨bo, oo, none⟩) (c.clues.getD 0 []).length co := hd 7 (memB_mem.1 rfl)
                have e8 : val 8 = .int .i64 (K : Nat) := hd 8 (memB_mem.1 rfl)
                have ha := ha.sub (Sub.ins (d := 82) (Sub.ins (d := 81) (Sub.nil _) (dep_get rfl e7)) (dep_get rfl e8))
                exact hs_val ha rfl rfl (ix_72 rfl rfl hpk) rfl rfl
              | 10, _ =>
                intro val w1 a hb ha hd
                have e9 : val 9 = .pointer (some ⟨bo, oo + K * 6, none⟩) := hd 9 (memB_mem.1 rfl)
                have ha := ha.sub (Sub.ins (d := 83) (Sub.nil _) (dep_get rfl e9))
                exact hs_val ha rfl rfl (ld_71 rfl (below_load (Below.on hbw hb hbw.size) oc.c0) (below_load (Below.on hbw hb hbw.size) oc.c1) (below_load (Below.on hbw hb hbw.size) oc.c2) (below_load (Below.on hbw hb hbw.size) oc.c3) (below_load (Below.on hbw hb hbw.size) oc.c4) (below_load (Below.on hbw hb hbw.size) oc.c5)) rfl rfl
              | 11, _ =>
                intro val w1 a hb ha hd
                have e10 : val 10 = .agg #[.int .i64 p.kind, .int .i64 p.event, .int .i64 p.clock, .int .i64 p.after, .int .i64 p.mins.lo, .int .i64 p.mins.hi] := hd 10 (memB_mem.1 rfl)
                have ha := ha.sub (Sub.ins (d := 84) (Sub.nil _) (dep_get rfl e10))
                exact hs_newS ha rfl rfl (bs_72_1 rfl) rfl (fun g w' hq _ hge => ⟨g, rfl, hq, Nat.le_trans hb.size hge⟩)
              | 12, _ =>
                intro val w1 a hb ha hd
                obtain ⟨g11_, e11, q11_, h11_⟩ := hd 11 (memB_mem.1 rfl)
                change val 11 = _ at e11
                have ha := ha.sub (Sub.ins (d := 85) (Sub.nil _) (dep_get rfl e11))
                exact hs_val ha rfl rfl (bd_74_0 rfl) ⟨g11_, rfl, q11_, h11_⟩ rfl
              | 13, _ =>
                intro val w1 a hb ha hd
                obtain ⟨g12_, e12, q12_, h12_⟩ := hd 12 (memB_mem.1 rfl)
                have ha := ha.sub (Sub.ins (d := 86) (Sub.nil _) (dep_get rfl e12))
                exact hs_newS ha rfl rfl (bs_23_1 rfl) rfl (fun g w' hq hb' hge => ⟨g, g12_, rfl, hq, q12_.below hb' q12_.lt, h12_, Nat.le_trans hb.size hge⟩)
              | k + 14, h => exact absurd h (by omega)
            · intro val wR11 hb halc hd
              have e0 : val 0 = .pointer (some ⟨ga9_3, 2, none⟩) := hd 0 (by omega)
              have e1 : val 1 = .slice AO (bareL c b 0).length cO := hd 1 (by omega)
              have e2 : val 2 = .pointer (some ⟨g1, 2, none⟩) := hd 2 (by omega)
              have e3 : val 3 = .slice (some ⟨bl, ol, none⟩) c.clues.length cl_ := hd 3 (by omega)
              have e4 : val 4 = .int .i64 (0 : Nat) := hd 4 (by omega)
              have e5 : val 5 = .pointer (some ⟨bl, ol + 0, none⟩) := hd 5 (by omega)
              have e6 : val 6 = .pointer (some ⟨bl, ol + 0, none⟩) := hd 6 (by omega)
              have e7 : val 7 = .slice (some ⟨bo, oo, none⟩) (c.clues.getD 0 []).length co := hd 7 (by omega)
              have e8 : val 8 = .int .i64 (K : Nat) := hd 8 (by omega)
              have e9 : val 9 = .pointer (some ⟨bo, oo + K * 6, none⟩) := hd 9 (by omega)
              have e10 : val 10 = .agg #[.int .i64 p.kind, .int .i64 p.event, .int .i64 p.clock, .int .i64 p.after, .int .i64 p.mins.lo, .int .i64 p.mins.hi] := hd 10 (by omega)
              obtain ⟨ga11_11, e11, qa11_11, hga11_11⟩ := hd 11 (by omega)
              change val 11 = _ at e11
              change Blk wR11 ga11_11 71 #[.int .i64 p.kind, .int .i64 p.event, .int .i64 p.clock, .int .i64 p.after, .int .i64 p.mins.lo, .int .i64 p.mins.hi] at qa11_11
              obtain ⟨g12_, e12, q12_, h12_⟩ := hd 12 (by omega)
              obtain ⟨k13_, g13_, e13, qk13_, q13_, h13_, hk13_⟩ := hd 13 (by omega)
              refine EL.ends (cs := [.pointer (some ⟨ga9_3, 2, none⟩), .slice AO (bareL c b 0).length cO, .pointer (some ⟨g1, 2, none⟩), .slice (some ⟨bl, ol, none⟩) c.clues.length cl_, .int .i64 (0 : Nat), .pointer (some ⟨bl, ol + 0, none⟩), .pointer (some ⟨bl, ol + 0, none⟩), .slice (some ⟨bo, oo, none⟩) (c.clues.getD 0 []).length co, .int .i64 (K : Nat), .pointer (some ⟨bo, oo + K * 6, none⟩), .agg #[.int .i64 p.kind, .int .i64 p.event, .int .i64 p.clock, .int .i64 p.after, .int .i64 p.mins.lo, .int .i64 p.mins.hi], .slice (some ⟨ga11_11, 0, none⟩) 1 1, .agg #[.slice (some ⟨g12_, 0, none⟩) 1 1], .slice (some ⟨k13_, 0, none⟩) 1 1]) ⟨e0, e1, e2, e3, e4, e5, e6, e7, e8, e9, e10, e11, e12, e13, trivial⟩ rfl ?_
              replace q1x := q1x.below hb q1x.lt
              replace q6x := q6x.below hb q6x.lt
              replace q7 := q7.below hb q7.lt
              replace q9 := q9.below hb q9.lt
              replace oa9 := own_below oa9 hb (Nat.le_refl _)
              replace hcu := hcu.below hb
              replace hoc2 := own_below hoc2 hb (Nat.le_refl _)
              replace hof2 := own_below hof2 hb (Nat.le_refl _)
              have n1_11 : g1 ≠ ga11_11 := Nat.ne_of_lt (Nat.lt_of_lt_of_le lt_1 hga11_11)
              have n5_11 : ga9_3 ≠ ga11_11 := Nat.ne_of_lt (Nat.lt_of_lt_of_le lt_5 hga11_11)
              have n7_11 : g7 ≠ ga11_11 := Nat.ne_of_lt (Nat.lt_of_lt_of_le lt_7 hga11_11)
              have n9_11 : g9 ≠ ga11_11 := Nat.ne_of_lt (Nat.lt_of_lt_of_le lt_9 hga11_11)
              have bhbw_11 := Nat.le_trans hbw.size hga11_11
              replace hbw := Below.on hbw hb hbw.size
              clear hb
              have hnew := own_built (base := w10.heap.size) (k := 1) (size := 6) (l := optsC [p]) q13_ rfl (by omega) h13_
              have hap3 : ∀ g, (Value.slice (some ⟨g13_, 0, none⟩) 1 1).ownBlock = some g → w10.heap.size ≤ g := fun g h => (hnew.lt g h).1
              refine EL.push clue_elem rfl rfl hcu.own (rd_one (l := [.slice (some ⟨g13_, 0, none⟩) 1 1]) qk13_ rfl) (by intro u hu; rw [List.mem_singleton.1 hu]; rfl) (by omega) rfl hbw.size rfl ?_
              intro v2 wp ho2 hgr hb2 _
              have hcu2 := hcu.push (o := [p]) hnew hgr ho2 hcu0 hap3 hszx
              replace q1x := blk_grown q1x hcu.own rfl hgr
              replace q6x := blk_grown q6x hcu.own rfl hgr
              replace oa9 := own_grown oa9 hcu.own rfl hgr
              replace hoc2 := own_grown hoc2 hcu.own rfl hgr
              replace hof2 := own_grown hof2 hcu.own rfl hgr
              replace hbw := hbw.trans hb2
              clear hcu
              obtain ⟨A2, c2, e2, _⟩ := (Rd.of_own hcu2.own).shape
              subst e2
              refine EL.val (fa_25_2 rfl) rfl ?_
              refine EL.store rfl rfl q6x sz_23 rfl rfl rfl rfl ?_
              intro w12 hq12 hg12
              replace q1x := q1x.grown hg12 (fun h => n1_5 (Option.some.inj h))
              replace oa9 := own_type oa9 q6x rfl hg12
              replace hoc2 := own_type hoc2 q6x rfl hg12
              replace hof2 := own_type hof2 q6x rfl hg12
              replace hcu2 := hcu2.type q6x rfl rfl hg12
              replace hbw := below_store hbw hg12 bhbw_5
              replace q6x := hq12
              clear hg12 hq12
              refine EL.nil ?_
              refine EX.blk ?_
              refine EX.seq ?_
              refine EC.region ?_
              refine EL.val (x_move rfl) rfl ?_
              refine EL.val (x_add rfl rfl (c := ((0 + 1 : Nat) : Int)) ((IntWalk.i64_in _ ⟨by first | omega | (simp only; omega), by first | omega | (simp only; omega)⟩).trans (by first | omega | (simp only; omega)))) rfl ?_
              refine EL.val (x_assign rfl) rfl ?_
              refine EL.nil ?_
              refine EX.roundD (0 + 1, _, _, _, fs ++ [_]) ⟨rfl, rfl, rfl, trivial⟩ (by repeat first | with_reducible exact Sub.refl _ | refine sub_past rfl ?_ | exact Sub.refl _ | refine sub_del rfl ?_ | refine sub_insL_nil ?_) ⟨hlt, q1x, q6x, oa9, by rw [crsBy_succ, ints_app, ← eK]; exact hoc2, by rw [zeros_succ, ints_app]; exact hof2, fun h => absurd h (by simp), fun _ => hap2, by rw [bareL_succ, hch]; exact hcu2, hbw⟩ (by simp only; omega)
          ·
            have hap := hap (by omega)
            refine EL.push i64_elem rfl rfl hoc (rd_one (l := [.int .i64 ((K : Nat) : Int)]) q7 rfl) (by intro u hu; rw [List.mem_singleton.1 hu]; rfl) (by omega) rfl hbw.size rfl ?_
            intro v13 w13 hoc2 hgr13 hf13 hat13
            replace q1x := blk_grown q1x hoc rfl hgr13
            replace q6x := blk_grown q6x hoc rfl hgr13
            replace oa9 := own_grown oa9 hoc rfl hgr13
            replace hcu := hcu.grown hoc rfl rfl hgr13
            have hof2_ := own_apart hof hgr13 hap
            have hap1 : Apart v13 (.slice AF x cF) := fun g h1 h2 => hat13.elim (fun h => hap g (h ▸ h1) h2) (fun h => by rw [h] at h1; injection h1 with h1; have := (hof.lt g h2).2; omega)
            replace hof := hof2_
            clear hof2_ hoc
            replace hbw := hbw.trans hf13
            refine EL.val (x_move rfl) rfl ?_
            refine EL.newS (bs_26_1 rfl) rfl ?_
            intro g14 w14 q14 hb14 hg14 hl14
            have n1_14 : g1 ≠ g14 := Nat.ne_of_lt (Nat.lt_of_lt_of_le q1x.lt hg14)
            have n5_14 : ga9_3 ≠ g14 := Nat.ne_of_lt (Nat.lt_of_lt_of_le q6x.lt hg14)
            have bhbw_14 := Nat.le_trans hbw.size hg14
            replace q1x := q1x.below hb14 q1x.lt
            replace q6x := q6x.below hb14 q6x.lt
            replace oa9 := own_below oa9 hb14 (Nat.le_refl _)
            replace hof := own_below hof hb14 (Nat.le_refl _)
            replace hcu := hcu.below hb14
            replace hoc2 := own_below hoc2 hb14 (Nat.le_refl _)
            replace hbw := Below.on hbw hb14 hbw.size
            clear hb14 hg14 hl14
            refine EL.push i64_elem rfl rfl hof (rd_one (l := [.int .i64 0]) q14 rfl) (by intro u hu; rw [List.mem_singleton.1 hu]; rfl) (by omega) rfl hbw.size rfl ?_
            intro v15 w15 hof2 hgr15 hf15 hat15
            replace q1x := blk_grown q1x hof rfl hgr15
            replace q6x := blk_grown q6x hof rfl hgr15
            replace oa9 := own_grown oa9 hof rfl hgr15
            replace hcu := hcu.grown hof rfl rfl hgr15
            have hoc3_ := own_apart hoc2 hgr15 hap1.symm
            have hap2 : Apart v13 v15 := fun g h1 h2 => hat15.elim (fun h => hap1 g h1 (h ▸ h2)) (fun h => by rw [h] at h2; injection h2 with h2; have := (hoc2.lt g h1).2; omega)
            replace hoc2 := hoc3_
            clear hoc3_ hof
            replace hbw := hbw.trans hf15
            refine EL.val (x_assign rfl) rfl ?_
            refine EL.val (x_assign rfl) rfl ?_
            refine EL.nil ?_
            refine EX.seq ?_
            have hcu0 := hcu
            have hszx := hbw.size
            have lt_1 := q1x.lt
            have lt_5 := q6x.lt
            refine EC.regionP [[], [0], [], [2], [], [2, 3, 4], [2, 3, 4, 5], [2, 3, 4, 5, 6], [], [2, 3, 4, 5, 6, 7, 8], [2, 3, 4, 5, 6, 7, 8, 9], [2, 3, 4, 5, 6, 7, 8, 9, 10], [2, 3, 4, 5, 6, 7, 8, 9, 10, 11], [2, 3, 4, 5, 6, 7, 8, 9, 10, 11, 12], [0, 1, 2, 3, 4, 5, 6, 7, 8, 9, 10, 11, 12, 13], [0, 1, 2, 3, 4, 5, 6, 7, 8, 9, 10, 11, 12, 13, 14], [0, 1, 2, 3, 4, 5, 6, 7, 8, 9, 10, 11, 12, 13, 14, 15]] 14 [] (phi (fun i_ r => match i_ with | 0 => r 0 = .pointer (some ⟨ga9_3, 2, none⟩) | 1 => r 1 = .slice AO (bareL c b x).length cO | 2 => r 2 = .pointer (some ⟨g1, 2, none⟩) | 3 => r 3 = .slice (some ⟨bl, ol, none⟩) c.clues.length cl_ | 4 => r 4 = .int .i64 (x : Nat) | 5 => r 5 = .pointer (some ⟨bl, ol + x, none⟩) | 6 => r 6 = .pointer (some ⟨bl, ol + x, none⟩) | 7 => r 7 = .slice (some ⟨bo, oo, none⟩) (c.clues.getD x []).length co | 8 => r 8 = .int .i64 (K : Nat) | 9 => r 9 = .pointer (some ⟨bo, oo + K * 6, none⟩) | 10 => r 10 = .agg #[.int .i64 p.kind, .int .i64 p.event, .int .i64 p.clock, .int .i64 p.after, .int .i64 p.mins.lo, .int .i64 p.mins.hi] | _ => True) [(11, fun r w_ => ∃ g_, r 11 = .slice (some ⟨g_, 0, none⟩) 1 1 ∧ Blk w_ g_ 71 #[.int .i64 p.kind, .int .i64 p.event, .int .i64 p.clock, .int .i64 p.after, .int .i64 p.mins.lo, .int .i64 p.mins.hi] ∧ w15.heap.size ≤ g_), (12, fun r w_ => ∃ g_, r 12 = .agg #[.slice (some ⟨g_, 0, none⟩) 1 1] ∧ Blk w_ g_ 71 #[.int .i64 p.kind, .int .i64 p.event, .int .i64 p.clock, .int .i64 p.after, .int .i64 p.mins.lo, .int .i64 p.mins.hi] ∧ w15.heap.size ≤ g_), (13, fun r w_ => ∃ k_ g_, r 13 = .slice (some ⟨k_, 0, none⟩) 1 1 ∧ Blk w_ k_ 74 #[.slice (some ⟨g_, 0, none⟩) 1 1] ∧ Blk w_ g_ 71 #[.int .i64 p.kind, .int .i64 p.event, .int .i64 p.clock, .int .i64 p.after, .int .i64 p.mins.lo, .int .i64 p.mins.hi] ∧ w15.heap.size ≤ g_ ∧ w15.heap.size ≤ k_)]) (by kernel_rfl) rfl rfl (phi_cons mono_bs (phi_cons mono_bs1 (phi_cons mono_bs2 (phi_nil)))) (fun i_ hi_ => ?_) ?_
            · match i_, hi_ with
              | 0, _ =>
                intro val w1 a hb ha hd
                have ha := ha.sub (Sub.ins (d := 6) (Sub.nil _) rfl)
                exact hs_val ha rfl rfl (fa_25_2 rfl) rfl rfl
              | 1, _ =>
                intro val w1 a hb ha hd
                have e0 : val 0 = .pointer (some ⟨ga9_3, 2, none⟩) := hd 0 (memB_mem.1 rfl)
                have ha := ha.sub (Sub.ins (d := 74) (Sub.nil _) (dep_get rfl e0))
                exact hs_val ha rfl rfl (ld_23 rfl ((q6x.below hb q6x.lt).at (j := 2) rfl)) rfl rfl
              | 2, _ =>
                intro val w1 a hb ha hd
                have ha := ha.sub (Sub.ins (d := 2) (Sub.nil _) rfl)
                exact hs_val ha rfl rfl (fa_25_2 rfl) rfl rfl
              | 3, _ =>
                intro val w1 a hb ha hd
                have e2 : val 2 = .pointer (some ⟨g1, 2, none⟩) := hd 2 (memB_mem.1 rfl)
                have ha := ha.sub (Sub.ins (d := 76) (Sub.nil _) (dep_get rfl e2))
                exact hs_val ha rfl rfl (ld_23 rfl ((q1x.below hb q1x.lt).at (j := 2) rfl)) rfl rfl
              | 4, _ =>
                intro val w1 a hb ha hd
                have ha := ha.sub (Sub.ins (d := 8) (Sub.nil _) rfl)
                exact hs_val ha rfl rfl (x_move rfl) rfl rfl
              | 5, _ =>
                intro val w1 a hb ha hd
                have e3 : val 3 = .slice (some ⟨bl, ol, none⟩) c.clues.length cl_ := hd 3 (memB_mem.1 rfl)
                have e4 : val 4 = .int .i64 (x : Nat) := hd 4 (memB_mem.1 rfl)
                have ha := ha.sub (Sub.ins (d := 78) (Sub.ins (d := 77) (Sub.nil _) (dep_get rfl e3)) (dep_get rfl e4))
                exact hs_val ha rfl rfl (ix_23 rfl rfl hlt) rfl rfl
              | 6, _ =>
                intro val w1 a hb ha hd
                have e5 : val 5 = .pointer (some ⟨bl, ol + x, none⟩) := hd 5 (memB_mem.1 rfl)
                have ha := ha.sub (Sub.ins (d := 79) (Sub.nil _) (dep_get rfl e5))
                exact hs_val ha rfl rfl (fa_74_0 rfl) rfl rfl
              | 7, _ =>
                intro val w1 a hb ha hd
                have e6 : val 6 = .pointer (some ⟨bl, ol + x, none⟩) := hd 6 (memB_mem.1 rfl)
                have ha := ha.sub (Sub.ins (d := 80) (Sub.nil _) (dep_get rfl e6))
                exact hs_val ha rfl rfl (ld_72 rfl (below_load (Below.on hbw hb hbw.size) hcell)) rfl rfl
              | 8, _ =>
                intro val w1 a hb ha hd
                have ha := ha.sub (Sub.ins (d := 9) (Sub.nil _) rfl)
                exact hs_val ha rfl rfl (x_move rfl) rfl rfl
              | 9, _ =>
                intro val w1 a hb ha hd
                have e7 : val 7 = .slice (some ⟨bo, oo, none⟩) (c.clues.getD x []).length co := hd 7 (memB_mem.1 rfl)
                have e8 : val 8 = .int .i64 (K : Nat) := hd 8 (memB_mem.1 rfl)
                have ha := ha.sub (Sub.ins (d := 82) (Sub.ins (d := 81) (Sub.nil _) (dep_get rfl e7)) (dep_get rfl e8))
                exact hs_val ha rfl rfl (ix_72 rfl rfl hpk) rfl rfl
              | 10, _ =>
                intro val w1 a hb ha hd
                have e9 : val 9 = .pointer (some ⟨bo, oo + K * 6, none⟩) := hd 9 (memB_mem.1 rfl)
                have ha := ha.sub (Sub.ins (d := 83) (Sub.nil _) (dep_get rfl e9))
                exact hs_val ha rfl rfl (ld_71 rfl (below_load (Below.on hbw hb hbw.size) oc.c0) (below_load (Below.on hbw hb hbw.size) oc.c1) (below_load (Below.on hbw hb hbw.size) oc.c2) (below_load (Below.on hbw hb hbw.size) oc.c3) (below_load (Below.on hbw hb hbw.size) oc.c4) (below_load (Below.on hbw hb hbw.size) oc.c5)) rfl rfl
              | 11, _ =>
                intro val w1 a hb ha hd
                have e10 : val 10 = .agg #[.int .i64 p.kind, .int .i64 p.event, .int .i64 p.clock, .int .i64 p.after, .int .i64 p.mins.lo, .int .i64 p.mins.hi] := hd 10 (memB_mem.1 rfl)
                have ha := ha.sub (Sub.ins (d := 84) (Sub.nil _) (dep_get rfl e10))
                exact hs_newS ha rfl rfl (bs_72_1 rfl) rfl (fun g w' hq _ hge => ⟨g, rfl, hq, Nat.le_trans hb.size hge⟩)
              | 12, _ =>
                intro val w1 a hb ha hd
                obtain ⟨g11_, e11, q11_, h11_⟩ := hd 11 (memB_mem.1 rfl)
                change val 11 = _ at e11
                have ha := ha.sub (Sub.ins (d := 85) (Sub.nil _) (dep_get rfl e11))
                exact hs_val ha rfl rfl (bd_74_0 rfl) ⟨g11_, rfl, q11_, h11_⟩ rfl
              | 13, _ =>
                intro val w1 a hb ha hd
                obtain ⟨g12_, e12, q12_, h12_⟩ := hd 12 (memB_mem.1 rfl)
                have ha := ha.sub (Sub.ins (d := 86) (Sub.nil _) (dep_get rfl e12))
                exact hs_newS ha rfl rfl (bs_23_1 rfl) rfl (fun g w' hq hb' hge => ⟨g, g12_, rfl, hq, q12_.below hb' q12_.lt, h12_, Nat.le_trans hb.size hge⟩)
              | k + 14, h => exact absurd h (by omega)
            · intro val wR11 hb halc hd
              have e0 : val 0 = .pointer (some ⟨ga9_3, 2, none⟩) := hd 0 (by omega)
              have e1 : val 1 = .slice AO (bareL c b x).length cO := hd 1 (by omega)
              have e2 : val 2 = .pointer (some ⟨g1, 2, none⟩) := hd 2 (by omega)
              have e3 : val 3 = .slice (some ⟨bl, ol, none⟩) c.clues.length cl_ := hd 3 (by omega)
              have e4 : val 4 = .int .i64 (x : Nat) := hd 4 (by omega)
              have e5 : val 5 = .pointer (some ⟨bl, ol + x, none⟩) := hd 5 (by omega)
              have e6 : val 6 = .pointer (some ⟨bl, ol + x, none⟩) := hd 6 (by omega)
              have e7 : val 7 = .slice (some ⟨bo, oo, none⟩) (c.clues.getD x []).length co := hd 7 (by omega)
              have e8 : val 8 = .int .i64 (K : Nat) := hd 8 (by omega)
              have e9 : val 9 = .pointer (some ⟨bo, oo + K * 6, none⟩) := hd 9 (by omega)
              have e10 : val 10 = .agg #[.int .i64 p.kind, .int .i64 p.event, .int .i64 p.clock, .int .i64 p.after, .int .i64 p.mins.lo, .int .i64 p.mins.hi] := hd 10 (by omega)
              obtain ⟨ga11_11, e11, qa11_11, hga11_11⟩ := hd 11 (by omega)
              change val 11 = _ at e11
              change Blk wR11 ga11_11 71 #[.int .i64 p.kind, .int .i64 p.event, .int .i64 p.clock, .int .i64 p.after, .int .i64 p.mins.lo, .int .i64 p.mins.hi] at qa11_11
              obtain ⟨g12_, e12, q12_, h12_⟩ := hd 12 (by omega)
              obtain ⟨k13_, g13_, e13, qk13_, q13_, h13_, hk13_⟩ := hd 13 (by omega)
              refine EL.ends (cs := [.pointer (some ⟨ga9_3, 2, none⟩), .slice AO (bareL c b x).length cO, .pointer (some ⟨g1, 2, none⟩), .slice (some ⟨bl, ol, none⟩) c.clues.length cl_, .int .i64 (x : Nat), .pointer (some ⟨bl, ol + x, none⟩), .pointer (some ⟨bl, ol + x, none⟩), .slice (some ⟨bo, oo, none⟩) (c.clues.getD x []).length co, .int .i64 (K : Nat), .pointer (some ⟨bo, oo + K * 6, none⟩), .agg #[.int .i64 p.kind, .int .i64 p.event, .int .i64 p.clock, .int .i64 p.after, .int .i64 p.mins.lo, .int .i64 p.mins.hi], .slice (some ⟨ga11_11, 0, none⟩) 1 1, .agg #[.slice (some ⟨g12_, 0, none⟩) 1 1], .slice (some ⟨k13_, 0, none⟩) 1 1]) ⟨e0, e1, e2, e3, e4, e5, e6, e7, e8, e9, e10, e11, e12, e13, trivial⟩ rfl ?_
              replace q1x := q1x.below hb q1x.lt
              replace q6x := q6x.below hb q6x.lt
              replace oa9 := own_below oa9 hb (Nat.le_refl _)
              replace hcu := hcu.below hb
              replace hoc2 := own_below hoc2 hb (Nat.le_refl _)
              replace hof2 := own_below hof2 hb (Nat.le_refl _)
              have n1_16 : g1 ≠ ga11_11 := Nat.ne_of_lt (Nat.lt_of_lt_of_le lt_1 hga11_11)
              have n5_16 : ga9_3 ≠ ga11_11 := Nat.ne_of_lt (Nat.lt_of_lt_of_le lt_5 hga11_11)
              have bhbw_16 := Nat.le_trans hbw.size hga11_11
              replace hbw := Below.on hbw hb hbw.size
              clear hb
              have hnew := own_built (base := w15.heap.size) (k := 1) (size := 6) (l := optsC [p]) q13_ rfl (by omega) h13_
              have hap3 : ∀ g, (Value.slice (some ⟨g13_, 0, none⟩) 1 1).ownBlock = some g → w15.heap.size ≤ g := fun g h => (hnew.lt g h).1
              refine EL.push clue_elem rfl rfl hcu.own (rd_one (l := [.slice (some ⟨g13_, 0, none⟩) 1 1]) qk13_ rfl) (by intro u hu; rw [List.mem_singleton.1 hu]; rfl) (by omega) rfl hbw.size rfl ?_
              intro v2 wp ho2 hgr hb2 _
              have hcu2 := hcu.push (o := [p]) hnew hgr ho2 hcu0 hap3 hszx
              replace q1x := blk_grown q1x hcu.own rfl hgr
              replace q6x := blk_grown q6x hcu.own rfl hgr
              replace oa9 := own_grown oa9 hcu.own rfl hgr
              replace hoc2 := own_grown hoc2 hcu.own rfl hgr
              replace hof2 := own_grown hof2 hcu.own rfl hgr
              replace hbw := hbw.trans hb2
              clear hcu
              obtain ⟨A2, c2, e2, _⟩ := (Rd.of_own hcu2.own).shape
              subst e2
              refine EL.val (fa_25_2 rfl) rfl ?_
              refine EL.store rfl rfl q6x sz_23 rfl rfl rfl rfl ?_
              intro w17 hq17 hg17
              replace q1x := q1x.grown hg17 (fun h => n1_5 (Option.some.inj h))
              replace oa9 := own_type oa9 q6x rfl hg17
              replace hoc2 := own_type hoc2 q6x rfl hg17
              replace hof2 := own_type hof2 q6x rfl hg17
              replace hcu2 := hcu2.type q6x rfl rfl hg17
              replace hbw := below_store hbw hg17 bhbw_5
              replace q6x := hq17
              clear hg17 hq17
              refine EL.nil ?_
              refine EX.blk ?_
              refine EX.seq ?_
              refine EC.region ?_
              refine EL.val (x_move rfl) rfl ?_
              refine EL.val (x_add rfl rfl (c := ((x + 1 : Nat) : Int)) ((IntWalk.i64_in _ ⟨by first | omega | (simp only; omega), by first | omega | (simp only; omega)⟩).trans (by first | omega | (simp only; omega)))) rfl ?_
              refine EL.val (x_assign rfl) rfl ?_
              refine EL.nil ?_
              refine EX.roundD (x + 1, _, _, _, fs ++ [_]) ⟨rfl, rfl, rfl, trivial⟩ (by repeat first | with_reducible exact Sub.refl _ | refine sub_past rfl ?_ | exact Sub.refl _ | refine sub_del rfl ?_ | refine sub_insL_nil ?_) ⟨hlt, q1x, q6x, oa9, by rw [crsBy_succ, ints_app, ← eK]; exact hoc2, by rw [zeros_succ, ints_app]; exact hof2, fun h => absurd h (by simp), fun _ => hap2, by rw [bareL_succ, hch]; exact hcu2, hbw⟩ (by simp only; omega)
        ·
          have hxn : x = c.clues.length := by omega
          subst hxn
          have hrB : RdCase wx wx.heap.size (.slice A9_ c.clocks.length c9_) (.slice AO (bareL c b c.clues.length).length cO) (bareC c b) fs := OwnCase.rd (base := w.heap.size) ⟨oa9, hcu⟩
          have hrC := Rd.of_own hoc
          have hrF := Rd.of_own hof
          have hbB := Below.refl wx.heap.size wx
          have hsmB := bare_small (c := c) (b := b) (by omega) (by omega)
          have hst := start_by (b := b) hcb
          have hcr := inCourse_by (b := b) hcb (Nat.le_refl _)
          have hnB1 : (bareC c b).clocks.length = c.clocks.length := rfl
          have hnB2 : (bareC c b).clues.length = c.clues.length := bareL_len _ _ _
          rw [bareL_len] at q6x
          obtain ⟨gF, rfl⟩ : ∃ g, AF = some ⟨g, 0, none⟩ := own_some hof hz0
          rw [hbl] at hrB
          refine EC.seq ?_
          refine EC.seq ?_
          refine EC.region ?_
          refine EL.val (x_move rfl) rfl ?_
          refine EL.val (fa_25_2 rfl) rfl ?_
          refine EL.val (ld_23 rfl (q1x.at (j := 2) rfl)) rfl ?_
          refine EL.val (ln_23 rfl) rfl ?_
          refine EL.val (x_lss rfl rfl (decide_eq_false (show ¬(((c.clues.length : Nat) : Int) < ((c.clues.length : Nat) : Int)) by omega))) rfl ?_
          refine EL.nil ?_
          refine EX.seq ?_
          refine EC.no rfl ?_
          refine EC.exit ?_
          refine EX.seq_exit ?_
          refine EX.seq_exit ?_
          refine EX.blk_here ?_
          refine EX.seq ?_
          refine EC.seq ?_
          refine EC.region ?_
          refine EL.val (ld_25 rfl (q1x.at (j := 0) rfl) (q1x.at (j := 1) rfl) (q1x.at (j := 2) rfl)) rfl ?_
          refine EL.call (cl_14 rfl) rfl (copied_any c _ _ vs _ B (hr.below (hbw.mono hB)) (Nat.le_trans hB hbw.size) hn1 hn2 hsm) ?_
          rintro e w19 ⟨⟨vaq18, vbq18, wsq18, rfl, hoq18⟩, hc19⟩
          refine ⟨_, rfl, ?_⟩
          replace q1x := q1x.below hc19 q1x.lt
          replace q6x := q6x.below hc19 q6x.lt
          replace hbw := Below.on hbw hc19 hbw.size
          replace hbB := Below.on hbB hc19 hbB.size
          clear hc19
          have hrq18 := hoq18.rd
          obtain ⟨Adq18, cdq18, rfl, _⟩ := hrq18.clocks.shape
          obtain ⟨Amq18, cmq18, rfl, _⟩ := hrq18.clues.rd.shape
          have hbq18 := Below.refl w19.heap.size w19
          refine EL.val (x_move rfl) rfl ?_
          refine EL.call (cl_15 rfl) rfl (ints_any (crsBy c b c.clues.length) _ _ wx.heap.size (by rw [crsBy_len]; exact hrC.below hbB) hbB.size (by rw [crsBy_len]; omega)) ?_
          rintro e w21 ⟨⟨vlq20, rfl, holq20⟩, hc21⟩
          refine ⟨_, rfl, ?_⟩
          replace q1x := q1x.below hc21 q1x.lt
          replace q6x := q6x.below hc21 q6x.lt
          replace hbw := Below.on hbw hc21 hbw.size
          replace hbB := Below.on hbB hc21 hbB.size
          replace hbq18 := Below.on hbq18 hc21 hbq18.size
          clear hc21
          have hlq20 := Rd.of_own holq20
          obtain ⟨Aiq20, ciq20, rfl, _⟩ := hlq20.shape
          have hzq20 := hbq18.size
          have hbq20 := Below.refl w21.heap.size w21
          cases hfit : fitsS c (crsBy c b c.clues.length)
          ·
            have hneg : ¬(rch c (crsBy c b c.clues.length) (-1)).ring < 0 := of_decide_eq_false hfit
            refine EL.call (cl_26 rfl rfl) rfl (possible_to (poss_no hst hfit) hst _ _ wsq18 _ _ ((hrq18.below hbq18).more hzq20) hbq20.size hn1 hn2 _ (hlq20.below hbq20) (by rw [crsBy_len]; omega)) ?_
            rintro e w22 ⟨rfl, hc22⟩
            refine ⟨_, rfl, ?_⟩
            replace q1x := q1x.below hc22 q1x.lt
            replace q6x := q6x.below hc22 q6x.lt
            replace hbw := Below.on hbw hc22 hbw.size
            replace hbB := Below.on hbB hc22 hbB.size
            replace hbq18 := Below.on hbq18 hc22 hbq18.size
            replace hbq20 := Below.on hbq20 hc22 hbq20.size
            clear hc22
            refine EL.val (x_move rfl) rfl ?_
            refine EL.val (x_extract rfl rfl) rfl ?_
            refine EL.val (x_extract rfl rfl) rfl ?_
            refine EL.val (x_assign rfl) rfl ?_
            refine EL.val (x_assign rfl) rfl ?_
            refine EL.nil ?_
            refine EX.seq ?_
            refine EC.seq ?_
            refine EC.region ?_
            refine EL.val (ld_25 rfl (q1x.at (j := 0) rfl) (q1x.at (j := 1) rfl) (q1x.at (j := 2) rfl)) rfl ?_
            refine EL.call (cl_14 rfl) rfl (copied_any c _ _ vs _ B (hr.below (hbw.mono hB)) (Nat.le_trans hB hbw.size) hn1 hn2 hsm) ?_
            rintro e w24 ⟨⟨vaq23, vbq23, wsq23, rfl, hoq23⟩, hc24⟩
            refine ⟨_, rfl, ?_⟩
            replace q1x := q1x.below hc24 q1x.lt
            replace q6x := q6x.below hc24 q6x.lt
            replace hbw := Below.on hbw hc24 hbw.size
            replace hbB := Below.on hbB hc24 hbB.size
            replace hbq18 := Below.on hbq18 hc24 hbq18.size
            replace hbq20 := Below.on hbq20 hc24 hbq20.size
            clear hc24
            have hrq23 := hoq23.rd
            obtain ⟨Adq23, cdq23, rfl, _⟩ := hrq23.clocks.shape
            obtain ⟨Amq23, cmq23, rfl, _⟩ := hrq23.clues.rd.shape
            have hbq23 := Below.refl w24.heap.size w24
            refine EL.val (x_move rfl) rfl ?_
            refine EL.call (cl_15 rfl) rfl (ints_any (crsBy c b c.clues.length) _ _ wx.heap.size (by rw [crsBy_len]; exact hrC.below hbB) hbB.size (by rw [crsBy_len]; omega)) ?_
            rintro e w26 ⟨⟨vlq25, rfl, holq25⟩, hc26⟩
            refine ⟨_, rfl, ?_⟩
            replace q1x := q1x.below hc26 q1x.lt
            replace q6x := q6x.below hc26 q6x.lt
            replace hbw := Below.on hbw hc26 hbw.size
            replace hbB := Below.on hbB hc26 hbB.size
            replace hbq18 := Below.on hbq18 hc26 hbq18.size
            replace hbq20 := Below.on hbq20 hc26 hbq20.size
            replace hbq23 := Below.on hbq23 hc26 hbq23.size
            clear hc26
            have hlq25 := Rd.of_own holq25
            obtain ⟨Aiq25, ciq25, rfl, _⟩ := hlq25.shape
            have hzq25 := hbq23.size
            have hbq25 := Below.refl w26.heap.size w26
            refine EL.call (cl_13 rfl rfl) rfl (proof_to (proof_ok hst hneg) _ _ wsq23 _ _ ((hrq23.below hbq23).more hzq25) hbq25.size hn1 hn2 _ (hlq25.below hbq25) (by rw [crsBy_len]; omega)) ?_
            rintro e w27 ⟨⟨vR, rr, rfl, hrd, hnil, hring⟩, hc27⟩
            refine ⟨_, rfl, ?_⟩
            replace q1x := q1x.below hc27 q1x.lt
            replace q6x := q6x.below hc27 q6x.lt
            replace hbw := Below.on hbw hc27 hbw.size
            replace hbB := Below.on hbB hc27 hbB.size
            replace hbq18 := Below.on hbq18 hc27 hbq18.size
            replace hbq20 := Below.on hbq20 hc27 hbq20.size
            replace hbq23 := Below.on hbq23 hc27 hbq23.size
            replace hbq25 := Below.on hbq25 hc27 hbq25.size
            clear hc27
            have hans := (hring rfl).2
            have hRG := hans.ok (hub_of hcb hcr.neg).ne hneg
            clear hans hring hnil
            have hn29 : nOf c ≤ 29 := by unfold nOf; omega
            have h2 := hRG.two
            have hle := hRG.le
            obtain ⟨m, em⟩ : ∃ m, rr.length = m := ⟨_, rfl⟩
            rw [em] at hrd h2 hle
            obtain ⟨AR, cR, rfl, _⟩ := hrd.shape
            have hszRw := hbw.size
            have hszRx := hbB.size
            have hbR := Below.refl w27.heap.size w27
            refine EL.val (x_move rfl) rfl ?_
            refine EL.val (x_extract rfl rfl) rfl ?_
            refine EL.val (x_extract rfl rfl) rfl ?_
            refine EL.val (x_assign rfl) rfl ?_
            refine EL.val (x_assign rfl) rfl ?_
            refine EL.nil ?_
            refine EX.seq ?_
            refine EC.seq ?_
            refine EC.region ?_
            refine EL.val (ld_25 rfl (q6x.at (j := 0) rfl) (q6x.at (j := 1) rfl) (q6x.at (j := 2) rfl)) rfl ?_
            refine EL.call (cl_14 rfl) rfl (copied_any (bareC c b) _ _ fs _ _ (hrB.below hbB) hbB.size (by omega) (by omega) hsmB) ?_
            rintro e w29 ⟨⟨vaq28, vbq28, wsq28, rfl, hoq28⟩, hc29⟩
            refine ⟨_, rfl, ?_⟩
            replace q1x := q1x.below hc29 q1x.lt
            replace q6x := q6x.below hc29 q6x.lt
            replace hbw := Below.on hbw hc29 hbw.size
            replace hbB := Below.on hbB hc29 hbB.size
            replace hbq18 := Below.on hbq18 hc29 hbq18.size
            replace hbq20 := Below.on hbq20 hc29 hbq20.size
            replace hbq23 := Below.on hbq23 hc29 hbq23.size
            replace hbq25 := Below.on hbq25 hc29 hbq25.size
            replace hbR := Below.on hbR hc29 hbR.size
            clear hc29
            have hrq28 := hoq28.rd
            obtain ⟨Adq28, cdq28, rfl, _⟩ := hrq28.clocks.shape
            obtain ⟨Amq28, cmq28, rfl, _⟩ := hrq28.clues.rd.shape
            have hbq28 := Below.refl w29.heap.size w29
            refine EL.call (cl_21 rfl) rfl (courses_to (crs_ok (bare_ok hcb) (by rw [bare_many hcb]; decide)) ((crsRes_ok (crs_ok (bare_ok hcb) (by rw [bare_many hcb]; decide))).trans ((bare_courses hcb).trans (if_neg (by rw [hfit]; decide)))) _ _ wsq28 _ _ (hrq28.below hbq28) hbq28.size (by omega) (by omega)) ?_
            rintro e w30 ⟨⟨vL, us, rfl, hrL⟩, hc30⟩
            refine ⟨_, rfl, ?_⟩
            replace q1x := q1x.below hc30 q1x.lt
            replace q6x := q6x.below hc30 q6x.lt
            replace hbw := Below.on hbw hc30 hbw.size
            replace hbB := Below.on hbB hc30 hbB.size
            replace hbq18 := Below.on hbq18 hc30 hbq18.size
            replace hbq20 := Below.on hbq20 hc30 hbq20.size
            replace hbq23 := Below.on hbq23 hc30 hbq23.size
            replace hbq25 := Below.on hbq25 hc30 hbq25.size
            replace hbR := Below.on hbR hc30 hbR.size
            replace hbq28 := Below.on hbq28 hc30 hbq28.size
            clear hc30
            obtain ⟨AL, cL, rfl, _⟩ := hrL.rd.shape
            have hszL := hbB.size
            have hbL := Below.refl w30.heap.size w30
            refine EL.val (x_move rfl) rfl ?_
            refine EL.val (x_extract rfl rfl) rfl ?_
            refine EL.val (x_extract rfl rfl) rfl ?_
            refine EL.val (x_assign rfl) rfl ?_
            refine EL.val (x_assign rfl) rfl ?_
            refine EL.nil ?_
            refine EX.seq ?_
            refine EC.seq ?_
            refine EC.seq ?_
            refine EC.region ?_
            refine EL.val (x_move rfl) rfl ?_
            refine EL.val (x_neq (r := false) rfl rfl (by decide)) rfl ?_
            refine EL.val (x_move rfl) rfl ?_
            refine EL.valg rfl rfl (x_move rfl) rfl ?_
            refine EL.valg rfl rfl (x_neq (r := false) rfl rfl (by decide)) rfl ?_
            refine EL.val (x_pick_f rfl rfl) rfl ?_
            refine EL.nil ?_
            refine EX.seq ?_
            refine EC.no rfl ?_
            refine EC.skip ?_
            refine EX.seq ?_
            refine EC.seq ?_
            refine EC.seq ?_
            refine EC.region ?_
            refine EL.val (x_move rfl) rfl ?_
            refine EL.nil ?_
            refine EX.seq ?_
            refine EC.no rfl ?_
            refine EC.skip ?_
            refine EX.seq ?_
            refine EC.seq ?_
            refine EC.seq ?_
            refine EC.region ?_
            refine EL.val (x_move rfl) rfl ?_
            refine EL.val (x_neq (r := false) rfl rfl (by decide)) rfl ?_
            refine EL.val (x_move rfl) rfl ?_
            refine EL.valg rfl rfl (x_move rfl) rfl ?_
            refine EL.valg rfl rfl (ln_29 rfl) rfl ?_
            refine EL.valg rfl rfl (x_lss (r := false) rfl rfl (decide_eq_false (by omega))) rfl ?_
            refine EL.val (x_pick_f rfl rfl) rfl ?_
            refine EL.val (x_move rfl) rfl ?_
            refine EL.valg rfl rfl (x_move rfl) rfl ?_
            refine EL.valg rfl rfl (ln_41 rfl) rfl ?_
            refine EL.valg rfl rfl (x_neq (r := false) rfl rfl (by decide)) rfl ?_
            refine EL.val (x_pick_f rfl rfl) rfl ?_
            refine EL.nil ?_
            refine EX.seq ?_
            refine EC.no rfl ?_
            refine EC.skip ?_
            refine EX.seq ?_
            refine EC.seq ?_
            refine EC.region ?_
            refine EL.val (fa_25_0 rfl) rfl ?_
            refine EL.val (ld_3 rfl (q6x.at (j := 0) rfl)) rfl ?_
            refine EL.val (fa_25_1 rfl) rfl ?_
            refine EL.val (ld_22 rfl (q6x.at (j := 1) rfl)) rfl ?_
            refine EL.val (bd_25_0_1 rfl rfl) rfl ?_
            refine EL.newP al_25 rfl ?_
            intro g31 w31 q31 hb31 hg31 hl31
            have n1_31 : g1 ≠ g31 := Nat.ne_of_lt (Nat.lt_of_lt_of_le q1x.lt hg31)
            have n5_31 : ga9_3 ≠ g31 := Nat.ne_of_lt (Nat.lt_of_lt_of_le q6x.lt hg31)
            have bhbw_31 := Nat.le_trans hbw.size hg31
            have bhbB_31 := Nat.le_trans hbB.size hg31
            have bhbq18_31 := Nat.le_trans hbq18.size hg31
            have bhbq20_31 := Nat.le_trans hbq20.size hg31
            have bhbq23_31 := Nat.le_trans hbq23.size hg31
            have bhbq25_31 := Nat.le_trans hbq25.size hg31
            have bhbR_31 := Nat.le_trans hbR.size hg31
            have bhbq28_31 := Nat.le_trans hbq28.size hg31
            have bhbL_31 := Nat.le_trans hbL.size hg31
            replace q1x := q1x.below hb31 q1x.lt
            replace q6x := q6x.below hb31 q6x.lt
            replace hbw := Below.on hbw hb31 hbw.size
            replace hbB := Below.on hbB hb31 hbB.size
            replace hbq18 := Below.on hbq18 hb31 hbq18.size
            replace hbq20 := Below.on hbq20 hb31 hbq20.size
            replace hbq23 := Below.on hbq23 hb31 hbq23.size
            replace hbq25 := Below.on hbq25 hb31 hbq25.size
            replace hbR := Below.on hbR hb31 hbR.size
            replace hbq28 := Below.on hbq28 hb31 hbq28.size
            replace hbL := Below.on hbL hb31 hbL.size
            clear hb31 hg31 hl31
            refine EL.store rfl rfl q31 sz_25 rfl rfl rfl rfl ?_
            intro w32 hq32 hg32
            replace q1x := q1x.grown hg32 (fun h => n1_31 (Option.some.inj h))
            replace q6x := q6x.grown hg32 (fun h => n5_31 (Option.some.inj h))
            replace hbw := below_store hbw hg32 bhbw_31
            replace hbB := below_store hbB hg32 bhbB_31
            replace hbq18 := below_store hbq18 hg32 bhbq18_31
            replace hbq20 := below_store hbq20 hg32 bhbq20_31
            replace hbq23 := below_store hbq23 hg32 bhbq23_31
            replace hbq25 := below_store hbq25 hg32 bhbq25_31
            replace hbR := below_store hbR hg32 bhbR_31
            replace hbq28 := below_store hbq28 hg32 bhbq28_31
            replace hbL := below_store hbL hg32 bhbL_31
            replace q31 := hq32
            clear hg32 hq32
            refine EL.nil ?_
            refine EX.seq ?_
            refine EC.seq ?_
            refine EC.seq ?_
            refine EC.region ?_
            refine EL.val (x_assign rfl) rfl ?_
            refine EL.nil ?_
            refine EX.seq ?_
            refine EC.block ?_
            have hg16 : w.heap.size ≤ g31 := bhbw_31
            have n6_16 : ga9_3 ≠ g31 := n5_31
            have hx16 : wx.heap.size ≤ g31 := bhbB_31
            have hR16 : w27.heap.size ≤ g31 := bhbR_31
            have hszxw := hbw.size
            refine EC.loopD [17, 18, 19, 20, 21, 158, 159, 160, 161, 162, 163, 164, 165, 166, 167, 168, 169, 170, 171, 172, 173, 174, 175, 176, 177, 178, 179, 180, 181, 182, 183, 184, 185, 186, 187, 188, 189, 190, 191, 192, 193, 194, 195, 196, 197, 198, 199, 200, 201, 202, 203, 204, 205, 206, 207, 208, 209, 210, 211, 212, 213, 214, 215, 216, 217, 218, 219, 220, 221, 222, 223, 224, 225, 226, 227, 228, 229, 230, 231, 232, 233] (fun x : Nat × Value × List Value => [(17, .int .i64 (x.1 : Nat))]) (fun x W => x.1 ≤ c.clues.length ∧ Blk W ga9_3 25 #[.int .i64 c.events, .slice A9_ c.clocks.length c9_, .slice AO c.clues.length cO] ∧ Blk W g31 25 #[.int .i64 c.events, .slice A9_ c.clocks.length c9_, x.2.1] ∧ W.ownsRow w27.heap.size 74 1 x.2.1 (leftL c b rr x.1).length x.2.2 ∧ x.2.2.length = (leftL c b rr x.1).length ∧ (∀ i, i < (leftL c b rr x.1).length → Rd wx wx.heap.size 6 (x.2.2.getD i undef) ((leftL c b rr x.1).getD i []).length (optsC ((leftL c b rr x.1).getD i []))) ∧ Below w.heap.size w W ∧ Below wx.heap.size wx W ∧ Below w27.heap.size w27 W) (fun x => c.clues.length - x.1) (0, .slice none 0 0, []) ⟨Nat.zero_le _, q6x, q31, ⟨rfl, .inl ⟨rfl, rfl⟩⟩, rfl, fun i hi => absurd hi (by simp [leftL]), hbw, hbB, hbR⟩ ⟨rfl, trivial⟩ ?_
            clear q6x q31 hbw hbB hbR hbL
            rintro ⟨x, vl, ls⟩ wy ⟨hx, q6y, q16y, hol, hll, hlr, hbw, hbB, hbR⟩
            dsimp only at hx q16y hol hll hlr
            obtain ⟨AY, cY, eY, _⟩ := (Rd.of_own hol).shape
            subst eY
            have hlk := leftL_len (c := c) (b := b) (r := rr) x
            by_cases hlt : x < c.clues.length
            ·
              have hxB : x < (bareC c b).clues.length := by rw [hnB2]; exact hlt
              obtain ⟨bl2, ol2, e_, _, hcell⟩ := rdll_cell hrB.clues x hxB
              subst e_
              have hrow := hrB.clues.row x hxB
              rw [show (bareC c b).clues.getD x [] = [chosen c b x] from bareL_get hlt] at hrow
              obtain ⟨Ao, co, eo, _⟩ := hrow.shape
              have hrow0 := hrow
              rw [eo] at hcell hrow
              obtain ⟨bo, oo, e_, _, oc⟩ := opts_cells [chosen c b x] 0 (Nat.zero_lt_one) _ _ _ _ _ hrow
              subst e_
              obtain ⟨p, ep⟩ : ∃ z, z = chosen c b x := ⟨_, rfl⟩
              have hpok := chosen_ok (b := b) hcb hlt
              rw [← ep] at hpok hrow hrow0
              change OptAt wx bo (oo + 0 * 6) (chosen c b x) at oc
              rw [← ep] at oc
              have hop := optB_ok hpok
              have hclk := opt_clock hpok
              have hpe := hop.event
              have hpm := hop.mins
              by_cases hkd : p.kind = 2
              ·
                refine EC.seq ?_
                refine EC.seq ?_
                refine EC.region ?_
                refine EL.val (x_move rfl) rfl ?_
                refine EL.val (fa_25_2 rfl) rfl ?_
                refine EL.val (ld_23 rfl (q6y.at (j := 2) rfl)) rfl ?_
                refine EL.val (ln_23 rfl) rfl ?_
                refine EL.val (x_lss rfl rfl (decide_eq_true (show (((x : Nat) : Int) < ((c.clues.length : Nat) : Int)) by omega))) rfl ?_
                refine EL.nil ?_
                refine EX.seq ?_
                refine EC.yes rfl ?_
                refine EC.skip ?_
                refine EX.seq ?_
                refine EC.seq ?_
                refine EC.block ?_
                refine EC.seq ?_
                refine EC.region ?_
                refine EL.val (fa_25_2 rfl) rfl ?_
                refine EL.val (ld_23 rfl (q6y.at (j := 2) rfl)) rfl ?_
                refine EL.val (x_move rfl) rfl ?_
                refine EL.val (ix_23 rfl rfl hlt) rfl ?_
                refine EL.val (fa_74_0 rfl) rfl ?_
                refine EL.val (ld_72 rfl (below_load hbB hcell)) rfl ?_
                refine EL.val (ix_72 (k := 0) rfl rfl Nat.zero_lt_one) rfl ?_
                refine EL.val (ld_71 rfl (below_load hbB oc.c0) (below_load hbB oc.c1) (below_load hbB oc.c2) (below_load hbB oc.c3) (below_load hbB oc.c4) (below_load hbB oc.c5)) rfl ?_
                refine EL.newP al_71 rfl ?_
                intro g33 w33 q33 hb33 hg33 hl33
                have n5_33 : ga9_3 ≠ g33 := Nat.ne_of_lt (Nat.lt_of_lt_of_le q6y.lt hg33)
                have n31_33 : g31 ≠ g33 := Nat.ne_of_lt (Nat.lt_of_lt_of_le q16y.lt hg33)
                have bhbw_33 := Nat.le_trans hbw.size hg33
                have bhbB_33 := Nat.le_trans hbB.size hg33
                have bhbR_33 := Nat.le_trans hbR.size hg33
                replace q6y := q6y.below hb33 q6y.lt
                replace q16y := q16y.below hb33 q16y.lt
                replace hol := own_below hol hb33 (Nat.le_refl _)
                replace hbw := Below.on hbw hb33 hbw.size
                replace hbB := Below.on hbB hb33 hbB.size
                replace hbR := Below.on hbR hb33 hbR.size
                clear hb33 hg33 hl33
                refine EL.store rfl rfl q33 sz_71 rfl rfl rfl rfl ?_
                intro w34 hq34 hg34
                replace q6y := q6y.grown hg34 (fun h => n5_33 (Option.some.inj h))
                replace q16y := q16y.grown hg34 (fun h => n31_33 (Option.some.inj h))
                replace hol := own_type hol q33 rfl hg34
                replace hbw := below_store hbw hg34 bhbw_33
                replace hbB := below_store hbB hg34 bhbB_33
                replace hbR := below_store hbR hg34 bhbR_33
                replace q33 := hq34
                clear hg34 hq34
                refine EL.val (x_assign rfl) rfl ?_
                refine EL.nil ?_
                refine EX.seq ?_
                refine EC.seq ?_
                refine EC.region ?_
                refine EL.val (fa_25_0 rfl) rfl ?_
                refine EL.val (ld_3 rfl (q6y.at (j := 0) rfl)) rfl ?_
                refine EL.val (x_add rfl rfl (c := 1 + c.events) (IntWalk.i64_in _ ⟨by omega, by omega⟩)) rfl ?_
                refine EL.val (fa_71_2 rfl) rfl ?_
                refine EL.val (ld_3 rfl (q33.at (j := 2) rfl)) rfl ?_
                refine EL.val (x_add rfl rfl (c := 1 + c.events + p.clock) (IntWalk.i64_in _ ⟨by omega, by omega⟩)) rfl ?_
                refine EL.val (x_assign rfl) rfl ?_
                refine EL.nil ?_
                refine EX.seq ?_
                refine EC.seq ?_
                refine EC.seq ?_
                refine EC.region ?_
                refine EL.val (fa_71_0 rfl) rfl ?_
                refine EL.val (ld_69 rfl (q33.at (j := 0) rfl)) rfl ?_
                refine EL.val (x_eql (r := true) rfl rfl (decide_eq_true hkd)) rfl ?_
                refine EL.nil ?_
                refine EX.seq ?_
                refine EC.yes rfl ?_
                refine EC.region ?_
                refine EL.val (fa_71_3 rfl) rfl ?_
                refine EL.val (ld_3 rfl (q33.at (j := 3) rfl)) rfl ?_
                refine EL.val (x_add rfl rfl (c := ((optFrom c p : Nat) : Int)) ((IntWalk.i64_in _ ⟨by have := hop.kind; omega, by have := hop.kind; omega⟩).trans (by unfold optFrom; rw [if_pos hkd]; have := hop.kind; omega))) rfl ?_
                refine EL.val (x_assign rfl) rfl ?_
                refine EL.nil ?_
                refine EX.seq ?_
                refine EC.seq ?_
                refine EC.seq ?_
                refine EC.region ?_
                refine EL.val (x_assign rfl) rfl ?_
                refine EL.nil ?_
                refine EX.seq ?_
                refine EC.block ?_
                obtain ⟨D1, eD1⟩ : ∃ z : Lnk, z = ⟨optFrom c p, 1 + p.event.toNat, p.mins.hi⟩ := ⟨_, rfl⟩
                obtain ⟨D2, eD2⟩ : ∃ z : Lnk, z = ⟨1 + p.event.toNat, optFrom c p, -p.mins.lo⟩ := ⟨_, rfl⟩
                have hol2 : optL c p = [D1, D2] := by rw [eD1, eD2]; rfl
                refine EC.loopD [19, 21, 185, 186, 187, 188, 189, 190, 191, 192, 193, 194, 195, 196, 197, 198, 199, 200, 201, 202, 203, 204, 205, 206, 207, 208, 209, 210, 211, 212, 213, 214, 215, 216, 217, 218, 219, 220, 221, 222] (fun x : Nat × Bool => [(19, .bool x.2), (21, .int .i64 (x.1 : Nat))]) (fun y W => y.1 ≤ m ∧ (y.2 = false → ∀ j, j < y.1 → rr.getD j lnk0 ≠ D1 ∧ rr.getD j lnk0 ≠ D2) ∧ (y.2 = true → usedB c rr p = true) ∧ Blk W ga9_3 25 #[.int .i64 c.events, .slice A9_ c.clocks.length c9_, .slice (some ⟨bl2, ol2, none⟩) c.clues.length cO] ∧ Blk W g31 25 #[.int .i64 c.events, .slice A9_ c.clocks.length c9_, .slice AY (leftL c b rr x).length cY] ∧ Blk W g33 71 #[.int .i64 p.kind, .int .i64 p.event, .int .i64 p.clock, .int .i64 p.after, .int .i64 p.mins.lo, .int .i64 p.mins.hi] ∧ W.ownsRow w27.heap.size 74 1 (.slice AY (leftL c b rr x).length cY) (leftL c b rr x).length ls ∧ Below w.heap.size w W ∧ Below wx.heap.size wx W ∧ Below w27.heap.size w27 W) (fun y => m - y.1) (0, false) ⟨Nat.zero_le _, fun _ j hj => absurd hj (Nat.not_lt_zero _), (fun h => nomatch h), q6y, q16y, q33, hol, hbw, hbB, hbR⟩ ⟨rfl, rfl, trivial⟩ ?_
                clear q6y q16y q33 hol hbw hbB hbR
                rintro ⟨k, sn⟩ wz ⟨hk, hsf, hst2, q6y, q16y, q18y, hol, hbw, hbB, hbR⟩
                dsimp only at hk hsf hst2
                by_cases hlk2 : k < m
                ·
                  obtain ⟨bM, oM, e3_, _, z0, z1, z2⟩ := lnks_cells rr k (by omega) _ _ _ _ _ hrd
                  subst e3_
                  obtain ⟨X, eX⟩ : ∃ z, z = rr.getD k lnk0 := ⟨_, rfl⟩
                  rw [← eX] at z0 z1 z2
                  have hXm : X ∈ rr := by rw [eX, show rr.getD k lnk0 = rr[k]'(by omega) by simp [List.getD, show k < rr.length by omega]]; exact List.getElem_mem _
                  rcases link_cases sn X D1 D2 with rfl | ⟨rfl, he1⟩ | ⟨rfl, he1, he2⟩ | ⟨rfl, he1, he2⟩
                  ·
                    refine EC.seq ?_
                    refine EC.seq ?_
                    refine EC.region ?_
                    refine EL.val (x_move rfl) rfl ?_
                    refine EL.val (x_move rfl) rfl ?_
                    refine EL.val (ln_29 rfl) rfl ?_
                    refine EL.val (x_lss rfl rfl (decide_eq_true (show (((k : Nat) : Int) < ((m : Nat) : Int)) by omega))) rfl ?_
                    refine EL.nil ?_
                    refine EX.seq ?_
                    refine EC.yes rfl ?_
                    refine EC.skip ?_
                    refine EX.seq ?_
                    refine EC.seq ?_
                    refine EC.block ?_
                    refine EC.regionQ (by kernel_rfl) (by kernel_rfl) ?_
                    refine EQ.val (fun _ hw => (x_move rfl)) rfl ?_
                    refine EQ.val (fun _ hw => (x_move rfl)) rfl ?_
                    refine EQ.skip rfl rfl rfl rfl ?_
                    refine EQ.skip rfl rfl rfl rfl ?_
                    refine EQ.skip rfl rfl rfl rfl ?_
                    refine EQ.skip rfl rfl rfl rfl ?_
                    refine EQ.skip rfl rfl rfl rfl ?_
                    refine EQ.skip rfl rfl rfl rfl ?_
                    refine EQ.skip rfl rfl rfl rfl ?_
                    refine EQ.skip rfl rfl rfl rfl ?_
                    refine EQ.skip rfl rfl rfl rfl ?_
                    refine EQ.skip rfl rfl rfl rfl ?_
                    refine EQ.skip rfl rfl rfl rfl ?_
                    refine EQ.skip rfl rfl rfl rfl ?_
                    refine EQ.skip rfl rfl rfl rfl ?_
                    refine EQ.val (fun _ hw => (x_pick_t rfl rfl)) rfl ?_
                    refine EQ.val (fun _ hw => (x_move rfl)) rfl ?_
                    refine EQ.skip rfl rfl rfl rfl ?_
                    refine EQ.skip rfl rfl rfl rfl ?_
                    refine EQ.skip rfl rfl rfl rfl ?_
                    refine EQ.skip rfl rfl rfl rfl ?_
                    refine EQ.skip rfl rfl rfl rfl ?_
                    refine EQ.skip rfl rfl rfl rfl ?_
                    refine EQ.skip rfl rfl rfl rfl ?_
                    refine EQ.skip rfl rfl rfl rfl ?_
                    refine EQ.skip rfl rfl rfl rfl ?_
                    refine EQ.skip rfl rfl rfl rfl ?_
                    refine EQ.skip rfl rfl rfl rfl ?_
                    refine EQ.skip rfl rfl rfl rfl ?_
                    refine EQ.skip rfl rfl rfl rfl ?_
                    refine EQ.skip rfl rfl rfl rfl ?_
                    refine EQ.val (fun _ hw => (x_pick_t rfl rfl)) rfl ?_
                    refine EQ.val (fun _ hw => (x_assign rfl)) rfl ?_
                    refine EQ.fin (fun w35 hw_ => ?_)
                    replace q6y := q6y.below hw_ q6y.lt
                    replace q16y := q16y.below hw_ q16y.lt
                    replace q18y := q18y.below hw_ q18y.lt
                    replace hol := own_below hol hw_ (Nat.le_refl _)
                    replace hbw := Below.on hbw hw_ hbw.size
                    replace hbB := Below.on hbB hw_ hbB.size
                    replace hbR := Below.on hbR hw_ hbR.size
                    clear hw_
                    refine EX.blk ?_
                    refine EX.seq ?_
                    refine EC.region ?_
                    refine EL.val (x_move rfl) rfl ?_
                    refine EL.val (x_add rfl rfl (c := ((k + 1 : Nat) : Int)) ((IntWalk.i64_in _ ⟨by first | omega | (simp only; omega), by first | omega | (simp only; omega)⟩).trans (by first | omega | (simp only; omega)))) rfl ?_
                    refine EL.val (x_assign rfl) rfl ?_
                    refine EL.nil ?_
                    refine EX.roundD (k + 1, true) ⟨rfl, rfl, trivial⟩ (by repeat first | with_reducible exact Sub.refl _ | refine sub_past rfl ?_ | exact Sub.refl _ | refine sub_del rfl ?_ | refine sub_insL_nil ?_) ⟨hlk2, (fun h => nomatch h), hst2, q6y, q16y, q18y, hol, hbw, hbB, hbR⟩ (by simp only; omega)
                  ·
                    refine EC.seq ?_
                    refine EC.seq ?_
                    refine EC.region ?_
                    refine EL.val (x_move rfl) rfl ?_
                    refine EL.val (x_move rfl) rfl ?_
                    refine EL.val (ln_29 rfl) rfl ?_
                    refine EL.val (x_lss rfl rfl (decide_eq_true (show (((k : Nat) : Int) < ((m : Nat) : Int)) by omega))) rfl ?_
                    refine EL.nil ?_
                    refine EX.seq ?_
                    refine EC.yes rfl ?_
                    refine EC.skip ?_
                    refine EX.seq ?_
                    refine EC.seq ?_
                    refine EC.block ?_
                    refine EC.regionQ (by kernel_rfl) (by kernel_rfl) ?_
                    refine EQ.val (fun _ hw => (x_move rfl)) rfl ?_
                    refine EQ.val (fun _ hw => (x_move rfl)) rfl ?_
                    refine EQ.valg rfl rfl (fun _ hw => (x_move rfl)) rfl ?_
                    refine EQ.valg rfl rfl (fun _ hw => (x_move rfl)) rfl ?_
                    refine EQ.valg rfl rfl (fun _ hw => (ix_29 rfl rfl hlk2)) rfl ?_
                    refine EQ.valg rfl rfl (fun _ hw => (ld_39 rfl (below_load hw (below_load hbR z0)) (below_load hw (below_load hbR z1)) (below_load hw (below_load hbR z2)))) rfl ?_
                    refine EQ.valg rfl rfl (fun _ hw => (x_move rfl)) rfl ?_
                    refine EQ.valg rfl rfl (fun _ hw => (fa_71_1 rfl)) rfl ?_
                    refine EQ.valg rfl rfl (fun _ hw => (ld_3 rfl (below_load hw (q18y.at (j := 1) rfl)))) rfl ?_
                    refine EQ.valg rfl rfl (fun _ hw => (x_add rfl rfl (c := ((1 + p.event.toNat : Nat) : Int)) ((IntWalk.i64_in _ ⟨by omega, by omega⟩).trans (by omega)))) rfl ?_
                    refine EQ.valg rfl rfl (fun _ hw => (fa_71_4 rfl)) rfl ?_
                    refine EQ.valg rfl rfl (fun _ hw => (fa_54_1 rfl)) rfl ?_
                    refine EQ.valg rfl rfl (fun _ hw => (ld_3 rfl (below_load hw (q18y.at (j := 5) rfl)))) rfl ?_
                    refine EQ.valg rfl rfl (fun _ hw => (bd_39_0_1_2 rfl rfl rfl)) rfl ?_
                    refine EQ.valg rfl rfl (fun _ hw => (eql_39 (r := true) rfl rfl (decide_eq_true ((lnk_iff.1 (he1.trans eD1)))))) rfl ?_
                    refine EQ.val (fun _ hw => (x_pick_f rfl rfl)) rfl ?_
                    refine EQ.val (fun _ hw => (x_move rfl)) rfl ?_
                    refine EQ.skip rfl rfl rfl rfl ?_
                    refine EQ.skip rfl rfl rfl rfl ?_
                    refine EQ.skip rfl rfl rfl rfl ?_
                    refine EQ.skip rfl rfl rfl rfl ?_
                    refine EQ.skip rfl rfl rfl rfl ?_
                    refine EQ.skip rfl rfl rfl rfl ?_
                    refine EQ.skip rfl rfl rfl rfl ?_
                    refine EQ.skip rfl rfl rfl rfl ?_
                    refine EQ.skip rfl rfl rfl rfl ?_
                    refine EQ.skip rfl rfl rfl rfl ?_
                    refine EQ.skip rfl rfl rfl rfl ?_
                    refine EQ.skip rfl rfl rfl rfl ?_
                    refine EQ.skip rfl rfl rfl rfl ?_
                    refine EQ.skip rfl rfl rfl rfl ?_
                    refine EQ.val (fun _ hw => (x_pick_t rfl rfl)) rfl ?_
                    refine EQ.val (fun _ hw => (x_assign rfl)) rfl ?_
                    refine EQ.fin (fun w36 hw_ => ?_)
                    replace q6y := q6y.below hw_ q6y.lt
                    replace q16y := q16y.below hw_ q16y.lt
                    replace q18y := q18y.below hw_ q18y.lt
                    replace hol := own_below hol hw_ (Nat.le_refl _)
                    replace hbw := Below.on hbw hw_ hbw.size
                    replace hbB := Below.on hbB hw_ hbB.size
                    replace hbR := Below.on hbR hw_ hbR.size
                    clear hw_
                    refine EX.blk ?_
                    refine EX.seq ?_
                    refine EC.region ?_
                    refine EL.val (x_move rfl) rfl ?_
                    refine EL.val (x_add rfl rfl (c := ((k + 1 : Nat) : Int)) ((IntWalk.i64_in _ ⟨by first | omega | (simp only; omega), by first | omega | (simp only; omega)⟩).trans (by first | omega | (simp only; omega)))) rfl ?_
                    refine EL.val (x_assign rfl) rfl ?_
                    refine EL.nil ?_
                    refine EX.roundD (k + 1, true) ⟨rfl, rfl, trivial⟩ (by repeat first | with_reducible exact Sub.refl _ | refine sub_past rfl ?_ | exact Sub.refl _ | refine sub_del rfl ?_ | refine sub_insL_nil ?_) ⟨hlk2, (fun h => nomatch h), (fun _ => used_iff.2 ⟨X, hXm, by rw [hol2, he1]; exact List.mem_cons_self⟩), q6y, q16y, q18y, hol, hbw, hbB, hbR⟩ (by simp only; omega)
                  ·
                    refine EC.seq ?_
                    refine EC.seq ?_
                    refine EC.region ?_
                    refine EL.val (x_move rfl) rfl ?_
                    refine EL.val (x_move rfl) rfl ?_
                    refine EL.val (ln_29 rfl) rfl ?_
                    refine EL.val (x_lss rfl rfl (decide_eq_true (show (((k : Nat) : Int) < ((m : Nat) : Int)) by omega))) rfl ?_
                    refine EL.nil ?_
                    refine EX.seq ?_
                    refine EC.yes rfl ?_
                    refine EC.skip ?_
                    refine EX.seq ?_
                    refine EC.seq ?_
                    refine EC.block ?_
                    refine EC.regionQ (by kernel_rfl) (by kernel_rfl) ?_
                    refine EQ.val (fun _ hw => (x_move rfl)) rfl ?_
                    refine EQ.val (fun _ hw => (x_move rfl)) rfl ?_
                    refine EQ.valg rfl rfl (fun _ hw => (x_move rfl)) rfl ?_
                    refine EQ.valg rfl rfl (fun _ hw => (x_move rfl)) rfl ?_
                    refine EQ.valg rfl rfl (fun _ hw => (ix_29 rfl rfl hlk2)) rfl ?_
                    refine EQ.valg rfl rfl (fun _ hw => (ld_39 rfl (below_load hw (below_load hbR z0)) (below_load hw (below_load hbR z1)) (below_load hw (below_load hbR z2)))) rfl ?_
                    refine EQ.valg rfl rfl (fun _ hw => (x_move rfl)) rfl ?_
                    refine EQ.valg rfl rfl (fun _ hw => (fa_71_1 rfl)) rfl ?_
                    refine EQ.valg rfl rfl (fun _ hw => (ld_3 rfl (below_load hw (q18y.at (j := 1) rfl)))) rfl ?_
                    refine EQ.valg rfl rfl (fun _ hw => (x_add rfl rfl (c := ((1 + p.event.toNat : Nat) : Int)) ((IntWalk.i64_in _ ⟨by omega, by omega⟩).trans (by omega)))) rfl ?_
                    refine EQ.valg rfl rfl (fun _ hw => (fa_71_4 rfl)) rfl ?_
                    refine EQ.valg rfl rfl (fun _ hw => (fa_54_1 rfl)) rfl ?_
                    refine EQ.valg rfl rfl (fun _ hw => (ld_3 rfl (below_load hw (q18y.at (j := 5) rfl)))) rfl ?_
                    refine EQ.valg rfl rfl (fun _ hw => (bd_39_0_1_2 rfl rfl rfl)) rfl ?_
                    refine EQ.valg rfl rfl (fun _ hw => (eql_39 (r := false) rfl rfl (decide_eq_false (fun h => he1 ((lnk_iff.2 h).trans eD1.symm))))) rfl ?_
                    refine EQ.val (fun _ hw => (x_pick_f rfl rfl)) rfl ?_
                    refine EQ.val (fun _ hw => (x_move rfl)) rfl ?_
                    refine EQ.valg rfl rfl (fun _ hw => (x_move rfl)) rfl ?_
                    refine EQ.valg rfl rfl (fun _ hw => (x_move rfl)) rfl ?_
                    refine EQ.valg rfl rfl (fun _ hw => (ix_29 rfl rfl hlk2)) rfl ?_
                    refine EQ.valg rfl rfl (fun _ hw => (ld_39 rfl (below_load hw (below_load hbR z0)) (below_load hw (below_load hbR z1)) (below_load hw (below_load hbR z2)))) rfl ?_
                    refine EQ.valg rfl rfl (fun _ hw => (fa_71_1 rfl)) rfl ?_
                    refine EQ.valg rfl rfl (fun _ hw => (ld_3 rfl (below_load hw (q18y.at (j := 1) rfl)))) rfl ?_
                    refine EQ.valg rfl rfl (fun _ hw => (x_add rfl rfl (c := ((1 + p.event.toNat : Nat) : Int)) ((IntWalk.i64_in _ ⟨by omega, by omega⟩).trans (by omega)))) rfl ?_
                    refine EQ.valg rfl rfl (fun _ hw => (x_move rfl)) rfl ?_
                    refine EQ.valg rfl rfl (fun _ hw => (fa_71_4 rfl)) rfl ?_
                    refine EQ.valg rfl rfl (fun _ hw => (fa_54_0 rfl)) rfl ?_
                    refine EQ.valg rfl rfl (fun _ hw => (ld_3 rfl (below_load hw (q18y.at (j := 4) rfl)))) rfl ?_
                    refine EQ.valg rfl rfl (fun _ hw => (x_neg rfl (c := -p.mins.lo) (IntWalk.i64_in _ ⟨by omega, by omega⟩))) rfl ?_
                    refine EQ.valg rfl rfl (fun _ hw => (bd_39_0_1_2 rfl rfl rfl)) rfl ?_
                    refine EQ.valg rfl rfl (fun _ hw => (eql_39 (r := true) rfl rfl (decide_eq_true ((lnk_iff.1 (he2.trans eD2)))))) rfl ?_
                    refine EQ.val (fun _ hw => (x_pick_f rfl rfl)) rfl ?_
                    refine EQ.val (fun _ hw => (x_assign rfl)) rfl ?_
                    refine EQ.fin (fun w37 hw_ => ?_)
                    replace q6y := q6y.below hw_ q6y.lt
                    replace q16y := q16y.below hw_ q16y.lt
                    replace q18y := q18y.below hw_ q18y.lt
                    replace hol := own_below hol hw_ (Nat.le_refl _)
                    replace hbw := Below.on hbw hw_ hbw.size
                    replace hbB := Below.on hbB hw_ hbB.size
                    replace hbR := Below.on hbR hw_ hbR.size
                    clear hw_
                    refine EX.blk ?_
                    refine EX.seq ?_
                    refine EC.region ?_
                    refine EL.val (x_move rfl) rfl ?_
                    refine EL.val (x_add rfl rfl (c := ((k + 1 : Nat) : Int)) ((IntWalk.i64_in _ ⟨by first | omega | (simp only; omega), by first | omega | (simp only; omega)⟩).trans (by first | omega | (simp only; omega)))) rfl ?_
                    refine EL.val (x_assign rfl) rfl ?_
                    refine EL.nil ?_
                    refine EX.roundD (k + 1, true) ⟨rfl, rfl, trivial⟩ (by repeat first | with_reducible exact Sub.refl _ | refine sub_past rfl ?_ | exact Sub.refl _ | refine sub_del rfl ?_ | refine sub_insL_nil ?_) ⟨hlk2, (fun h => nomatch h), (fun _ => used_iff.2 ⟨X, hXm, by rw [hol2, he2]; exact List.mem_cons_of_mem _ (List.mem_singleton.2 rfl)⟩), q6y, q16y, q18y, hol, hbw, hbB, hbR⟩ (by simp only; omega)
                  ·
                    refine EC.seq ?_
                    refine EC.seq ?_
                    refine EC.region ?_
                    refine EL.val (x_move rfl) rfl ?_
                    refine EL.val (x_move rfl) rfl ?_
                    refine EL.val (ln_29 rfl) rfl ?_
                    refine EL.val (x_lss rfl rfl (decide_eq_true (show (((k : Nat) : Int) < ((m : Nat) : Int)) by omega))) rfl ?_
                    refine EL.nil ?_
                    refine EX.seq ?_
                    refine EC.yes rfl ?_
                    refine EC.skip ?_
                    refine EX.seq ?_
                    refine EC.seq ?_
                    refine EC.block ?_
                    refine EC.regionQ (by kernel_rfl) (by kernel_rfl) ?_
                    refine EQ.val (fun _ hw => (x_move rfl)) rfl ?_
                    refine EQ.val (fun _ hw => (x_move rfl)) rfl ?_
                    refine EQ.valg rfl rfl (fun _ hw => (x_move rfl)) rfl ?_
                    refine EQ.valg rfl rfl (fun _ hw => (x_move rfl)) rfl ?_
                    refine EQ.valg rfl rfl (fun _ hw => (ix_29 rfl rfl hlk2)) rfl ?_
                    refine EQ.valg rfl rfl (fun _ hw => (ld_39 rfl (below_load hw (below_load hbR z0)) (below_load hw (below_load hbR z1)) (below_load hw (below_load hbR z2)))) rfl ?_
                    refine EQ.valg rfl rfl (fun _ hw => (x_move rfl)) rfl ?_
                    refine EQ.valg rfl rfl (fun _ hw => (fa_71_1 rfl)) rfl ?_
                    refine EQ.valg rfl rfl (fun _ hw => (ld_3 rfl (below_load hw (q18y.at (j := 1) rfl)))) rfl ?_
                    refine EQ.valg rfl rfl (fun _ hw => (x_add rfl rfl (c := ((1 + p.event.toNat : Nat) : Int)) ((IntWalk.i64_in _ ⟨by omega, by omega⟩).trans (by omega)))) rfl ?_
                    refine EQ.valg rfl rfl (fun _ hw => (fa_71_4 rfl)) rfl ?_
                    refine EQ.valg rfl rfl (fun _ hw => (fa_54_1 rfl)) rfl ?_
                    refine EQ.valg rfl rfl (fun _ hw => (ld_3 rfl (below_load hw (q18y.at (j := 5) rfl)))) rfl ?_
                    refine EQ.valg rfl rfl (fun _ hw => (bd_39_0_1_2 rfl rfl rfl)) rfl ?_
                    refine EQ.valg rfl rfl (fun _ hw => (eql_39 (r := false) rfl rfl (decide_eq_false (fun h => he1 ((lnk_iff.2 h).trans eD1.symm))))) rfl ?_
                    refine EQ.val (fun _ hw => (x_pick_f rfl rfl)) rfl ?_
                    refine EQ.val (fun _ hw => (x_move rfl)) rfl ?_
                    refine EQ.valg rfl rfl (fun _ hw => (x_move rfl)) rfl ?_
                    refine EQ.valg rfl rfl (fun _ hw => (x_move rfl)) rfl ?_
                    refine EQ.valg rfl rfl (fun _ hw => (ix_29 rfl rfl hlk2)) rfl ?_
                    refine EQ.valg rfl rfl (fun _ hw => (ld_39 rfl (below_load hw (below_load hbR z0)) (below_load hw (below_load hbR z1)) (below_load hw (below_load hbR z2)))) rfl ?_
                    refine EQ.valg rfl rfl (fun _ hw => (fa_71_1 rfl)) rfl ?_
                    refine EQ.valg rfl rfl (fun _ hw => (ld_3 rfl (below_load hw (q18y.at (j := 1) rfl)))) rfl ?_
                    refine EQ.valg rfl rfl (fun _ hw => (x_add rfl rfl (c := ((1 + p.event.toNat : Nat) : Int)) ((IntWalk.i64_in _ ⟨by omega, by omega⟩).trans (by omega)))) rfl ?_
                    refine EQ.valg rfl rfl (fun _ hw => (x_move rfl)) rfl ?_
                    refine EQ.valg rfl rfl (fun _ hw => (fa_71_4 rfl)) rfl ?_
                    refine EQ.valg rfl rfl (fun _ hw => (fa_54_0 rfl)) rfl ?_
                    refine EQ.valg rfl rfl (fun _ hw => (ld_3 rfl (below_load hw (q18y.at (j := 4) rfl)))) rfl ?_
                    refine EQ.valg rfl rfl (fun _ hw => (x_neg rfl (c := -p.mins.lo) (IntWalk.i64_in _ ⟨by omega, by omega⟩))) rfl ?_
                    refine EQ.valg rfl rfl (fun _ hw => (bd_39_0_1_2 rfl rfl rfl)) rfl ?_
                    refine EQ.valg rfl rfl (fun _ hw => (eql_39 (r := false) rfl rfl (decide_eq_false (fun h => he2 ((lnk_iff.2 h).trans eD2.symm))))) rfl ?_
                    refine EQ.val (fun _ hw => (x_pick_f rfl rfl)) rfl ?_
                    refine EQ.val (fun _ hw => (x_assign rfl)) rfl ?_
                    refine EQ.fin (fun w38 hw_ => ?_)
                    replace q6y := q6y.below hw_ q6y.lt
                    replace q16y := q16y.below hw_ q16y.lt
                    replace q18y := q18y.below hw_ q18y.lt
                    replace hol := own_below hol hw_ (Nat.le_refl _)
                    replace hbw := Below.on hbw hw_ hbw.size
                    replace hbB := Below.on hbB hw_ hbB.size
                    replace hbR := Below.on hbR hw_ hbR.size
                    clear hw_
                    refine EX.blk ?_
                    refine EX.seq ?_
                    refine EC.region ?_
                    refine EL.val (x_move rfl) rfl ?_
                    refine EL.val (x_add rfl rfl (c := ((k + 1 : Nat) : Int)) ((IntWalk.i64_in _ ⟨by first | omega | (simp only; omega), by first | omega | (simp only; omega)⟩).trans (by first | omega | (simp only; omega)))) rfl ?_
                    refine EL.val (x_assign rfl) rfl ?_
                    refine EL.nil ?_
                    refine EX.roundD (k + 1, false) ⟨rfl, rfl, trivial⟩ (by repeat first | with_reducible exact Sub.refl _ | refine sub_past rfl ?_ | exact Sub.refl _ | refine sub_del rfl ?_ | refine sub_insL_nil ?_) ⟨hlk2, (fun _ j hj => by by_cases e : j < k; (exact hsf rfl j e); (rw [show j = k by omega, ← eX]; exact ⟨he1, he2⟩)), (fun h => nomatch h), q6y, q16y, q18y, hol, hbw, hbB, hbR⟩ (by simp only; omega)
                ·
                  have hkm : k = m := by omega
                  subst hkm
                  rcases sn with _ | _
                  ·
                    have hus : usedB c rr p = false := not_used hol2 (fun j hj => hsf rfl j (by omega))
                    have hsc : leftL c b rr (x + 1) = leftL c b rr x := by rw [leftL, ← ep, hus]; simp
                    refine EC.seq ?_
                    refine EC.seq ?_
                    refine EC.region ?_
                    refine EL.val (x_move rfl) rfl ?_
                    refine EL.val (x_move rfl) rfl ?_
                    refine EL.val (ln_29 rfl) rfl ?_
                    refine EL.val (x_lss rfl rfl (decide_eq_false (show ¬(((k : Nat) : Int) < ((k : Nat) : Int)) by omega))) rfl ?_
                    refine EL.nil ?_
                    refine EX.seq ?_
                    refine EC.no rfl ?_
                    refine EC.exit ?_
                    refine EX.seq_exit ?_
                    refine EX.seq_exit ?_
                    refine EX.blk_here ?_
                    refine EX.seq ?_
                    refine EC.seq ?_
                    refine EC.region ?_
                    refine EL.val (x_move rfl) rfl ?_
                    refine EL.nil ?_
                    refine EX.seq ?_
                    refine EC.no rfl ?_
                    refine EC.skip ?_
                    refine EX.blk ?_
                    refine EX.seq ?_
                    refine EC.region ?_
                    refine EL.val (x_move rfl) rfl ?_
                    refine EL.val (x_add rfl rfl (c := ((x + 1 : Nat) : Int)) ((IntWalk.i64_in _ ⟨by first | omega | (simp only; omega), by first | omega | (simp only; omega)⟩).trans (by first | omega | (simp only; omega)))) rfl ?_
                    refine EL.val (x_assign rfl) rfl ?_
                    refine EL.nil ?_
                    refine EX.roundD (x + 1, _, ls) ⟨rfl, trivial⟩ (by repeat first | with_reducible exact Sub.refl _ | refine sub_past rfl ?_ | exact Sub.refl _ | refine sub_del rfl ?_ | refine sub_insL_nil ?_) ⟨hlt, q6y, q16y, by rw [hsc]; exact hol, by rw [hsc]; exact hll, by rw [hsc]; exact hlr, hbw, hbB, hbR⟩ (by simp only; omega)
                  ·
                    have hus := hst2 rfl
                    have hsc : leftL c b rr (x + 1) = leftL c b rr x ++ [[p]] := by rw [leftL, ← ep, if_pos hus]
                    refine EC.seq ?_
                    refine EC.seq ?_
                    refine EC.region ?_
                    refine EL.val (x_move rfl) rfl ?_
                    refine EL.val (x_move rfl) rfl ?_
                    refine EL.val (ln_29 rfl) rfl ?_
                    refine EL.val (x_lss rfl rfl (decide_eq_false (show ¬(((k : Nat) : Int) < ((k : Nat) : Int)) by omega))) rfl ?_
                    refine EL.nil ?_
                    refine EX.seq ?_
                    refine EC.no rfl ?_
                    refine EC.exit ?_
                    refine EX.seq_exit ?_
                    refine EX.seq_exit ?_
                    refine EX.blk_here ?_
                    refine EX.seq ?_
                    refine EC.seq ?_
                    refine EC.region ?_
                    refine EL.val (x_move rfl) rfl ?_
                    refine EL.nil ?_
                    refine EX.seq ?_
                    refine EC.yes rfl ?_
                    have lt_5 := q6y.lt
                    have lt_31 := q16y.lt
                    have lt_33 := q18y.lt
                    refine EC.regionP [[], [0], [], [2], [], [2, 3, 4], [2, 3, 4, 5], [2, 3, 4, 5, 6], [0, 1, 2, 3, 4, 5, 6, 7], [0, 1, 2, 3, 4, 5, 6, 7, 8], [0, 1, 2, 3, 4, 5, 6, 7, 8, 9]] 8 [] (phi (fun i_ r => match i_ with | 0 => r 0 = .pointer (some ⟨g31, 2, none⟩) | 1 => r 1 = .slice AY (leftL c b rr x).length cY | 2 => r 2 = .pointer (some ⟨ga9_3, 2, none⟩) | 3 => r 3 = .slice (some ⟨bl2, ol2, none⟩) c.clues.length cO | 4 => r 4 = .int .i64 (x : Nat) | 5 => r 5 = .pointer (some ⟨bl2, ol2 + x, none⟩) | 6 => r 6 = .agg #[.slice (some ⟨bo, oo, none⟩) [p].length co] | _ => True) [(7, fun r w_ => ∃ g_, r 7 = .slice (some ⟨g_, 0, none⟩) 1 1 ∧ Blk w_ g_ 74 #[.slice (some ⟨bo, oo, none⟩) [p].length co] ∧ wz.heap.size ≤ g_)]) (by kernel_rfl) rfl rfl (phi_cons mono_bs (phi_nil)) (fun i_ hi_ => ?_) ?_
                    · match i_, hi_ with
                      | 0, _ =>
                        intro val w1 a hb ha hd
                        have ha := ha.sub (Sub.ins (d := 16) (Sub.nil _) rfl)
                        exact hs_val ha rfl rfl (fa_25_2 rfl) rfl rfl
                      | 1, _ =>
                        intro val w1 a hb ha hd
                        have e0 : val 0 = .pointer (some ⟨g31, 2, none⟩) := hd 0 (memB_mem.1 rfl)
                        have ha := ha.sub (Sub.ins (d := 224) (Sub.nil _) (dep_get rfl e0))
                        exact hs_val ha rfl rfl (ld_23 rfl ((q16y.below hb q16y.lt).at (j := 2) rfl)) rfl rfl
                      | 2, _ =>
                        intro val w1 a hb ha hd
                        have ha := ha.sub (Sub.ins (d := 6) (Sub.nil _) rfl)
                        exact hs_val ha rfl rfl (fa_25_2 rfl) rfl rfl
                      | 3, _ =>
                        intro val w1 a hb ha hd
                        have e2 : val 2 = .pointer (some ⟨ga9_3, 2, none⟩) := hd 2 (memB_mem.1 rfl)
                        have ha := ha.sub (Sub.ins (d := 226) (Sub.nil _) (dep_get rfl e2))
                        exact hs_val ha rfl rfl (ld_23 rfl ((q6y.below hb q6y.lt).at (j := 2) rfl)) rfl rfl
                      | 4, _ =>
                        intro val w1 a hb ha hd
                        have ha := ha.sub (Sub.ins (d := 17) (Sub.nil _) rfl)
                        exact hs_val ha rfl rfl (x_move rfl) rfl rfl
                      | 5, _ =>
                        intro val w1 a hb ha hd
                        have e3 : val 3 = .slice (some ⟨bl2, ol2, none⟩) c.clues.length cO := hd 3 (memB_mem.1 rfl)
                        have e4 : val 4 = .int .i64 (x : Nat) := hd 4 (memB_mem.1 rfl)
                        have ha := ha.sub (Sub.ins (d := 228) (Sub.ins (d := 227) (Sub.nil _) (dep_get rfl e3)) (dep_get rfl e4))
                        exact hs_val ha rfl rfl (ix_23 rfl rfl hlt) rfl rfl
                      | 6, _ =>
                        intro val w1 a hb ha hd
                        have e5 : val 5 = .pointer (some ⟨bl2, ol2 + x, none⟩) := hd 5 (memB_mem.1 rfl)
                        have ha := ha.sub (Sub.ins (d := 229) (Sub.nil _) (dep_get rfl e5))
                        exact hs_val ha rfl rfl (ld_74 rfl (below_load (Below.on hbB hb hbB.size) hcell)) rfl rfl
                      | 7, _ =>
                        intro val w1 a hb ha hd
                        have e6 : val 6 = .agg #[.slice (some ⟨bo, oo, none⟩) [p].length co] := hd 6 (memB_mem.1 rfl)
                        have ha := ha.sub (Sub.ins (d := 230) (Sub.nil _) (dep_get rfl e6))
                        exact hs_newS ha rfl rfl (bs_23_1 rfl) rfl (fun g w' hq _ hge => ⟨g, rfl, hq, Nat.le_trans hb.size hge⟩)
                      | k + 8, h => exact absurd h (by omega)
                    · intro val wR34 hb halc hd
                      have e0 : val 0 = .pointer (some ⟨g31, 2, none⟩) := hd 0 (by omega)
                      have e1 : val 1 = .slice AY (leftL c b rr x).length cY := hd 1 (by omega)
                      have e2 : val 2 = .pointer (some ⟨ga9_3, 2, none⟩) := hd 2 (by omega)
                      have e3 : val 3 = .slice (some ⟨bl2, ol2, none⟩) c.clues.length cO := hd 3 (by omega)
                      have e4 : val 4 = .int .i64 (x : Nat) := hd 4 (by omega)
                      have e5 : val 5 = .pointer (some ⟨bl2, ol2 + x, none⟩) := hd 5 (by omega)
                      have e6 : val 6 = .agg #[.slice (some ⟨bo, oo, none⟩) [p].length co] := hd 6 (by omega)
                      obtain ⟨ga7_34, e7, qa7_34, hga7_34⟩ := hd 7 (by omega)
                      change val 7 = _ at e7
                      change Blk wR34 ga7_34 74 #[.slice (some ⟨bo, oo, none⟩) [p].length co] at qa7_34
                      refine EL.ends (cs := [.pointer (some ⟨g31, 2, none⟩), .slice AY (leftL c b rr x).length cY, .pointer (some ⟨ga9_3, 2, none⟩), .slice (some ⟨bl2, ol2, none⟩) c.clues.length cO, .int .i64 (x : Nat), .pointer (some ⟨bl2, ol2 + x, none⟩), .agg #[.slice (some ⟨bo, oo, none⟩) [p].length co], .slice (some ⟨ga7_34, 0, none⟩) 1 1]) ⟨e0, e1, e2, e3, e4, e5, e6, e7, trivial⟩ rfl ?_
                      replace q6y := q6y.below hb q6y.lt
                      replace q16y := q16y.below hb q16y.lt
                      replace q18y := q18y.below hb q18y.lt
                      replace hol := own_below hol hb (Nat.le_refl _)
                      have n5_39 : ga9_3 ≠ ga7_34 := Nat.ne_of_lt (Nat.lt_of_lt_of_le lt_5 hga7_34)
                      have n31_39 : g31 ≠ ga7_34 := Nat.ne_of_lt (Nat.lt_of_lt_of_le lt_31 hga7_34)
                      have n33_39 : g33 ≠ ga7_34 := Nat.ne_of_lt (Nat.lt_of_lt_of_le lt_33 hga7_34)
                      have bhbw_39 := Nat.le_trans hbw.size hga7_34
                      have bhbB_39 := Nat.le_trans hbB.size hga7_34
                      have bhbR_39 := Nat.le_trans hbR.size hga7_34
                      replace hbw := Below.on hbw hb hbw.size
                      replace hbB := Below.on hbB hb hbB.size
                      replace hbR := Below.on hbR hb hbR.size
                      clear hb
                      refine EL.push clue_elem rfl rfl hol (rd_one (l := [.slice (some ⟨bo, oo, none⟩) [p].length co]) qa7_34 rfl) (by intro u hu; rw [List.mem_singleton.1 hu]; rfl) (by omega) rfl hbR.size rfl ?_
                      intro v2 wp ho2 hgr hb2 _
                      replace q6y := blk_grown q6y hol rfl hgr
                      replace q16y := blk_grown q16y hol rfl hgr
                      replace hbw := hbw.trans (hb2.mono hszRw)
                      replace hbB := hbB.trans (hb2.mono hszRx)
                      replace hbR := hbR.trans hb2
                      clear hol
                      obtain ⟨A2, c2, e2, _⟩ := (Rd.of_own ho2).shape
                      subst e2
                      refine EL.val (fa_25_2 rfl) rfl ?_
                      refine EL.store rfl rfl q16y sz_23 rfl rfl rfl rfl ?_
                      intro w40 hq40 hg40
                      replace q6y := q6y.grown hg40 (fun h => n5_31 (Option.some.inj h))
                      replace ho2 := own_type ho2 q16y rfl hg40
                      replace hbw := below_store hbw hg40 bhbw_31
                      replace hbB := below_store hbB hg40 bhbB_31
                      replace hbR := below_store hbR hg40 bhbR_31
                      replace q16y := hq40
                      clear hg40 hq40
                      refine EL.nil ?_
                      refine EX.blk ?_
                      refine EX.seq ?_
                      refine EC.region ?_
                      refine EL.val (x_move rfl) rfl ?_
                      refine EL.val (x_add rfl rfl (c := ((x + 1 : Nat) : Int)) ((IntWalk.i64_in _ ⟨by first | omega | (simp only; omega), by first | omega | (simp only; omega)⟩).trans (by first | omega | (simp only; omega)))) rfl ?_
                      refine EL.val (x_assign rfl) rfl ?_
                      refine EL.nil ?_
                      refine EX.roundD (x + 1, _, ls ++ [_]) ⟨rfl, trivial⟩ (by repeat first | with_reducible exact Sub.refl _ | refine sub_past rfl ?_ | exact Sub.refl _ | refine sub_del rfl ?_ | refine sub_insL_nil ?_) ⟨hlt, q6y, q16y, by rw [hsc, List.length_append]; exact ho2, by rw [hsc, List.length_append, List.length_append, hll]; rfl, by rw [hsc]; exact rows_snoc hll hlr hrow, hbw, hbB, hbR⟩ (by simp only; omega)
              ·
                refine EC.seq ?_
                refine EC.seq ?_
                refine EC.region ?_
                refine EL.val (x_move rfl) rfl ?_
                refine EL.val (fa_25_2 rfl) rfl ?_
                refine EL.val (ld_23 rfl (q6y.at (j := 2) rfl)) rfl ?_
                refine EL.val (ln_23 rfl) rfl ?_
                refine EL.val (x_lss rfl rfl (decide_eq_true (show (((x : Nat) : Int) < ((c.clues.length : Nat) : Int)) by omega))) rfl ?_
                refine EL.nil ?_
                refine EX.seq ?_
                refine EC.yes rfl ?_
                refine EC.skip ?_
                refine EX.seq ?_
                refine EC.seq ?_
                refine EC.block ?_
                refine EC.seq ?_
                refine EC.region ?_
                refine EL.val (fa_25_2 rfl) rfl ?_
                refine EL.val (ld_23 rfl (q6y.at (j := 2) rfl)) rfl ?_
                refine EL.val (x_move rfl) rfl ?_
                refine EL.val (ix_23 rfl rfl hlt) rfl ?_
                refine EL.val (fa_74_0 rfl) rfl ?_
                refine EL.val (ld_72 rfl (below_load hbB hcell)) rfl ?_
                refine EL.val (ix_72 (k := 0) rfl rfl Nat.zero_lt_one) rfl ?_
                refine EL.val (ld_71 rfl (below_load hbB oc.c0) (below_load hbB oc.c1) (below_load hbB oc.c2) (below_load hbB oc.c3) (below_load hbB oc.c4) (below_load hbB oc.c5)) rfl ?_
                refine EL.newP al_71 rfl ?_
                intro g41 w41 q41 hb41 hg41 hl41
                have n5_41 : ga9_3 ≠ g41 := Nat.ne_of_lt (Nat.lt_of_lt_of_le q6y.lt hg41)
                have n31_41 : g31 ≠ g41 := Nat.ne_of_lt (Nat.lt_of_lt_of_le q16y.lt hg41)
                have bhbw_41 := Nat.le_trans hbw.size hg41
                have bhbB_41 := Nat.le_trans hbB.size hg41
                have bhbR_41 := Nat.le_trans hbR.size hg41
                replace q6y := q6y.below hb41 q6y.lt
                replace q16y := q16y.below hb41 q16y.lt
                replace hol := own_below hol hb41 (Nat.le_refl _)
                replace hbw := Below.on hbw hb41 hbw.size
                replace hbB := Below.on hbB hb41 hbB.size
                replace hbR := Below.on hbR hb41 hbR.size
                clear hb41 hg41 hl41
                refine EL.store rfl rfl q41 sz_71 rfl rfl rfl rfl ?_
                intro w42 hq42 hg42
                replace q6y := q6y.grown hg42 (fun h => n5_41 (Option.some.inj h))
                replace q16y := q16y.grown hg42 (fun h => n31_41 (Option.some.inj h))
                replace hol := own_type hol q41 rfl hg42
                replace hbw := below_store hbw hg42 bhbw_41
                replace hbB := below_store hbB hg42 bhbB_41
                replace hbR := below_store hbR hg42 bhbR_41
                replace q41 := hq42
                clear hg42 hq42
                refine EL.val (x_assign rfl) rfl ?_
                refine EL.nil ?_
                refine EX.seq ?_
                refine EC.seq ?_
                refine EC.region ?_
                refine EL.val (fa_25_0 rfl) rfl ?_
                refine EL.val (ld_3 rfl (q6y.at (j := 0) rfl)) rfl ?_
                refine EL.val (x_add rfl rfl (c := 1 + c.events) (IntWalk.i64_in _ ⟨by omega, by omega⟩)) rfl ?_
                refine EL.val (fa_71_2 rfl) rfl ?_
                refine EL.val (ld_3 rfl (q41.at (j := 2) rfl)) rfl ?_
                refine EL.val (x_add rfl rfl (c := ((optFrom c p : Nat) : Int)) ((IntWalk.i64_in _ ⟨by omega, by omega⟩).trans (by unfold optFrom; rw [if_neg hkd]; omega))) rfl ?_
                refine EL.val (x_assign rfl) rfl ?_
                refine EL.nil ?_
                refine EX.seq ?_
                refine EC.seq ?_
                refine EC.seq ?_
                refine EC.region ?_
                refine EL.val (fa_71_0 rfl) rfl ?_
                refine EL.val (ld_69 rfl (q41.at (j := 0) rfl)) rfl ?_
                refine EL.val (x_eql (r := false) rfl rfl (decide_eq_false hkd)) rfl ?_
                refine EL.nil ?_
                refine EX.seq ?_
                refine EC.no rfl ?_
                refine EC.skip ?_
                refine EX.seq ?_
                refine EC.seq ?_
                refine EC.seq ?_
                refine EC.region ?_
                refine EL.val (x_assign rfl) rfl ?_
                refine EL.nil ?_
                refine EX.seq ?_
                refine EC.block ?_
                obtain ⟨D1, eD1⟩ : ∃ z : Lnk, z = ⟨optFrom c p, 1 + p.event.toNat, p.mins.hi⟩ := ⟨_, rfl⟩
                obtain ⟨D2, eD2⟩ : ∃ z : Lnk, z = ⟨1 + p.event.toNat, optFrom c p, -p.mins.lo⟩ := ⟨_, rfl⟩
                have hol2 : optL c p = [D1, D2] := by rw [eD1, eD2]; rfl
                refine EC.loopD [19, 21, 185, 186, 187, 188, 189, 190, 191, 192, 193, 194, 195, 196, 197, 198, 199, 200, 201, 202, 203, 204, 205, 206, 207, 208, 209, 210, 211, 212, 213, 214, 215, 216, 217, 218, 219, 220, 221, 222] (fun x : Nat × Bool => [(19, .bool x.2), (21, .int .i64 (x.1 : Nat))]) (fun y W => y.1 ≤ m ∧ (y.2 = false → ∀ j, j < y.1 → rr.getD j lnk0 ≠ D1 ∧ rr.getD j lnk0 ≠ D2) ∧ (y.2 = true → usedB c rr p = true) ∧ Blk W ga9_3 25 #[.int .i64 c.events, .slice A9_ c.clocks.length c9_, .slice (some ⟨bl2, ol2, none⟩) c.clues.length cO] ∧ Blk W g31 25 #[.int .i64 c.events, .slice A9_ c.clocks.length c9_, .slice AY (leftL c b rr x).length cY] ∧ Blk W g41 71 #[.int .i64 p.kind, .int .i64 p.event, .int .i64 p.clock, .int .i64 p.after, .int .i64 p.mins.lo, .int .i64 p.mins.hi] ∧ W.ownsRow w27.heap.size 74 1 (.slice AY (leftL c b rr x).length cY) (leftL c b rr x).length ls ∧ Below w.heap.size w W ∧ Below wx.heap.size wx W ∧ Below w27.heap.size w27 W) (fun y => m - y.1) (0, false) ⟨Nat.zero_le _, fun _ j hj => absurd hj (Nat.not_lt_zero _), (fun h => nomatch h), q6y, q16y, q41, hol, hbw, hbB, hbR⟩ ⟨rfl, rfl, trivial⟩ ?_
                clear q6y q16y q41 hol hbw hbB hbR
                rintro ⟨k, sn⟩ wz ⟨hk, hsf, hst2, q6y, q16y, q18y, hol, hbw, hbB, hbR⟩
                dsimp only at hk hsf hst2
                by_cases hlk2 : k < m
                ·
                  obtain ⟨bM, oM, e3_, _, z0, z1, z2⟩ := lnks_cells rr k (by omega) _ _ _ _ _ hrd
                  subst e3_
                  obtain ⟨X, eX⟩ : ∃ z, z = rr.getD k lnk0 := ⟨_, rfl⟩
                  rw [← eX] at z0 z1 z2
                  have hXm : X ∈ rr := by rw [eX, show rr.getD k lnk0 = rr[k]'(by omega) by simp [List.getD, show k < rr.length by omega]]; exact List.getElem_mem _
                  rcases link_cases sn X D1 D2 with rfl | ⟨rfl, he1⟩ | ⟨rfl, he1, he2⟩ | ⟨rfl, he1, he2⟩
                  ·
                    refine EC.seq ?_
                    refine EC.seq ?_
                    refine EC.region ?_
                    refine EL.val (x_move rfl) rfl ?_
                    refine EL.val (x_move rfl) rfl ?_
                    refine EL.val (ln_29 rfl) rfl ?_
                    refine EL.val (x_lss rfl rfl (decide_eq_true (show (((k : Nat) : Int) < ((m : Nat) : Int)) by omega))) rfl ?_
                    refine EL.nil ?_
                    refine EX.seq ?_
                    refine EC.yes rfl ?_
                    refine EC.skip ?_
                    refine EX.seq ?_
                    refine EC.seq ?_
                    refine EC.block ?_
                    refine EC.regionQ (by kernel_rfl) (by kernel_rfl) ?_
                    refine EQ.val (fun _ hw => (x_move rfl)) rfl ?_
                    refine EQ.val (fun _ hw => (x_move rfl)) rfl ?_
                    refine EQ.skip rfl rfl rfl rfl ?_
                    refine EQ.skip rfl rfl rfl rfl ?_
                    refine EQ.skip rfl rfl rfl rfl ?_
                    refine EQ.skip rfl rfl rfl rfl ?_
                    refine EQ.skip rfl rfl rfl rfl ?_
                    refine EQ.skip rfl rfl rfl rfl ?_
                    refine EQ.skip rfl rfl rfl rfl ?_
                    refine EQ.skip rfl rfl rfl rfl ?_
                    refine EQ.skip rfl rfl rfl rfl ?_
                    refine EQ.skip rfl rfl rfl rfl ?_
                    refine EQ.skip rfl rfl rfl rfl ?_
                    refine EQ.skip rfl rfl rfl rfl ?_
                    refine EQ.skip rfl rfl rfl rfl ?_
                    refine EQ.val (fun _ hw => (x_pick_t rfl rfl)) rfl ?_
                    refine EQ.val (fun _ hw => (x_move rfl)) rfl ?_
                    refine EQ.skip rfl rfl rfl rfl ?_
                    refine EQ.skip rfl rfl rfl rfl ?_
                    refine EQ.skip rfl rfl rfl rfl ?_
                    refine EQ.skip rfl rfl rfl rfl ?_
                    refine EQ.skip rfl rfl rfl rfl ?_
                    refine EQ.skip rfl rfl rfl rfl ?_
                    refine EQ.skip rfl rfl rfl rfl ?_
                    refine EQ.skip rfl rfl rfl rfl ?_
                    refine EQ.skip rfl rfl rfl rfl ?_
                    refine EQ.skip rfl rfl rfl rfl ?_
                    refine EQ.skip rfl rfl rfl rfl ?_
                    refine EQ.skip rfl rfl rfl rfl ?_
                    refine EQ.skip rfl rfl rfl rfl ?_
                    refine EQ.skip rfl rfl rfl rfl ?_
                    refine EQ.val (fun _ hw => (x_pick_t rfl rfl)) rfl ?_
                    refine EQ.val (fun _ hw => (x_assign rfl)) rfl ?_
                    refine EQ.fin (fun w43 hw_ => ?_)
                    replace q6y := q6y.below hw_ q6y.lt
                    replace q16y := q16y.below hw_ q16y.lt
                    replace q18y := q18y.below hw_ q18y.lt
                    replace hol := own_below hol hw_ (Nat.le_refl _)
                    replace hbw := Below.on hbw hw_ hbw.size
                    replace hbB := Below.on hbB hw_ hbB.size
                    replace hbR := Below.on hbR hw_ hbR.size
                    clear hw_
                    refine EX.blk ?_
                    refine EX.seq ?_
                    refine EC.region ?_
                    refine EL.val (x_move rfl) rfl ?_
                    refine EL.val (x_add rfl rfl (c := ((k + 1 : Nat) : Int)) ((IntWalk.i64_in _ ⟨by first | omega | (simp only; omega), by first | omega | (simp only; omega)⟩).trans (by first | omega | (simp only; omega)))) rfl ?_
                    refine EL.val (x_assign rfl) rfl ?_
                    refine EL.nil ?_
                    refine EX.roundD (k + 1, true) ⟨rfl, rfl, trivial⟩ (by repeat first | with_reducible exact Sub.refl _ | refine sub_past rfl ?_ | exact Sub.refl _ | refine sub_del rfl ?_ | refine sub_insL_nil ?_) ⟨hlk2, (fun h => nomatch h), hst2, q6y, q16y, q18y, hol, hbw, hbB, hbR⟩ (by simp only; omega)
                  ·
                    refine EC.seq ?_
                    refine EC.seq ?_
                    refine EC.region ?_
                    refine EL.val (x_move rfl) rfl ?_
                    refine EL.val (x_move rfl) rfl ?_
                    refine EL.val (ln_29 rfl) rfl ?_
                    refine EL.val (x_lss rfl rfl (decide_eq_true (show (((k : Nat) : Int) < ((m : Nat) : Int)) by omega))) rfl ?_
                    refine EL.nil ?_
                    refine EX.seq ?_
                    refine EC.yes rfl ?_
                    refine EC.skip ?_
                    refine EX.seq ?_
                    refine EC.seq ?_
                    refine EC.block ?_
                    refine EC.regionQ (by kernel_rfl) (by kernel_rfl) ?_
                    refine EQ.val (fun _ hw => (x_move rfl)) rfl ?_
                    refine EQ.val (fun _ hw => (x_move rfl)) rfl ?_
                    refine EQ.valg rfl rfl (fun _ hw => (x_move rfl)) rfl ?_
                    refine EQ.valg rfl rfl (fun _ hw => (x_move rfl)) rfl ?_
                    refine EQ.valg rfl rfl (fun _ hw => (ix_29 rfl rfl hlk2)) rfl ?_
                    refine EQ.valg rfl rfl (fun _ hw => (ld_39 rfl (below_load hw (below_load hbR z0)) (below_load hw (below_load hbR z1)) (below_load hw (below_load hbR z2)))) rfl ?_
                    refine EQ.valg rfl rfl (fun _ hw => (x_move rfl)) rfl ?_
                    refine EQ.valg rfl rfl (fun _ hw => (fa_71_1 rfl)) rfl ?_
                    refine EQ.valg rfl rfl (fun _ hw => (ld_3 rfl (below_load hw (q18y.at (j := 1) rfl)))) rfl ?_
                    refine EQ.valg rfl rfl (fun _ hw => (x_add rfl rfl (c := ((1 + p.event.toNat : Nat) : Int)) ((IntWalk.i64_in _ ⟨by omega, by omega⟩).trans (by omega)))) rfl ?_
                    refine EQ.valg rfl rfl (fun _ hw => (fa_71_4 rfl)) rfl ?_
                    refine EQ.valg rfl rfl (fun _ hw => (fa_54_1 rfl)) rfl ?_
                    refine EQ.valg rfl rfl (fun _ hw => (ld_3 rfl (below_load hw (q18y.at (j := 5) rfl)))) rfl ?_
                    refine EQ.valg rfl rfl (fun _ hw => (bd_39_0_1_2 rfl rfl rfl)) rfl ?_
                    refine EQ.valg rfl rfl (fun _ hw => (eql_39 (r := true) rfl rfl (decide_eq_true ((lnk_iff.1 (he1.trans eD1)))))) rfl ?_
                    refine EQ.val (fun _ hw => (x_pick_f rfl rfl)) rfl ?_
                    refine EQ.val (fun _ hw => (x_move rfl)) rfl ?_
                    refine EQ.skip rfl rfl rfl rfl ?_
                    refine EQ.skip rfl rfl rfl rfl ?_
                    refine EQ.skip rfl rfl rfl rfl ?_
                    refine EQ.skip rfl rfl rfl rfl ?_
                    refine EQ.skip rfl rfl rfl rfl ?_
                    refine EQ.skip rfl rfl rfl rfl ?_
                    refine EQ.skip rfl rfl rfl rfl ?_
                    refine EQ.skip rfl rfl rfl rfl ?_
                    refine EQ.skip rfl rfl rfl rfl ?_
                    refine EQ.skip rfl rfl rfl rfl ?_
                    refine EQ.skip rfl rfl rfl rfl ?_
                    refine EQ.skip rfl rfl rfl rfl ?_
                    refine EQ.skip rfl rfl rfl rfl ?_
                    refine EQ.skip rfl rfl rfl rfl ?_
                    refine EQ.val (fun _ hw => (x_pick_t rfl rfl)) rfl ?_
                    refine EQ.val (fun _ hw => (x_assign rfl)) rfl ?_
                    refine EQ.fin (fun w44 hw_ => ?_)
                    replace q6y := q6y.below hw_ q6y.lt
                    replace q16y := q16y.below hw_ q16y.lt
                    replace q18y := q18y.below hw_ q18y.lt
                    replace hol := own_below hol hw_ (Nat.le_refl _)
                    replace hbw := Below.on hbw hw_ hbw.size
                    replace hbB := Below.on hbB hw_ hbB.size
                    replace hbR := Below.on hbR hw_ hbR.size
                    clear hw_
                    refine EX.blk ?_
                    refine EX.seq ?_
                    refine EC.region ?_
                    refine EL.val (x_move rfl) rfl ?_
                    refine EL.val (x_add rfl rfl (c := ((k + 1 : Nat) : Int)) ((IntWalk.i64_in _ ⟨by first | omega | (simp only; omega), by first | omega | (simp only; omega)⟩).trans (by first | omega | (simp only; omega)))) rfl ?_
                    refine EL.val (x_assign rfl) rfl ?_
                    refine EL.nil ?_
                    refine EX.roundD (k + 1, true) ⟨rfl, rfl, trivial⟩ (by repeat first | with_reducible exact Sub.refl _ | refine sub_past rfl ?_ | exact Sub.refl _ | refine sub_del rfl ?_ | refine sub_insL_nil ?_) ⟨hlk2, (fun h => nomatch h), (fun _ => used_iff.2 ⟨X, hXm, by rw [hol2, he1]; exact List.mem_cons_self⟩), q6y, q16y, q18y, hol, hbw, hbB, hbR⟩ (by simp only; omega)
                  ·
                    refine EC.seq ?_
                    refine EC.seq ?_
                    refine EC.region ?_
                    refine EL.val (x_move rfl) rfl ?_
                    refine EL.val (x_move rfl) rfl ?_
                    refine EL.val (ln_29 rfl) rfl ?_
                    refine EL.val (x_lss rfl rfl (decide_eq_true (show (((k : Nat) : Int) < ((m : Nat) : Int)) by omega))) rfl ?_
                    refine EL.nil ?_
                    refine EX.seq ?_
                    refine EC.yes rfl ?_
                    refine EC.skip ?_
                    refine EX.seq ?_
                    refine EC.seq ?_
                    refine EC.block ?_
                    refine EC.regionQ (by kernel_rfl) (by kernel_rfl) ?_
                    refine EQ.val (fun _ hw => (x_move rfl)) rfl ?_
                    refine EQ.val (fun _ hw => (x_move rfl)) rfl ?_
                    refine EQ.valg rfl rfl (fun _ hw => (x_move rfl)) rfl ?_
                    refine EQ.valg rfl rfl (fun _ hw => (x_move rfl)) rfl ?_
                    refine EQ.valg rfl rfl (fun _ hw => (ix_29 rfl rfl hlk2)) rfl ?_
                    refine EQ.valg rfl rfl (fun _ hw => (ld_39 rfl (below_load hw (below_load hbR z0)) (below_load hw (below_load hbR z1)) (below_load hw (below_load hbR z2)))) rfl ?_
                    refine EQ.valg rfl rfl (fun _ hw => (x_move rfl)) rfl ?_
                    refine EQ.valg rfl rfl (fun _ hw => (fa_71_1 rfl)) rfl ?_
                    refine EQ.valg rfl rfl (fun _ hw => (ld_3 rfl (below_load hw (q18y.at (j := 1) rfl)))) rfl ?_
                    refine EQ.valg rfl rfl (fun _ hw => (x_add rfl rfl (c := ((1 + p.event.toNat : Nat) : Int)) ((IntWalk.i64_in _ ⟨by omega, by omega⟩).trans (by omega)))) rfl ?_
                    refine EQ.valg rfl rfl (fun _ hw => (fa_71_4 rfl)) rfl ?_
                    refine EQ.valg rfl rfl (fun _ hw => (fa_54_1 rfl)) rfl ?_
                    refine EQ.valg rfl rfl (fun _ hw => (ld_3 rfl (below_load hw (q18y.at (j := 5) rfl)))) rfl ?_
                    refine EQ.valg rfl rfl (fun _ hw => (bd_39_0_1_2 rfl rfl rfl)) rfl ?_
                    refine EQ.valg rfl rfl (fun _ hw => (eql_39 (r := false) rfl rfl (decide_eq_false (fun h => he1 ((lnk_iff.2 h).trans eD1.symm))))) rfl ?_
                    refine EQ.val (fun _ hw => (x_pick_f rfl rfl)) rfl ?_
                    refine EQ.val (fun _ hw => (x_move rfl)) rfl ?_
                    refine EQ.valg rfl rfl (fun _ hw => (x_move rfl)) rfl ?_
                    refine EQ.valg rfl rfl (fun _ hw => (x_move rfl)) rfl ?_
                    refine EQ.valg rfl rfl (fun _ hw => (ix_29 rfl rfl hlk2)) rfl ?_
                    refine EQ.valg rfl rfl (fun _ hw => (ld_39 rfl (below_load hw (below_load hbR z0)) (below_load hw (below_load hbR z1)) (below_load hw (below_load hbR z2)))) rfl ?_
                    refine EQ.valg rfl rfl (fun _ hw => (fa_71_1 rfl)) rfl ?_
                    refine EQ.valg rfl rfl (fun _ hw => (ld_3 rfl (below_load hw (q18y.at (j := 1) rfl)))) rfl ?_
                    refine EQ.valg rfl rfl (fun _ hw => (x_add rfl rfl (c := ((1 + p.event.toNat : Nat) : Int)) ((IntWalk.i64_in _ ⟨by omega, by omega⟩).trans (by omega)))) rfl ?_
                    refine EQ.valg rfl rfl (fun _ hw => (x_move rfl)) rfl ?_
                    refine EQ.valg rfl rfl (fun _ hw => (fa_71_4 rfl)) rfl ?_
                    refine EQ.valg rfl rfl (fun _ hw => (fa_54_0 rfl)) rfl ?_
                    refine EQ.valg rfl rfl (fun _ hw => (ld_3 rfl (below_load hw (q18y.at (j := 4) rfl)))) rfl ?_
                    refine EQ.valg rfl rfl (fun _ hw => (x_neg rfl (c := -p.mins.lo) (IntWalk.i64_in _ ⟨by omega, by omega⟩))) rfl ?_
                    refine EQ.valg rfl rfl (fun _ hw => (bd_39_0_1_2 rfl rfl rfl)) rfl ?_
                    refine EQ.valg rfl rfl (fun _ hw => (eql_39 (r := true) rfl rfl (decide_eq_true ((lnk_iff.1 (he2.trans eD2)))))) rfl ?_
                    refine EQ.val (fun _ hw => (x_pick_f rfl rfl)) rfl ?_
                    refine EQ.val (fun _ hw => (x_assign rfl)) rfl ?_
                    refine EQ.fin (fun w45 hw_ => ?_)
                    replace q6y := q6y.below hw_ q6y.lt
                    replace q16y := q16y.below hw_ q16y.lt
                    replace q18y := q18y.below hw_ q18y.lt
                    replace hol := own_below hol hw_ (Nat.le_refl _)
                    replace hbw := Below.on hbw hw_ hbw.size
                    replace hbB := Below.on hbB hw_ hbB.size
                    replace hbR := Below.on hbR hw_ hbR.size
                    clear hw_
                    refine EX.blk ?_
                    refine EX.seq ?_
                    refine EC.region ?_
                    refine EL.val (x_move rfl) rfl ?_
                    refine EL.val (x_add rfl rfl (c := ((k + 1 : Nat) : Int)) ((IntWalk.i64_in _ ⟨by first | omega | (simp only; omega), by first | omega | (simp only; omega)⟩).trans (by first | omega | (simp only; omega)))) rfl ?_
                    refine EL.val (x_assign rfl) rfl ?_
                    refine EL.nil ?_
                    refine EX.roundD (k + 1, true) ⟨rfl, rfl, trivial⟩ (by repeat first | with_reducible exact Sub.refl _ | refine sub_past rfl ?_ | exact Sub.refl _ | refine sub_del rfl ?_ | refine sub_insL_nil ?_) ⟨hlk2, (fun h => nomatch h), (fun _ => used_iff.2 ⟨X, hXm, by rw [hol2, he2]; exact List.mem_cons_of_mem _ (List.mem_singleton.2 rfl)⟩), q6y, q16y, q18y, hol, hbw, hbB, hbR⟩ (by simp only; omega)
                  ·
                    refine EC.seq ?_
                    refine EC.seq ?_
                    refine EC.region ?_
                    refine EL.val (x_move rfl) rfl ?_
                    refine EL.val (x_move rfl) rfl ?_
                    refine EL.val (ln_29 rfl) rfl ?_
                    refine EL.val (x_lss rfl rfl (decide_eq_true (show (((k : Nat) : Int) < ((m : Nat) : Int)) by omega))) rfl ?_
                    refine EL.nil ?_
                    refine EX.seq ?_
                    refine EC.yes rfl ?_
                    refine EC.skip ?_
                    refine EX.seq ?_
                    refine EC.seq ?_
                    refine EC.block ?_
                    refine EC.regionQ (by kernel_rfl) (by kernel_rfl) ?_
                    refine EQ.val (fun _ hw => (x_move rfl)) rfl ?_
                    refine EQ.val (fun _ hw => (x_move rfl)) rfl ?_
                    refine EQ.valg rfl rfl (fun _ hw => (x_move rfl)) rfl ?_
                    refine EQ.valg rfl rfl (fun _ hw => (x_move rfl)) rfl ?_
                    refine EQ.valg rfl rfl (fun _ hw => (ix_29 rfl rfl hlk2)) rfl ?_
                    refine EQ.valg rfl rfl (fun _ hw => (ld_39 rfl (below_load hw (below_load hbR z0)) (below_load hw (below_load hbR z1)) (below_load hw (below_load hbR z2)))) rfl ?_
                    refine EQ.valg rfl rfl (fun _ hw => (x_move rfl)) rfl ?_
                    refine EQ.valg rfl rfl (fun _ hw => (fa_71_1 rfl)) rfl ?_
                    refine EQ.valg rfl rfl (fun _ hw => (ld_3 rfl (below_load hw (q18y.at (j := 1) rfl)))) rfl ?_
                    refine EQ.valg rfl rfl (fun _ hw => (x_add rfl rfl (c := ((1 + p.event.toNat : Nat) : Int)) ((IntWalk.i64_in _ ⟨by omega, by omega⟩).trans (by omega)))) rfl ?_
                    refine EQ.valg rfl rfl (fun _ hw => (fa_71_4 rfl)) rfl ?_
                    refine EQ.valg rfl rfl (fun _ hw => (fa_54_1 rfl)) rfl ?_
                    refine EQ.valg rfl rfl (fun _ hw => (ld_3 rfl (below_load hw (q18y.at (j := 5) rfl)))) rfl ?_
                    refine EQ.valg rfl rfl (fun _ hw => (bd_39_0_1_2 rfl rfl rfl)) rfl ?_
                    refine EQ.valg rfl rfl (fun _ hw => (eql_39 (r := false) rfl rfl (decide_eq_false (fun h => he1 ((lnk_iff.2 h).trans eD1.symm))))) rfl ?_
                    refine EQ.val (fun _ hw => (x_pick_f rfl rfl)) rfl ?_
                    refine EQ.val (fun _ hw => (x_move rfl)) rfl ?_
                    refine EQ.valg rfl rfl (fun _ hw => (x_move rfl)) rfl ?_
                    refine EQ.valg rfl rfl (fun _ hw => (x_move rfl)) rfl ?_
                    refine EQ.valg rfl rfl (fun _ hw => (ix_29 rfl rfl hlk2)) rfl ?_
                    refine EQ.valg rfl rfl (fun _ hw => (ld_39 rfl (below_load hw (below_load hbR z0)) (below_load hw (below_load hbR z1)) (below_load hw (below_load hbR z2)))) rfl ?_
                    refine EQ.valg rfl rfl (fun _ hw => (fa_71_1 rfl)) rfl ?_
                    refine EQ.valg rfl rfl (fun _ hw => (ld_3 rfl (below_load hw (q18y.at (j := 1) rfl)))) rfl ?_
                    refine EQ.valg rfl rfl (fun _ hw => (x_add rfl rfl (c := ((1 + p.event.toNat : Nat) : Int)) ((IntWalk.i64_in _ ⟨by omega, by omega⟩).trans (by omega)))) rfl ?_
                    refine EQ.valg rfl rfl (fun _ hw => (x_move rfl)) rfl ?_
                    refine EQ.valg rfl rfl (fun _ hw => (fa_71_4 rfl)) rfl ?_
                    refine EQ.valg rfl rfl (fun _ hw => (fa_54_0 rfl)) rfl ?_
                    refine EQ.valg rfl rfl (fun _ hw => (ld_3 rfl (below_load hw (q18y.at (j := 4) rfl)))) rfl ?_
                    refine EQ.valg rfl rfl (fun _ hw => (x_neg rfl (c := -p.mins.lo) (IntWalk.i64_in _ ⟨by omega, by omega⟩))) rfl ?_
                    refine EQ.valg rfl rfl (fun _ hw => (bd_39_0_1_2 rfl rfl rfl)) rfl ?_
                    refine EQ.valg rfl rfl (fun _ hw => (eql_39 (r := false) rfl rfl (decide_eq_false (fun h => he2 ((lnk_iff.2 h).trans eD2.symm))))) rfl ?_
                    refine EQ.val (fun _ hw => (x_pick_f rfl rfl)) rfl ?_
                    refine EQ.val (fun _ hw => (x_assign rfl)) rfl ?_
                    refine EQ.fin (fun w46 hw_ => ?_)
                    replace q6y := q6y.below hw_ q6y.lt
                    replace q16y := q16y.below hw_ q16y.lt
                    replace q18y := q18y.below hw_ q18y.lt
                    replace hol := own_below hol hw_ (Nat.le_refl _)
                    replace hbw := Below.on hbw hw_ hbw.size
                    replace hbB := Below.on hbB hw_ hbB.size
                    replace hbR := Below.on hbR hw_ hbR.size
                    clear hw_
                    refine EX.blk ?_
                    refine EX.seq ?_
                    refine EC.region ?_
                    refine EL.val (x_move rfl) rfl ?_
                    refine EL.val (x_add rfl rfl (c := ((k + 1 : Nat) : Int)) ((IntWalk.i64_in _ ⟨by first | omega | (simp only; omega), by first | omega | (simp only; omega)⟩).trans (by first | omega | (simp only; omega)))) rfl ?_
                    refine EL.val (x_assign rfl) rfl ?_
                    refine EL.nil ?_
                    refine EX.roundD (k + 1, false) ⟨rfl, rfl, trivial⟩ (by repeat first | with_reducible exact Sub.refl _ | refine sub_past rfl ?_ | exact Sub.refl _ | refine sub_del rfl ?_ | refine sub_insL_nil ?_) ⟨hlk2, (fun _ j hj => by by_cases e : j < k; (exact hsf rfl j e); (rw [show j = k by omega, ← eX]; exact ⟨he1, he2⟩)), (fun h => nomatch h), q6y, q16y, q18y, hol, hbw, hbB, hbR⟩ (by simp only; omega)
                ·
                  have hkm : k = m := by omega
                  subst hkm
                  rcases sn with _ | _
                  ·
                    have hus : usedB c rr p = false := not_used hol2 (fun j hj => hsf rfl j (by omega))
                    have hsc : leftL c b rr (x + 1) = leftL c b rr x := by rw [leftL, ← ep, hus]; simp
                    refine EC.seq ?_
                    refine EC.seq ?_
                    refine EC.region ?_
                    refine EL.val (x_move rfl) rfl ?_
                    refine EL.val (x_move rfl) rfl ?_
                    refine EL.val (ln_29 rfl) rfl ?_
                    refine EL.val (x_lss rfl rfl (decide_eq_false (show ¬(((k : Nat) : Int) < ((k : Nat) : Int)) by omega))) rfl ?_
                    refine EL.nil ?_
                    refine EX.seq ?_
                    refine EC.no rfl ?_
                    refine EC.exit ?_
                    refine EX.seq_exit ?_
                    refine EX.seq_exit ?_
                    refine EX.blk_here ?_
                    refine EX.seq ?_
                    refine EC.seq ?_
                    refine EC.region ?_
                    refine EL.val (x_move rfl) rfl ?_
                    refine EL.nil ?_
                    refine EX.seq ?_
                    refine EC.no rfl ?_
                    refine EC.skip ?_
                    refine EX.blk ?_
                    refine EX.seq ?_
                    refine EC.region ?_
                    refine EL.val (x_move rfl) rfl ?_
                    refine EL.val (x_add rfl rfl (c := ((x + 1 : Nat) : Int)) ((IntWalk.i64_in _ ⟨by first | omega | (simp only; omega), by first | omega | (simp only; omega)⟩).trans (by first | omega | (simp only; omega)))) rfl ?_
                    refine EL.val (x_assign rfl) rfl ?_
                    refine EL.nil ?_
                    refine EX.roundD (x + 1, _, ls) ⟨rfl, trivial⟩ (by repeat first | with_reducible exact Sub.refl _ | refine sub_past rfl ?_ | exact Sub.refl _ | refine sub_del rfl ?_ | refine sub_insL_nil ?_) ⟨hlt, q6y, q16y, by rw [hsc]; exact hol, by rw [hsc]; exact hll, by rw [hsc]; exact hlr, hbw, hbB, hbR⟩ (by simp only; omega)
                  ·
                    have hus := hst2 rfl
                    have hsc : leftL c b rr (x + 1) = leftL c b rr x ++ [[p]] := by rw [leftL, ← ep, if_pos hus]
                    refine EC.seq ?_
                    refine EC.seq ?_
                    refine EC.region ?_
                    refine EL.val (x_move rfl) rfl ?_
                    refine EL.val (x_move rfl) rfl ?_
                    refine EL.val (ln_29 rfl) rfl ?_
                    refine EL.val (x_lss rfl rfl (decide_eq_false (show ¬(((k : Nat) : Int) < ((k : Nat) : Int)) by omega))) rfl ?_
                    refine EL.nil ?_
                    refine EX.seq ?_
                    refine EC.no rfl ?_
                    refine EC.exit ?_
                    refine EX.seq_exit ?_
                    refine EX.seq_exit ?_
                    refine EX.blk_here ?_
                    refine EX.seq ?_
                    refine EC.seq ?_
                    refine EC.region ?_
                    refine EL.val (x_move rfl) rfl ?_
                    refine EL.nil ?_
                    refine EX.seq ?_
                    refine EC.yes rfl ?_
                    have lt_5 := q6y.lt
                    have lt_31 := q16y.lt
                    have lt_41 := q18y.lt
                    refine EC.regionP [[], [0], [], [2], [], [2, 3, 4], [2, 3, 4, 5], [2, 3, 4, 5, 6], [0, 1, 2, 3, 4, 5, 6, 7], [0, 1, 2, 3, 4, 5, 6, 7, 8], [0, 1, 2, 3, 4, 5, 6, 7, 8, 9]] 8 [] (phi (fun i_ r => match i_ with | 0 => r 0 = .pointer (some ⟨g31, 2, none⟩) | 1 => r 1 = .slice AY (leftL c b rr x).length cY | 2 => r 2 = .pointer (some ⟨ga9_3, 2, none⟩) | 3 => r 3 = .slice (some ⟨bl2, ol2, none⟩) c.clues.length cO | 4 => r 4 = .int .i64 (x : Nat) | 5 => r 5 = .pointer (some ⟨bl2, ol2 + x, none⟩) | 6 => r 6 = .agg #[.slice (some ⟨bo, oo, none⟩) [p].length co] | _ => True) [(7, fun r w_ => ∃ g_, r 7 = .slice (some ⟨g_, 0, none⟩) 1 1 ∧ Blk w_ g_ 74 #[.slice (some ⟨bo, oo, none⟩) [p].length co] ∧ wz.heap.size ≤ g_)]) (by kernel_rfl) rfl rfl (phi_cons mono_bs (phi_nil)) (fun i_ hi_ => ?_) ?_
                    · match i_, hi_ with
                      | 0, _ =>
                        intro val w1 a hb ha hd
                        have ha := ha.sub (Sub.ins (d := 16) (Sub.nil _) rfl)
                        exact hs_val ha rfl rfl (fa_25_2 rfl) rfl rfl
                      | 1, _ =>
                        intro val w1 a hb ha hd
                        have e0 : val 0 = .pointer (some ⟨g31, 2, none⟩) := hd 0 (memB_mem.1 rfl)
                        have ha := ha.sub (Sub.ins (d := 224) (Sub.nil _) (dep_get rfl e0))
                        exact hs_val ha rfl rfl (ld_23 rfl ((q16y.below hb q16y.lt).at (j := 2) rfl)) rfl rfl
                      | 2, _ =>
                        intro val w1 a hb ha hd
                        have ha := ha.sub (Sub.ins (d := 6) (Sub.nil _) rfl)
                        exact hs_val ha rfl rfl (fa_25_2 rfl) rfl rfl
                      | 3, _ =>
                        intro val w1 a hb ha hd
                        have e2 : val 2 = .pointer (some ⟨ga9_3, 2, none⟩) := hd 2 (memB_mem.1 rfl)
                        have ha := ha.sub (Sub.ins (d := 226) (Sub.nil _) (dep_get rfl e2))
                        exact hs_val ha rfl rfl (ld_23 rfl ((q6y.below hb q6y.lt).at (j := 2) rfl)) rfl rfl
                      | 4, _ =>
                        intro val w1 a hb ha hd
                        have ha := ha.sub (Sub.ins (d := 17) (Sub.nil _) rfl)
                        exact hs_val ha rfl rfl (x_move rfl) rfl rfl
                      | 5, _ =>
                        intro val w1 a hb ha hd
                        have e3 : val 3 = .slice (some ⟨bl2, ol2, none⟩) c.clues.length cO := hd 3 (memB_mem.1 rfl)
                        have e4 : val 4 = .int .i64 (x : Nat) := hd 4 (memB_mem.1 rfl)
                        have ha := ha.sub (Sub.ins (d := 228) (Sub.ins (d := 227) (Sub.nil _) (dep_get rfl e3)) (dep_get rfl e4))
                        exact hs_val ha rfl rfl (ix_23 rfl rfl hlt) rfl rfl
                      | 6, _ =>
                        intro val w1 a hb ha hd
                        have e5 : val 5 = .pointer (some ⟨bl2, ol2 + x, none⟩) := hd 5 (memB_mem.1 rfl)
                        have ha := ha.sub (Sub.ins (d := 229) (Sub.nil _) (dep_get rfl e5))
                        exact hs_val ha rfl rfl (ld_74 rfl (below_load (Below.on hbB hb hbB.size) hcell)) rfl rfl
                      | 7, _ =>
                        intro val w1 a hb ha hd
                        have e6 : val 6 = .agg #[.slice (some ⟨bo, oo, none⟩) [p].length co] := hd 6 (memB_mem.1 rfl)
                        have ha := ha.sub (Sub.ins (d := 230) (Sub.nil _) (dep_get rfl e6))
                        exact hs_newS ha rfl rfl (bs_23_1 rfl) rfl (fun g w' hq _ hge => ⟨g, rfl, hq, Nat.le_trans hb.size hge⟩)
                      | k + 8, h => exact absurd h (by omega)
                    · intro val wR34 hb halc hd
                      have e0 : val 0 = .pointer (some ⟨g31, 2, none⟩) := hd 0 (by omega)
                      have e1 : val 1 = .slice AY (leftL c b rr x).length cY := hd 1 (by omega)
                      have e2 : val 2 = .pointer (some ⟨ga9_3, 2, none⟩) := hd 2 (by omega)
                      have e3 : val 3 = .slice (some ⟨bl2, ol2, none⟩) c.clues.length cO := hd 3 (by omega)
                      have e4 : val 4 = .int .i64 (x : Nat) := hd 4 (by omega)
                      have e5 : val 5 = .pointer (some ⟨bl2, ol2 + x, none⟩) := hd 5 (by omega)
                      have e6 : val 6 = .agg #[.slice (some ⟨bo, oo, none⟩) [p].length co] := hd 6 (by omega)
                      obtain ⟨ga7_34, e7, qa7_34, hga7_34⟩ := hd 7 (by omega)
                      change val 7 = _ at e7
                      change Blk wR34 ga7_34 74 #[.slice (some ⟨bo, oo, none⟩) [p].length co] at qa7_34
                      refine EL.ends (cs := [.pointer (some ⟨g31, 2, none⟩), .slice AY (leftL c b rr x).length cY, .pointer (some ⟨ga9_3, 2, none⟩), .slice (some ⟨bl2, ol2, none⟩) c.clues.length cO, .int .i64 (x : Nat), .pointer (some ⟨bl2, ol2 + x, none⟩), .agg #[.slice (some ⟨bo, oo, none⟩) [p].length co], .slice (some ⟨ga7_34, 0, none⟩) 1 1]) ⟨e0, e1, e2, e3, e4, e5, e6, e7, trivial⟩ rfl ?_
                      replace q6y := q6y.below hb q6y.lt
                      replace q16y := q16y.below hb q16y.lt
                      replace q18y := q18y.below hb q18y.lt
                      replace hol := own_below hol hb (Nat.le_refl _)
                      have n5_47 : ga9_3 ≠ ga7_34 := Nat.ne_of_lt (Nat.lt_of_lt_of_le lt_5 hga7_34)
                      have n31_47 : g31 ≠ ga7_34 := Nat.ne_of_lt (Nat.lt_of_lt_of_le lt_31 hga7_34)
                      have n41_47 : g41 ≠ ga7_34 := Nat.ne_of_lt (Nat.lt_of_lt_of_le lt_41 hga7_34)
                      have bhbw_47 := Nat.le_trans hbw.size hga7_34
                      have bhbB_47 := Nat.le_trans hbB.size hga7_34
                      have bhbR_47 := Nat.le_trans hbR.size hga7_34
                      replace hbw := Below.on hbw hb hbw.size
                      replace hbB := Below.on hbB hb hbB.size
                      replace hbR := Below.on hbR hb hbR.size
                      clear hb
                      refine EL.push clue_elem rfl rfl hol (rd_one (l := [.slice (some ⟨bo, oo, none⟩) [p].length co]) qa7_34 rfl) (by intro u hu; rw [List.mem_singleton.1 hu]; rfl) (by omega) rfl hbR.size rfl ?_
                      intro v2 wp ho2 hgr hb2 _
                      replace q6y := blk_grown q6y hol rfl hgr
                      replace q16y := blk_grown q16y hol rfl hgr
                      replace hbw := hbw.trans (hb2.mono hszRw)
                      replace hbB := hbB.trans (hb2.mono hszRx)
                      replace hbR := hbR.trans hb2
                      clear hol
                      obtain ⟨A2, c2, e2, _⟩ := (Rd.of_own ho2).shape
                      subst e2
                      refine EL.val (fa_25_2 rfl) rfl ?_
                      refine EL.store rfl rfl q16y sz_23 rfl rfl rfl rfl ?_
                      intro w48 hq48 hg48
                      replace q6y := q6y.grown hg48 (fun h => n5_31 (Option.some.inj h))
                      replace ho2 := own_type ho2 q16y rfl hg48
                      replace hbw := below_store hbw hg48 bhbw_31
                      replace hbB := below_store hbB hg48 bhbB_31
                      replace hbR := below_store hbR hg48 bhbR_31
                      replace q16y := hq48
                      clear hg48 hq48
                      refine EL.nil ?_
                      refine EX.blk ?_
                      refine EX.seq ?_
                      refine EC.region ?_
                      refine EL.val (x_move rfl) rfl ?_
                      refine EL.val (x_add rfl rfl (c := ((x + 1 : Nat) : Int)) ((IntWalk.i64_in _ ⟨by first | omega | (simp only; omega), by first | omega | (simp only; omega)⟩).trans (by first | omega | (simp only; omega)))) rfl ?_
                      refine EL.val (x_assign rfl) rfl ?_
                      refine EL.nil ?_
                      refine EX.roundD (x + 1, _, ls ++ [_]) ⟨rfl, trivial⟩ (by repeat first | with_reducible exact Sub.refl _ | refine sub_past rfl ?_ | exact Sub.refl _ | refine sub_del rfl ?_ | refine sub_insL_nil ?_) ⟨hlt, q6y, q16y, by rw [hsc, List.length_append]; exact ho2, by rw [hsc, List.length_append, List.length_append, hll]; rfl, by rw [hsc]; exact rows_snoc hll hlr hrow, hbw, hbB, hbR⟩ (by simp only; omega)
            ·
              have hxn : x = c.clues.length := by omega
              subst hxn
              have hrY : RdCase wy wy.heap.size (.slice A9_ c.clocks.length c9_) (.slice AY (leftL c b rr c.clues.length).length cY) (leftC c b rr) ls := ⟨(hrB.clocks.below hbB).more hbB.size, hll, Rd.of_own hol, fun i hi => ((hlr i hi).below hbB).more hbB.size⟩
              have hbY := Below.refl wy.heap.size wy
              have hrF2 := (hrF.below hbB).more hbB.size
              refine EC.seq ?_
              refine EC.seq ?_
              refine EC.region ?_
              refine EL.val (x_move rfl) rfl ?_
              refine EL.val (fa_25_2 rfl) rfl ?_
              refine EL.val (ld_23 rfl (q6y.at (j := 2) rfl)) rfl ?_
              refine EL.val (ln_23 rfl) rfl ?_
              refine EL.val (x_lss rfl rfl (decide_eq_false (show ¬(((c.clues.length : Nat) : Int) < ((c.clues.length : Nat) : Int)) by omega))) rfl ?_
              refine EL.nil ?_
              refine EX.seq ?_
              refine EC.no rfl ?_
              refine EC.exit ?_
              refine EX.seq_exit ?_
              refine EX.seq_exit ?_
              refine EX.blk_here ?_
              refine EX.seq ?_
              refine EC.seq ?_
              have hzl : Rd wy wy.heap.size 1 (.slice (some ⟨gF, 0, none⟩) (leftL c b rr c.clues.length).length cF) (zeros (leftL c b rr c.clues.length).length).length (ints (zeros (leftL c b rr c.clues.length).length)) := by rw [zeros_len]; exact rd_zeros hrF2 hlk
              refine EC.regionQ (by kernel_rfl) (by kernel_rfl) ?_
              refine EQ.val (fun _ hw => (ld_25 rfl (below_load hw (q16y.at (j := 0) rfl)) (below_load hw (q16y.at (j := 1) rfl)) (below_load hw (q16y.at (j := 2) rfl)))) rfl ?_
              refine EQ.val (fun _ hw => (x_move rfl)) rfl ?_
              refine EQ.val (fun _ hw => (fa_25_2 rfl)) rfl ?_
              refine EQ.val (fun _ hw => (ld_23 rfl (below_load hw (q16y.at (j := 2) rfl)))) rfl ?_
              refine EQ.val (fun _ hw => (ln_23 rfl)) rfl ?_
              refine EQ.val (fun _ hw => (slh_26 rfl rfl (Nat.le_trans hlk hcF))) rfl ?_
              refine EQ.call (fun _ _ _ ha => cl_26 rfl rfl _ ha) rfl (fun W hw => (possible_to (poss_no (left_start hcb) (left_no hcb hRG)) (left_start hcb) _ _ ls W wy.heap.size (hrY.below (hbY.trans (hw.mono hbY.size))) (Nat.le_trans hbY.size hw.size) (show c.clocks.length ≤ 1073741824 by omega) (by have : (leftC c b rr).clues.length = (leftL c b rr c.clues.length).length := rfl; omega) _ (hzl.below (hbY.trans (hw.mono hbY.size))) (by rw [zeros_len]; omega)).mono fun e w' h => ⟨h.1, hw.trans (h.2.mono hw.size)⟩) ?_
              refine EQ.val (fun _ hw => (x_move rfl)) rfl ?_
              refine EQ.val (fun _ hw => (x_extract rfl rfl)) rfl ?_
              refine EQ.val (fun _ hw => (x_extract rfl rfl)) rfl ?_
              refine EQ.val (fun _ hw => (x_assign rfl)) rfl ?_
              refine EQ.val (fun _ hw => (x_assign rfl)) rfl ?_
              refine EQ.fin (fun w49 hw_ => ?_)
              replace q6y := q6y.below hw_ q6y.lt
              replace q16y := q16y.below hw_ q16y.lt
              replace hbw := Below.on hbw hw_ hbw.size
              replace hbY := Below.on hbY hw_ hbY.size
              clear hw_
              refine EX.seq ?_
              refine EC.seq ?_
              refine EC.region ?_
              refine EL.val (x_move rfl) rfl ?_
              refine EL.val (x_eql (r := true) rfl rfl (decide_eq_true rfl)) rfl ?_
              refine EL.val (x_move rfl) rfl ?_
              refine EL.valg rfl rfl (x_move rfl) rfl ?_
              refine EL.valg rfl rfl (x_not rfl) rfl ?_
              refine EL.val (x_pick_t rfl rfl) rfl ?_
              refine EL.val (x_move rfl) rfl ?_
              refine EL.callg rfl rfl cl_12 rfl (known_any _) ?_
              rintro e w50 ⟨rfl, hc50⟩
              refine ⟨_, rfl, ?_⟩
              replace q6y := q6y.below hc50 q6y.lt
              replace q16y := q16y.below hc50 q16y.lt
              replace hbw := Below.on hbw hc50 hbw.size
              replace hbY := Below.on hbY hc50 hbY.size
              clear hc50
              refine EL.val (x_pick_t rfl rfl) rfl ?_
              refine EL.val (x_assign rfl) rfl ?_
              refine EL.nil ?_
              refine EX.seq ?_
              refine EC.ret ?_
              exact EX.done (res1 rfl rfl) ⟨rfl, hbw⟩
          ·
            have hneg : (rch c (crsBy c b c.clues.length) (-1)).ring < 0 := of_decide_eq_true hfit
            refine EL.call (cl_26 rfl rfl) rfl (possible_to (poss_ok hst hfit) hst _ _ wsq18 _ _ ((hrq18.below hbq18).more hzq20) hbq20.size hn1 hn2 _ (hlq20.below hbq20) (by rw [crsBy_len]; omega)) ?_
            rintro e w51 ⟨rfl, hc51⟩
            refine ⟨_, rfl, ?_⟩
            replace q1x := q1x.below hc51 q1x.lt
            replace q6x := q6x.below hc51 q6x.lt
            replace hbw := Below.on hbw hc51 hbw.size
            replace hbB := Below.on hbB hc51 hbB.size
            replace hbq18 := Below.on hbq18 hc51 hbq18.size
            replace hbq20 := Below.on hbq20 hc51 hbq20.size
            clear hc51
            refine EL.val (x_move rfl) rfl ?_
            refine EL.val (x_extract rfl rfl) rfl ?_
            refine EL.val (x_extract rfl rfl) rfl ?_
            refine EL.val (x_assign rfl) rfl ?_
            refine EL.val (x_assign rfl) rfl ?_
            refine EL.nil ?_
            refine EX.seq ?_
            refine EC.seq ?_
            refine EC.region ?_
            refine EL.val (ld_25 rfl (q1x.at (j := 0) rfl) (q1x.at (j := 1) rfl) (q1x.at (j := 2) rfl)) rfl ?_
            refine EL.call (cl_14 rfl) rfl (copied_any c _ _ vs _ B (hr.below (hbw.mono hB)) (Nat.le_trans hB hbw.size) hn1 hn2 hsm) ?_
            rintro e w53 ⟨⟨vaq52, vbq52, wsq52, rfl, hoq52⟩, hc53⟩
            refine ⟨_, rfl, ?_⟩
            replace q1x := q1x.below hc53 q1x.lt
            replace q6x := q6x.below hc53 q6x.lt
            replace hbw := Below.on hbw hc53 hbw.size
            replace hbB := Below.on hbB hc53 hbB.size
            replace hbq18 := Below.on hbq18 hc53 hbq18.size
            replace hbq20 := Below.on hbq20 hc53 hbq20.size
            clear hc53
            have hrq52 := hoq52.rd
            obtain ⟨Adq52, cdq52, rfl, _⟩ := hrq52.clocks.shape
            obtain ⟨Amq52, cmq52, rfl, _⟩ := hrq52.clues.rd.shape
            have hbq52 := Below.refl w53.heap.size w53
            refine EL.val (x_move rfl) rfl ?_
            refine EL.call (cl_15 rfl) rfl (ints_any (crsBy c b c.clues.length) _ _ wx.heap.size (by rw [crsBy_len]; exact hrC.below hbB) hbB.size (by rw [crsBy_len]; omega)) ?_
            rintro e w55 ⟨⟨vlq54, rfl, holq54⟩, hc55⟩
            refine ⟨_, rfl, ?_⟩
            replace q1x := q1x.below hc55 q1x.lt
            replace q6x := q6x.below hc55 q6x.lt
            replace hbw := Below.on hbw hc55 hbw.size
            replace hbB := Below.on hbB hc55 hbB.size
            replace hbq18 := Below.on hbq18 hc55 hbq18.size
            replace hbq20 := Below.on hbq20 hc55 hbq20.size
            replace hbq52 := Below.on hbq52 hc55 hbq52.size
            clear hc55
            have hlq54 := Rd.of_own holq54
            obtain ⟨Aiq54, ciq54, rfl, _⟩ := hlq54.shape
            have hzq54 := hbq52.size
            have hbq54 := Below.refl w55.heap.size w55
            refine EL.call (cl_13 rfl rfl) rfl (proof_to (proof_fit hst hneg) _ _ wsq52 _ _ ((hrq52.below hbq52).more hzq54) hbq54.size hn1 hn2 _ (hlq54.below hbq54) (by rw [crsBy_len]; omega)) ?_
            rintro e w56 ⟨⟨vR, rr, rfl, hrd, hnil, hring⟩, hc56⟩
            refine ⟨_, rfl, ?_⟩
            replace q1x := q1x.below hc56 q1x.lt
            replace q6x := q6x.below hc56 q6x.lt
            replace hbw := Below.on hbw hc56 hbw.size
            replace hbB := Below.on hbB hc56 hbB.size
            replace hbq18 := Below.on hbq18 hc56 hbq18.size
            replace hbq20 := Below.on hbq20 hc56 hbq20.size
            replace hbq52 := Below.on hbq52 hc56 hbq52.size
            replace hbq54 := Below.on hbq54 hc56 hbq54.size
            clear hc56
            obtain rfl := hnil (by decide)
            obtain ⟨AR, cR, rfl, _⟩ := hrd.shape
            have hszRw := hbw.size
            have hszRx := hbB.size
            have hbR := Below.refl w56.heap.size w56
            refine EL.val (x_move rfl) rfl ?_
            refine EL.val (x_extract rfl rfl) rfl ?_
            refine EL.val (x_extract rfl rfl) rfl ?_
            refine EL.val (x_assign rfl) rfl ?_
            refine EL.val (x_assign rfl) rfl ?_
            refine EL.nil ?_
            refine EX.seq ?_
            refine EC.seq ?_
            refine EC.region ?_
            refine EL.val (ld_25 rfl (q6x.at (j := 0) rfl) (q6x.at (j := 1) rfl) (q6x.at (j := 2) rfl)) rfl ?_
            refine EL.call (cl_14 rfl) rfl (copied_any (bareC c b) _ _ fs _ _ (hrB.below hbB) hbB.size (by omega) (by omega) hsmB) ?_
            rintro e w58 ⟨⟨vaq57, vbq57, wsq57, rfl, hoq57⟩, hc58⟩
            refine ⟨_, rfl, ?_⟩
            replace q1x := q1x.below hc58 q1x.lt
            replace q6x := q6x.below hc58 q6x.lt
            replace hbw := Below.on hbw hc58 hbw.size
            replace hbB := Below.on hbB hc58 hbB.size
            replace hbq18 := Below.on hbq18 hc58 hbq18.size
            replace hbq20 := Below.on hbq20 hc58 hbq20.size
            replace hbq52 := Below.on hbq52 hc58 hbq52.size
            replace hbq54 := Below.on hbq54 hc58 hbq54.size
            replace hbR := Below.on hbR hc58 hbR.size
            clear hc58
            have hrq57 := hoq57.rd
            obtain ⟨Adq57, cdq57, rfl, _⟩ := hrq57.clocks.shape
            obtain ⟨Amq57, cmq57, rfl, _⟩ := hrq57.clues.rd.shape
            have hbq57 := Below.refl w58.heap.size w58
            refine EL.call (cl_21 rfl) rfl (courses_to (crs_ok (bare_ok hcb) (by rw [bare_many hcb]; decide)) ((crsRes_ok (crs_ok (bare_ok hcb) (by rw [bare_many hcb]; decide))).trans ((bare_courses hcb).trans (if_pos hfit))) _ _ wsq57 _ _ (hrq57.below hbq57) hbq57.size (by omega) (by omega)) ?_
            rintro e w59 ⟨⟨vL, us, rfl, hrL⟩, hc59⟩
            refine ⟨_, rfl, ?_⟩
            replace q1x := q1x.below hc59 q1x.lt
            replace q6x := q6x.below hc59 q6x.lt
            replace hbw := Below.on hbw hc59 hbw.size
            replace hbB := Below.on hbB hc59 hbB.size
            replace hbq18 := Below.on hbq18 hc59 hbq18.size
            replace hbq20 := Below.on hbq20 hc59 hbq20.size
            replace hbq52 := Below.on hbq52 hc59 hbq52.size
            replace hbq54 := Below.on hbq54 hc59 hbq54.size
            replace hbR := Below.on hbR hc59 hbR.size
            replace hbq57 := Below.on hbq57 hc59 hbq57.size
            clear hc59
            obtain ⟨AL, cL, rfl, _⟩ := hrL.rd.shape
            have hszL := hbB.size
            have hbL := Below.refl w59.heap.size w59
            refine EL.val (x_move rfl) rfl ?_
            refine EL.val (x_extract rfl rfl) rfl ?_
            refine EL.val (x_extract rfl rfl) rfl ?_
            refine EL.val (x_assign rfl) rfl ?_
            refine EL.val (x_assign rfl) rfl ?_
            refine EL.nil ?_
            refine EX.seq ?_
            refine EC.seq ?_
            refine EC.seq ?_
            refine EC.region ?_
            refine EL.val (x_move rfl) rfl ?_
            refine EL.val (x_neq (r := false) rfl rfl (by decide)) rfl ?_
            refine EL.val (x_move rfl) rfl ?_
            refine EL.valg rfl rfl (x_move rfl) rfl ?_
            refine EL.valg rfl rfl (x_neq (r := false) rfl rfl (by decide)) rfl ?_
            refine EL.val (x_pick_f rfl rfl) rfl ?_
            refine EL.nil ?_
            refine EX.seq ?_
            refine EC.no rfl ?_
            refine EC.skip ?_
            refine EX.seq ?_
            refine EC.seq ?_
            refine EC.seq ?_
            refine EC.region ?_
            refine EL.val (x_move rfl) rfl ?_
            refine EL.nil ?_
            refine EX.seq ?_
            refine EC.yes rfl ?_
            refine EC.seq ?_
            refine EC.region ?_
            refine EL.val (x_move rfl) rfl ?_
            refine EL.val (x_eql (r := true) rfl rfl (decide_eq_true rfl)) rfl ?_
            refine EL.val (x_move rfl) rfl ?_
            refine EL.valg rfl rfl (x_move rfl) rfl ?_
            refine EL.valg rfl rfl (ln_29 rfl) rfl ?_
            refine EL.valg rfl rfl (x_eql (r := true) rfl rfl (decide_eq_true rfl)) rfl ?_
            refine EL.val (x_pick_t rfl rfl) rfl ?_
            refine EL.val (x_move rfl) rfl ?_
            refine EL.valg rfl rfl (x_move rfl) rfl ?_
            refine EL.valg rfl rfl (ln_41 rfl) rfl ?_
            refine EL.valg rfl rfl (x_eql (r := true) rfl rfl (decide_eq_true rfl)) rfl ?_
            refine EL.val (x_pick_t rfl rfl) rfl ?_
            refine EL.val (x_move rfl) rfl ?_
            refine EL.valg rfl rfl (x_move rfl) rfl ?_
            obtain ⟨bC, oC, e7_, _, hc0⟩ := rdll_cell hrL 0 (Nat.zero_lt_one)
            subst e7_
            have hr0 := hrL.row 0 (Nat.zero_lt_one)
            obtain ⟨A0, c0, e8_, _⟩ := hr0.shape
            rw [e8_] at hc0 hr0
            rw [← ints_flat] at hr0
            ·
              refine EL.valg rfl rfl (ix_41 (k := 0) rfl rfl Nat.zero_lt_one) rfl ?_
              refine EL.valg rfl rfl (ld_26 rfl (below_load hbL hc0)) rfl ?_
              refine EL.valg rfl rfl (x_move rfl) rfl ?_
              refine EL.callg rfl rfl (cl_29 rfl rfl) rfl (equal_same (zeros c.clues.length) _ _ _ _ ((hr0.below hbL).more (Nat.le_refl _)) (by rw [zeros_len]; exact ((hrF.below hbB).more hszL)) hbL.size (by rw [zeros_len]; omega)) ?_
              rintro e w60 ⟨rfl, hc60⟩
              refine ⟨_, rfl, ?_⟩
              replace q1x := q1x.below hc60 q1x.lt
              replace q6x := q6x.below hc60 q6x.lt
              replace hbw := Below.on hbw hc60 hbw.size
              replace hbB := Below.on hbB hc60 hbB.size
              replace hbq18 := Below.on hbq18 hc60 hbq18.size
              replace hbq20 := Below.on hbq20 hc60 hbq20.size
              replace hbq52 := Below.on hbq52 hc60 hbq52.size
              replace hbq54 := Below.on hbq54 hc60 hbq54.size
              replace hbR := Below.on hbR hc60 hbR.size
              replace hbq57 := Below.on hbq57 hc60 hbq57.size
              replace hbL := Below.on hbL hc60 hbL.size
              clear hc60
              refine EL.val (x_pick_t rfl rfl) rfl ?_
              refine EL.val (x_move rfl) rfl ?_
              refine EL.callg rfl rfl cl_12 rfl (known_any _) ?_
              rintro e w61 ⟨rfl, hc61⟩
              refine ⟨_, rfl, ?_⟩
              replace q1x := q1x.below hc61 q1x.lt
              replace q6x := q6x.below hc61 q6x.lt
              replace hbw := Below.on hbw hc61 hbw.size
              replace hbB := Below.on hbB hc61 hbB.size
              replace hbq18 := Below.on hbq18 hc61 hbq18.size
              replace hbq20 := Below.on hbq20 hc61 hbq20.size
              replace hbq52 := Below.on hbq52 hc61 hbq52.size
              replace hbq54 := Below.on hbq54 hc61 hbq54.size
              replace hbR := Below.on hbR hc61 hbR.size
              replace hbq57 := Below.on hbq57 hc61 hbq57.size
              replace hbL := Below.on hbL hc61 hbL.size
              clear hc61
              refine EL.val (x_pick_t rfl rfl) rfl ?_
              refine EL.val (x_assign rfl) rfl ?_
              refine EL.nil ?_
              refine EX.seq ?_
              refine EC.ret ?_
              refine EX.seq_ret ?_
              exact EX.done (res1 rfl rfl) ⟨rfl, hbw⟩
    ·
      refine EL.callg rfl rfl (cl_25 rfl) rfl (check_bad hcb _ _ wsq2 _ _ (hrq2.below hbq2) hbq2.size hn1 hn2) ?_
      rintro e w62 ⟨rfl, hc62⟩
      refine ⟨_, rfl, ?_⟩
      replace q1 := q1.below hc62 q1.lt
      replace hbw := Below.on hbw hc62 hbw.size
      replace hbq2 := Below.on hbq2 hc62 hbq2.size
      clear hc62
      refine EL.valg rfl rfl (x_neq (r := true) rfl rfl (by decide)) rfl ?_
      refine EL.val (x_pick_f rfl rfl) rfl ?_
      refine EL.nil ?_
      refine EX.seq ?_
      refine EC.yes rfl ?_
      refine EC.seq ?_
      refine EC.region ?_
      refine EL.call cl_12 rfl (known_any _) ?_
      rintro e w63 ⟨rfl, hc63⟩
      refine ⟨_, rfl, ?_⟩
      replace q1 := q1.below hc63 q1.lt
      replace hbw := Below.on hbw hc63 hbw.size
      replace hbq2 := Below.on hbq2 hc63 hbq2.size
      clear hc63
      refine EL.val (x_assign rfl) rfl ?_
      refine EL.nil ?_
      refine EX.seq ?_
      refine EC.ret ?_
      refine EX.seq_ret ?_
      exact EX.done (res1 rfl rfl) ⟨rfl, hbw⟩
  ·
    refine ⟨_, rfl, ?_⟩
    replace q1 := q1.below hcB q1.lt
    replace hbw := Below.on hbw hcB hbw.size
    clear hcB
    refine EL.val (x_move rfl) rfl ?_
    refine EL.skip rfl rfl rfl rfl ?_
    refine EL.skip rfl rfl rfl rfl ?_
    refine EL.skip rfl rfl rfl rfl ?_
    refine EL.skip rfl rfl rfl rfl ?_
    refine EL.val (x_pick_t rfl rfl) rfl ?_
    refine EL.nil ?_
    refine EX.seq ?_
    refine EC.yes rfl ?_
    refine EC.seq ?_
    refine EC.region ?_
    refine EL.call cl_12 rfl (known_any _) ?_
    rintro e w64 ⟨rfl, hc64⟩
    refine ⟨_, rfl, ?_⟩
    replace q1 := q1.below hc64 q1.lt
    replace hbw := Below.on hbw hc64 hbw.size
    clear hc64
    refine EL.val (x_assign rfl) rfl ?_
    refine EL.nil ?_
    refine EX.seq ?_
    refine EC.ret ?_
    refine EX.seq_ret ?_
    exact EX.done (res1 rfl rfl) ⟨rfl, hbw⟩
end Go.Proofs.Ytmaiiigijjfjfaa
namespace Go.Proofs.Ytmaiiigijjfjfaa
open Go Go.ChangeShapes Go.WideShapes Go.Deep Go.RowKit Go.Joins
section
variable {H : Type} {enc : TypeId × Value → H} {w : World} {base : Nat} {spare : Nat → Bool} {held : Bool}
theorem co_5 : Try.prog.cellsOf 5 = 1 := by kernel_rfl
theorem flat_u8s : ∀ l : List Int, l.flatMap (fun x => [Value.int .u8 x]) = u8s l
  | [] => rfl
  | x :: l => by
    have := flat_u8s l
    simp only [u8s, List.flatMap_cons, List.map_cons, List.singleton_append] at this ⊢
    rw [this]
theorem rd_u8s {fuel : Nat} {v : Value} {x : DataW H × List MemPlace} (h : DataW.trod enc Try.prog w base spare held fuel 63 [v] = some x) : ∃ l : List Int, Rd w w.heap.size 1 v l.length (u8s l) ∧ (∀ y ∈ l, 0 ≤ y ∧ y ≤ 255) ∧ l.length ≤ maxLen := by
  obtain ⟨l, h1, h3, h2⟩ := rd_list (α := Int) (s := 1) (f := fun x => [Value.int .u8 x]) (Good := fun x => 0 ≤ x ∧ x ≤ 255) (fun _ => rfl) (by omega) Try.underlying63 co_5 (fun _ cs _ hl ht => by
    match cs, hl with
    | [u], _ =>
      obtain ⟨z, hz, _, wf⟩ := DataW.trod_int Try.underlying5 ht
      injection hz with hz
      subst hz
      exact ⟨z, rfl, wf_u8 wf⟩) h
  rw [flat_u8s] at h1
  exact ⟨l, h1, h3, h2⟩
end
end Go.Proofs.Ytmaiiigijjfjfaa
