/- X15, ExX16, X16, LkKnown, ExX17, X17, ExX18, X18, ExX19, X19: what LockDaysProof needs of them (merged by trimpack.py). -/
import Derived.Test.YtlbfnimilcnihaaDaysT6
set_option linter.unusedVariables false
set_option linter.unusedSimpArgs false
namespace Go.Proofs.Ytlbfnimilcnihaa
open Go Go.RowKit
theorem run_eqlS {P : Program} {w : World} {t e : TypeId} {b o m c : Nat} (ht : P.underlying t = some (.slice e)) : (binOp .eql t (.slice (some ⟨b, o, none⟩) m c) (.slice none 0 0)).run P w = .ok (.bool false) w := by
 have h : ∀ d : Nat, (Op.equalIn (d + 1) t (.slice (some ⟨b, o, none⟩) m c) (.slice none 0 0)).run P w = .ok false w := fun d => by
  simp [Op.equalIn, run_underlying ht]
 simp only [binOp]
 simp [Op.equal, Op.maxDepth, h 9999]
theorem x_eqlS {P : Program} {n : Nat} {σ : Sg} {w : World} {dst : Option Tmp} {ty t t' e : TypeId} {pos : String} {af : Array Edge} {g : Option (Nat × Bool)} {x y : Operand} {b o m c : Nat} (ht : P.underlying t = some (.slice e)) (hx : evS σ x = some (.slice (some ⟨b, o, none⟩) m c)) (hy : evS σ y = some (.slice none 0 0)) : Gives P n σ w ⟨dst, .binOp .eql t x y t', ty, pos, af, g⟩ (.bool false) := fun a ha => by
 simp only [execOp, ha.eval hx, ha.eval hy]
 simp [run_eqlS ht, Result.andThen, eqGuard, ha.eval hx, ha.eval hy]
theorem EL.copy {P : Program} {n : Nat} {L : List Oper} {Q : Exit → Act → World → Prop} {rest : List Oper} {σ : Sg} {w : World} {d ty t e size bytes base B mm g : Nat} {s x : Operand} {pos : String} {af : Array Edge} (E : Elem P t e size bytes) {src : Value} {news : List Value} (hs : evS σ s = some (.slice (some ⟨g, 0, none⟩) 0 0)) (hx : evS σ x = some src)
  (hq : Blk w g e #[]) (hg : base ≤ g) (hr : Rd w B size src mm news) (h1 : ∀ u ∈ news, u.oneCell' = true) (hm : mm ≤ 1048576) (hby : bytes ≤ 1048576) (hbase : base ≤ w.heap.size) (hd : Nat.blt d n = true)
  (next : ∀ v' w', w'.ownsRow base e size v' mm news → Below w.heap.size w w' → EL P n L Q rest (ins σ d v') w') : EL P n L Q (⟨some d, .call { callee := .builtin .append, args := #[s, x], argTypes := #[t, t] }, ty, pos, af, none⟩ :: rest) σ w := fun a ha => by
 obtain ⟨v', w', h2, h3, h4⟩ := run_copy (P := P) (ty := ty) E hq hg hr h1 hm hby hbase
 exact wpL_run (wanted_none rfl _) (run_append_call rfl (ha.eval hs) (ha.eval hx) h2) (next v' w' h3 h4 _ (ha.put hd _))
theorem bd_info : (Try.prog.info? 67).map (fun i => (i.zero, i.size, i.bytes)) = some (some (.agg #[.int .i64 0, .int .i64 0]), 2, 16) := by kernel_rfl
theorem bd_elem : Elem Try.prog 73 67 2 16 := Elem.mk' Try.underlying73 bd_info rfl (by omega)
theorem bl_info : (Try.prog.info? 73).map (fun i => (i.zero, i.size, i.bytes)) = some (some (.slice none 0 0), 1, 24) := by kernel_rfl
theorem bl_elem : Elem Try.prog 61 73 1 24 := Elem.mk' Try.underlying61 bl_info rfl (by omega)
theorem CloneB_any {l : List Bd} {g c : Nat} {w : World} {B : Nat} (hr : Rd w B 2 (.slice (some ⟨g, 0, none⟩) l.length c) l.length (bdsC l)) (hB : B ≤ w.heap.size) (hn : l.length ≤ 1000) :
  Calls Try.prog 49 #[.slice (some ⟨g, 0, none⟩) l.length c] w fun e w' => (∃ v, e = .returned v ∧ w'.ownsRow w.heap.size 67 2 v l.length (bdsC l)) ∧ Below w.heap.size w w' := by
 have hbw := Below.refl w.heap.size w;refine EC.enter 8 Try.func49 rfl rfl rfl (EC.seq (EC.region (EL.as rfl rfl (EL.nil (EX.seq (EC.seq (EC.seq (EC.region (EL.mv rfl rfl ?_)))))))));refine EL.val (x_eqlS Try.underlying73 rfl rfl) rfl (EL.nil (EX.seq (EC.no rfl (EC.skip (EX.seq (EC.seq (EC.region ?_)))))));have hsz := hbw.size;refine EL.newS bs_73_0 rfl ?_;intro g1 w1 q1 hb1 hg1 hl1;have bhbw_1 := Nat.le_trans hbw.size hg1;replace hbw := bo_ hbw hb1;clear hb1 hl1;have hsz2 := hbw.size;refine EL.mv rfl rfl ?_;refine EL.copy bd_elem rfl rfl (base := w.heap.size) q1 (Nat.le_trans hsz hg1) (hr.below (hbw.mono hB)) (bdsC_one l) (by omega) (by omega) hbw.size rfl ?_
 intro v2 w2 ho hb2;replace hbw := bo_ hbw hb2;clear hb2;refine EL.as rfl rfl (EL.nil (EX.seq (EC.ret ?_)))
 exact EX.done (res1 rfl rfl) ⟨⟨_, rfl, ho⟩, hbw⟩
theorem made_bd (n : Nat) : (madeCells (Value.agg #[.int .i64 0, .int .i64 0]).cells (n * 2)).toList = bdsC (List.replicate n bd0) := by
 have h1 : bdsC (List.replicate n bd0) = List.replicate (n * 2) (.int .i64 0) := by
  induction n with
  | zero => rfl
  | succ n ih =>
   rw [List.replicate_succ, Nat.succ_mul, List.replicate_succ', List.replicate_succ', ← ih];have e : ∀ m, List.replicate m (Value.int .i64 0) ++ [.int .i64 0] = .int .i64 0 :: List.replicate m (.int .i64 0) := fun m => by rw [← List.replicate_succ', List.replicate_succ]
   rw [ih, e, List.cons_append, e, ← ih]
   rfl
 rw [h1]
 apply List.ext_getElem?
 intro i
 by_cases h : i < n * 2
 ·have h2 : i % 2 = 0 ∨ i % 2 = 1 := by omega
  rcases h2 with h2 | h2 <;> simp [madeCells, Value.cells, h, h2]
 ·simp [madeCells, h]
theorem EL.makeB {n : Nat} {L : List Oper} {Q : Exit → Act → World → Prop} {rest : List Oper} {σ : Sg} {w : World} {d ty base m : Nat} {x : Operand} {pos : String} {af : Array Edge} (hx : evS σ x = some (.int .i64 (m : Nat))) (hm : m ≤ 1048576) (hbase : base ≤ w.heap.size) (hd : Nat.blt d n = true)
  (next : ∀ g w', w'.ownsRow base 67 2 (.slice (some ⟨g, 0, none⟩) m m) m (bdsC (List.replicate m bd0)) → Below w.heap.size w w' → w.heap.size ≤ g → EL Try.prog n L Q rest (ins σ d (.slice (some ⟨g, 0, none⟩) m m)) w') : EL Try.prog n L Q (⟨some d, .makeSlice 73 x x, ty, pos, af, none⟩ :: rest) σ w := by
 intro a ha;obtain ⟨i0, hi, hz, hs, hb⟩ := info_parts bd_info;obtain ⟨w', h1, h2, h3⟩ := run_make_full (P := Try.prog) (w := w) base 73 67 i0 (.agg #[.int .i64 0, .int .i64 0]) 2 Try.underlying73 hi hz hs .i64 .i64 m (by rw [hb]; omega) (by unfold maxLen; omega) hbase
 rw [made_bd] at h2;refine wpL_run (wanted_none rfl _) (w' := w') (v := .slice (some ⟨w.heap.size, 0, none⟩) m m) ?_ (next _ _ h2 ((Below.refl w.heap.size w).grown h3 (Nat.le_refl _) fun g h => by cases h) (Nat.le_refl _) _ (ha.put hd _))
 simp only [execOp, ha.eval hx, Sem.run_bind, h1, Result.andThen_ok]
 rfl
/-- lists of bounds of one's own -/
structure OwnLL (w : World) (base : Nat) (sl : Value) (us : List Value) (ls : List (List Bd)) : Prop where
 len : us.length = ls.length
 rd : w.ownsRow base 73 1 sl ls.length us
 row : ∀ i, i < ls.length → w.ownsRow base 67 2 (us.getD i undef) (ls.getD i []).length (bdsC (ls.getD i []))
section
variable {w w' : World} {base : Nat} {sl : Value} {us : List Value} {ls : List (List Bd)}
theorem OwnLL.below (h : OwnLL w base sl us ls) (hb : Below w.heap.size w w') : OwnLL w' base sl us ls := ⟨h.len, own_below h.rd hb (Nat.le_refl _), fun i hi => own_below (h.row i hi) hb (Nat.le_refl _)⟩
theorem OwnLL.box {g T : Nat} {cs : Array Value} (h : OwnLL w base sl us ls) (hq : Blk w g T cs) (h1 : Nat.beq T 73 = false) (h2 : Nat.beq T 67 = false) (hg : w.grownBy w' (some g)) : OwnLL w' base sl us ls := ⟨h.len, own_type h.rd hq h1 hg, fun i hi => own_type (h.row i hi) hq h2 hg⟩
theorem OwnLL.apart {g : Nat} (h : OwnLL w base sl us ls) (hg : w.heap.size ≤ g) : (∀ b, sl.ownBlock = some b → b ≠ g) ∧ ∀ i, i < ls.length → ∀ b, (us.getD i undef).ownBlock = some b → b ≠ g :=
 ⟨fun b hb => Nat.ne_of_lt (Nat.lt_of_lt_of_le (h.rd.lt b hb).2 hg), fun i hi b hb => Nat.ne_of_lt (Nat.lt_of_lt_of_le ((h.row i hi).lt b hb).2 hg)⟩
theorem OwnLL.kept {g : Nat} (h : OwnLL w base sl us ls) (hg : w.grownBy w' (some g)) (ha : (∀ b, sl.ownBlock = some b → b ≠ g) ∧ ∀ i, i < ls.length → ∀ b, (us.getD i undef).ownBlock = some b → b ≠ g) : OwnLL w' base sl us ls :=
 ⟨h.len, row_kept h.rd hg (fun b hb e => ha.1 b hb (Option.some.inj e).symm), fun i hi => row_kept (h.row i hi) hg (fun b hb e => ha.2 i hi b hb (Option.some.inj e).symm)⟩
end
theorem OwnLL.push {w w' : World} {base d : Nat} {sl vo v : Value} {us : List Value} {x : List LR} {y : List LT} (h : OwnLL w base sl us (daysL x y d)) (hrd : w.ownsRow base 73 1 sl d us) (hn : w.ownsRow base 67 2 v x.length (bdsC (volL x y (d + 1)))) (ho : w'.ownsRow base 73 1 vo (d + 1) (us ++ [v])) (hg : w.grownBy w' sl.ownBlock) : OwnLL w' base vo (us ++ [v]) (daysL x y (d + 1)) := by
 have hl := h.len;rw [daysL_len] at hl;refine ⟨by rw [List.length_append, daysL_len, hl]; rfl, by rw [daysL_len]; exact ho, fun i hi => ?_⟩
 rw [daysL_len] at hi
 by_cases e : i < d
 ·have h1 := h.row i (by rw [daysL_len]; exact e)
  rw [daysL_at e] at h1;rw [daysL_at hi, app_at (by omega)]
  exact own_grown h1 hrd rfl hg
 ·obtain rfl : i = d := by omega
  rw [daysL_at hi, volL_len];have e2 : (us ++ [v]).getD i undef = v := by
   have := app_at2 (a := us) (b := [v]) (d := undef) (n := 0);rw [hl] at this
   exact this
  rw [e2]
  exact own_grown hn hrd rfl hg
set_option maxHeartbeats 1000000 in
set_option maxRecDepth 100000 in
theorem Days_any {x : List LR} {y : List LT} {vx vy : Value} {days : Int} {w : World} {B : Nat} (hx : Rd w B 4 vx x.length (lrsC x)) (hy : Rd w B 3 vy y.length (ltsC y)) (hB : B ≤ w.heap.size) (hyn : y.length ≤ 9223372036854775806) :
  Calls Try.prog 26 #[vx, vy, .int .i64 days] w fun e w' => ∃ sl us, e = .returned (.tuple #[sl, .int .i64 (chE x y days)]) ∧ (chE x y days = 0 → OwnLL w' w.heap.size sl us (daysL x y days.toNat)) ∧ (chE x y days ≠ 0 → sl = .slice none 0 0) ∧ Below w.heap.size w w' := by
 obtain ⟨Ax, cx, rfl, _⟩ := hx.shape;obtain ⟨Ay, cy, rfl, _⟩ := hy.shape;have hbw := Below.refl w.heap.size w;refine EC.enter 102 Try.func26 rfl rfl rfl (EC.seq (EC.region (EL.as rfl rfl (EL.as rfl rfl (EL.nil (EX.seq (EC.seq (EC.seq (EC.region ?_)))))))));refine EL.mv rfl rfl (EL.mv rfl rfl (EL.mv rfl rfl (EL.call (cA3 cF48 rfl rfl rfl) rfl (checkChain_any (hx.below (hbw.mono hB)) (hy.below (hbw.mono hB)) (Nat.le_trans hB hbw.size) hyn) ?_)))
 rintro e w1 ⟨rfl, hc1⟩
 refine ⟨_, rfl, ?_⟩;replace hbw := bo_ hbw hc1;clear hc1;refine EL.as rfl rfl (EL.nil (EX.seq (EC.seq (EC.region (EL.mv rfl rfl ?_)))))
 by_cases he : chE x y days = 0
 ·
  have hch := chE_zero he;have hxn := hch.n10;have hyl := hch.yl;obtain ⟨N, rfl⟩ : ∃ N : Nat, days = N := ⟨days.toNat, (Int.toNat_of_nonneg hch.days.1).symm⟩;have hN := hch.days.2;obtain ⟨n, hn⟩ : ∃ n, n = x.length := ⟨_, rfl⟩;refine EL.val (x_neq (r := false) rfl rfl (decide_eq_false (by omega))) rfl ?_
  refine EL.nil (EX.seq (EC.no rfl (EC.skip (EX.seq (EC.seq (EC.region (EL.mv rfl rfl (EL.val (ln_59 rfl) rfl ?_))))))));refine EL.makeB (base := w.heap.size) rfl (by omega) hbw.size rfl ?_
  intro gn w2 hnw hb2 hgn;rw [← firstL_zero x y] at hnw;replace hbw := bo_ hbw hb2;clear hb2;refine EL.as rfl rfl (EL.nil (EX.seq (EC.seq (EC.seq (EC.region (EL.mv rfl rfl (EL.val (ln_59 rfl) rfl (EL.mv rfl rfl (EL.nil ?_)))))))));refine EX.seq (EC.block ?_);refine EC.loopD [10, 11, 28, 29, 30, 31, 32, 33, 34, 35, 36, 37, 38, 39, 40, 41] (fun k : Nat => [(28, .int .i64 (k : Nat))]) (fun k W => k ≤ x.length ∧ W.ownsRow w.heap.size 67 2 (.slice (some ⟨gn, 0, none⟩) x.length x.length) x.length (bdsC (firstL x y k)) ∧ Below w.heap.size w W) (fun k => x.length - k) 0 ⟨Nat.zero_le _, hnw, hbw⟩ ⟨rfl, trivial⟩ ?_
  clear hnw hbw
  rintro k wk ⟨hk, hnw, hbw⟩
  by_cases hltk : k < x.length
  ·
   obtain ⟨b, o, rfl, _, cc⟩ := lrs_cells x k hltk w B _ _ _ hx;refine EC.seq (EC.region ?_);refine EL.val (x_lss (r := true) rfl rfl (decide_eq_true (by omega))) rfl ?_
   refine EL.nil (EX.seq (EC.seq (EC.yes rfl (EC.skip (EX.seq (EC.seq (EC.block (EC.seq (EC.region ?_)))))))));refine EL.mv rfl rfl (EL.val (ix_59 rfl rfl hltk) rfl (EL.val (ld_69 rfl (below_load hbw cc.c0) (below_load hbw cc.c1) (below_load hbw cc.c2) (below_load hbw cc.c3)) rfl (EL.newP al_69 rfl ?_)));intro g3 w3 q3 hb3 hg3 hl3;have bhbw_3 := Nat.le_trans hbw.size hg3;replace hnw := own_below hnw hb3 (Nat.le_refl _);replace hbw := bo_ hbw hb3;clear hb3 hg3 hl3;refine EL.as rfl rfl (EL.store rfl rfl q3 sz_69 rfl rfl rfl rfl ?_);intro w4 hq4 hg4;replace hnw := own_type hnw q3 rfl hg4;replace hbw := below_store hbw hg4 bhbw_3;replace q3 := hq4;clear hg4 hq4;refine EL.nil (EX.seq (EC.region (EL.mv rfl rfl (EL.mv rfl rfl (EL.val (fa_69_0 rfl) rfl (EL.val (ld_3 rfl (q3.at (j := 0) rfl)) rfl (EL.val (fa_69_0 rfl) rfl (EL.val (ld_3 rfl (q3.at (j := 0) rfl)) rfl (EL.val (bd_67_0_1 rfl rfl) rfl ?_)))))))));refine EL.val (ix_73 rfl rfl hltk) rfl ?_;refine EL.storeRow (l' := [.int .i64 (x.getD k lr0).vol, .int .i64 (x.getD k lr0).vol]) rfl rfl hnw sz_67 rfl rfl (by rw [bdsC_len, firstL_len]; omega) rfl ?_
   intro w5 ho2 hgr;rw [Nat.zero_add] at ho2;replace ho2 := cast_row ho2 (spl_flat bdC_len _ _ (by rw [firstL_len]; omega) ⟨(x.getD k lr0).vol, (x.getD k lr0).vol⟩)
   rw [← volD_zero x y k, firstL_succ hltk] at ho2;replace q3 := q3.grown hgr (fun h => row_ne2 hnw q3 rfl (Option.some.inj h))
   replace hbw := hbw.trans (below_row hnw hgr hbw.size);clear hnw hgr;have hnw := ho2;clear ho2;refine EL.nil (EX.blk (EX.seq (EC.region ?_)));refine EL.val (x_add rfl rfl (c := ((k + 1 : Nat) : Int)) ((IntWalk.i64_in _ ⟨by first | omega | (simp only; omega), by first | omega | (simp only; omega)⟩).trans (by first | omega | (simp only; omega)))) rfl ?_
   refine EL.mv rfl rfl (EL.nil ?_);refine EX.roundD (k + 1) ⟨rfl, trivial⟩ (by repeat first | with_reducible exact .refl _ | refine sp_ rfl ?_ | exact .refl _ | refine sd_ rfl ?_ | refine sn_ ?_) ⟨hltk, hnw, hbw⟩ (by omega)
  ·
   obtain rfl : k = x.length := by omega
   rw [firstL_all] at hnw;refine EC.seq (EC.region ?_);refine EL.val (x_lss (r := false) rfl rfl (decide_eq_false (by omega))) rfl ?_
   refine EL.nil (EX.seq (EC.seq (EC.no rfl (EC.exit (EX.seq_exit (EX.seq_exit (EX.blk_here (EX.seq (EC.seq ?_)))))))));refine EC.seq (EC.region (EL.mv rfl rfl (EL.mv rfl rfl (EL.nil (EX.seq (EC.block ?_))))));have hout : OwnLL wk w.heap.size (.slice none 0 0) [] (daysL x y 0) := ⟨rfl, own_nil _ _ _ _, fun i hi => absurd hi (Nat.not_lt_zero i)⟩
   refine EC.loopD [6, 9, 12, 13, 14, 15, 43, 44, 45, 46, 47, 48, 49, 50, 51, 52, 53, 54, 55, 56, 57, 58, 59, 60, 61, 62, 63, 64, 65, 66, 67, 68, 69, 70, 71, 72, 73, 74, 75, 76, 77, 78, 79, 80, 81, 82, 83, 84, 85, 86, 87, 88, 89, 90, 91, 92, 93, 94, 95, 96, 97, 98, 99, 100] (fun x_ : Nat × Value × Value × List Value => [(43, .int .i64 (x_.1 : Nat)), (9, x_.2.1), (6, x_.2.2.1)]) (fun x_ W => x_.1 ≤ N ∧ W.ownsRow w.heap.size 67 2 (x_.2.1) x.length (bdsC (volL x y x_.1)) ∧ OwnLL W w.heap.size x_.2.2.1 x_.2.2.2 (daysL x y x_.1) ∧ Below w.heap.size w W) (fun x_ => N - x_.1) (0, .slice (some ⟨gn, 0, none⟩) x.length x.length, .slice none 0 0, []) ⟨Nat.zero_le _, hnw, hout, hbw⟩ ⟨rfl, rfl, rfl, trivial⟩ ?_
   clear hnw hout hbw
   rintro ⟨dd, vn, so, us⟩ wk ⟨hk, hnw, hout, hbw⟩
   dsimp only at hk hnw hout
   obtain ⟨gv, cv, rfl⟩ := own_at0 hnw (by omega)
   by_cases hltd : dd < N
   ·
    refine EC.seq (EC.region ?_);refine EL.val (x_lss (r := true) rfl rfl (decide_eq_true (by omega))) rfl ?_
    refine EL.nil (EX.seq (EC.seq (EC.yes rfl (EC.skip (EX.seq (EC.seq (EC.block (EC.seq (EC.region ?_)))))))));refine EL.mv rfl rfl ?_;have hrv := Rd.of_own hnw;have hvl := volL_len x y dd;rw [← hvl] at hrv;refine EL.call (cA1 cF49 rfl) rfl (by have h_ := CloneB_any hrv (Nat.le_refl _) (by omega); rw [hvl] at h_; exact h_) ?_
    rintro e w6 ⟨⟨v9, rfl, hnc⟩, hc6⟩
    refine ⟨_, rfl, ?_⟩;obtain ⟨gc, cc9, rfl⟩ := own_at0 hnc (by omega)
    have hgc := (hnc.lt _ rfl).1;have hap := hout.apart hgc;replace hnc := own_mono hnc hbw.size;rw [← infL_zero] at hnc;clear hrv;replace hout := hout.below hc6;replace hbw := bo_ hbw hc6;clear hc6 hnw;refine EL.as rfl rfl (EL.nil (EX.seq (EC.seq (EC.seq (EC.region (EL.mv rfl rfl (EL.val (ln_59 rfl) rfl (EL.mv rfl rfl (EL.nil ?_)))))))));refine EX.seq (EC.block ?_);refine EC.loopD [12, 13, 49, 50, 51, 52, 53, 54, 55, 56, 57, 58, 59, 60, 61, 62, 63, 64] (fun k : Nat => [(49, .int .i64 (k : Nat))]) (fun k W => k ≤ x.length ∧ W.ownsRow w.heap.size 67 2 (.slice (some ⟨gc, 0, none⟩) x.length cc9) x.length (bdsC (infL x y dd k)) ∧ OwnLL W w.heap.size so us (daysL x y dd) ∧ Below w.heap.size w W) (fun k => x.length - k) 0 ⟨Nat.zero_le _, hnc, hout, hbw⟩ ⟨rfl, trivial⟩ ?_
    clear hnc hout hbw
    rintro k wj49 ⟨hkj, hnc, hout, hbw⟩
    by_cases hltk : k < x.length
    ·
     obtain ⟨b, o, rfl, _, cc⟩ := lrs_cells x k hltk w B _ _ _ hx;have hm1 := (mid_day hch hltk (show dd ≤ 60 by omega)).mono (show (100000000000000 : Int) ≤ 1000000000000000 by omega)
     have hm2 := (lr_mid (hch.lr _ (getD_mem hltk lr0))).2.mono (show (1000000000000 : Int) ≤ 1000000000000000 by omega)
     refine EC.seq (EC.region ?_);refine EL.val (x_lss (r := true) rfl rfl (decide_eq_true (by omega))) rfl ?_
     refine EL.nil (EX.seq (EC.seq (EC.yes rfl (EC.skip (EX.seq (EC.seq (EC.block (EC.seq (EC.region ?_)))))))));refine EL.mv rfl rfl (EL.val (ix_59 rfl rfl hltk) rfl (EL.val (ld_69 rfl (below_load hbw cc.c0) (below_load hbw cc.c1) (below_load hbw cc.c2) (below_load hbw cc.c3)) rfl (EL.newP al_69 rfl ?_)));intro g7 w7 q7 hb7 hg7 hl7;have bhbw_7 := Nat.le_trans hbw.size hg7;replace hnc := own_below hnc hb7 (Nat.le_refl _);replace hout := hout.below hb7;replace hbw := bo_ hbw hb7;clear hb7 hg7 hl7;refine EL.as rfl rfl (EL.store rfl rfl q7 sz_69 rfl rfl rfl rfl ?_);intro w8 hq8 hg8;replace hnc := own_type hnc q7 rfl hg8;replace hout := hout.box q7 rfl rfl hg8;replace hbw := below_store hbw hg8 bhbw_7;replace q7 := hq8;clear hg8 hq8;refine EL.nil (EX.seq ?_);obtain ⟨bn, on, eb_, _, cn⟩ := bds_cells _ k (by rw [infL_len]; exact hltk) _ _ _ _ _ (Rd.of_own hnc)
     injection eb_ with eb_
     injection eb_ with eb1_ eb2_
     subst eb1_ eb2_;rw [infL_at hltk] at cn;have lt_7 := q7.lt;refine EC.regionP [[], [], [], [], [2, 3], [2, 3, 4], [], [6], [2, 3, 4, 5, 6, 7], [0, 1, 2, 3, 4, 5, 6, 7, 8], [0, 1, 2, 3, 4, 5, 6, 7, 8, 9]] 9 [] (phi (fun i_ r => match i_ with | 0 => r 0 = .slice (some ⟨gc, 0, none⟩) x.length cc9 | 1 => r 1 = .int .i64 (k : Nat) | 2 => r 2 = .slice (some ⟨gc, 0, none⟩) x.length cc9 | 3 => r 3 = .int .i64 (k : Nat) | 4 => r 4 = .pointer (some ⟨gc, 0 + k * 2, none⟩) | 5 => r 5 = .agg #[.int .i64 ((volD x y k dd)).lo, .int .i64 ((volD x y k dd)).hi] | 6 => r 6 = .pointer (some ⟨g7, 2, none⟩) | 7 => r 7 = .agg #[.int .i64 (x.getD k lr0).inf.lo, .int .i64 (x.getD k lr0).inf.hi] | 8 => r 8 = .agg #[.int .i64 (plusB (volD x y k dd) (x.getD k lr0).inf).lo, .int .i64 (plusB (volD x y k dd) (x.getD k lr0).inf).hi] | _ => True) []) (by kernel_rfl) rfl rfl (phi_nil) (fun i_ hi_ => ?_) ?_
     ·match i_, hi_ with
      | 0, _ =>
       intro val w1 a hb ha hd;have ha := ha.s0 (d := 9) rfl
       exact hs_val ha rfl rfl (x_move rfl) rfl rfl
      | 1, _ =>
       intro val w1 a hb ha hd;have ha := ha.s0 (d := 12) rfl
       exact hs_val ha rfl rfl (x_move rfl) rfl rfl
      | 2, _ =>
       intro val w1 a hb ha hd;have ha := ha.s0 (d := 9) rfl
       exact hs_val ha rfl rfl (x_move rfl) rfl rfl
      | 3, _ =>
       intro val w1 a hb ha hd;have ha := ha.s0 (d := 12) rfl
       exact hs_val ha rfl rfl (x_move rfl) rfl rfl
      | 4, _ =>
       intro val w1 a hb ha hd;have e2 : val 2 = _ := hd 2 (memB_mem.1 rfl);have e3 : val 3 = _ := hd 3 (memB_mem.1 rfl);have ha := ha.s2 (d := 57) (e := 56) rfl e3 rfl e2
       exact hs_val ha rfl rfl (ix_73 rfl rfl hltk) rfl rfl
      | 5, _ =>
       intro val w1 a hb ha hd;have e4 : val 4 = _ := hd 4 (memB_mem.1 rfl);have ha := ha.s1 (d := 58) rfl e4
       exact hs_val ha rfl rfl (ld_67 rfl (below_load hb cn.c0) (below_load hb cn.c1)) rfl rfl
      | 6, _ =>
       intro val w1 a hb ha hd;have ha := ha.s0 (d := 13) rfl
       exact hs_val ha rfl rfl (fa_69_2 rfl) rfl rfl
      | 7, _ =>
       intro val w1 a hb ha hd;have e6 : val 6 = _ := hd 6 (memB_mem.1 rfl);have ha := ha.s1 (d := 60) rfl e6
       exact hs_val ha rfl rfl (ld_67 rfl ((q7.below hb q7.lt).at (j := 2) rfl) ((q7.below hb q7.lt).at (j := 3) rfl)) rfl rfl
      | 8, _ =>
       intro val w1 a hb ha hd;have e5 : val 5 = _ := hd 5 (memB_mem.1 rfl);have e7 : val 7 = _ := hd 7 (memB_mem.1 rfl);have ha := ha.s2 (d := 61) (e := 59) rfl e7 rfl e5;refine hs_call ha rfl rfl (cA2 cF50 rfl rfl) (plus_any (volD x y k dd) (x.getD k lr0).inf _ hm1.1 hm1.2 hm2.1 hm2.2) rfl ?_
       rintro e w' ⟨rfl, hb'⟩
       exact ⟨_, rfl, hb', rfl⟩
      | k + 9, h => exact absurd h (by omega)
     ·intro val wR16 hb halc hd
      have e0 : val 0 = _ := hd 0 (by omega)
      have e1 : val 1 = _ := hd 1 (by omega)
      have e2 : val 2 = _ := hd 2 (by omega)
      have e3 : val 3 = _ := hd 3 (by omega)
      have e4 : val 4 = _ := hd 4 (by omega)
      have e5 : val 5 = _ := hd 5 (by omega)
      have e6 : val 6 = _ := hd 6 (by omega)
      have e7 : val 7 = _ := hd 7 (by omega)
      have e8 : val 8 = _ := hd 8 (by omega)
      refine EL.ends (cs := [_, _, _, _, _, _, _, _, _]) ⟨e0, e1, e2, e3, e4, e5, e6, e7, e8, trivial⟩ rfl ?_;replace q7 := q7.bl hb;replace hnc := own_below hnc hb (Nat.le_refl _);replace hout := hout.below hb;replace hbw := bo_ hbw hb;clear hb;refine EL.val (ix_73 rfl rfl hltk) rfl ?_;refine EL.storeRow (l' := [.int .i64 (plusB (volD x y k dd) (x.getD k lr0).inf).lo, .int .i64 (plusB (volD x y k dd) (x.getD k lr0).inf).hi]) rfl rfl hnc sz_67 rfl rfl (by rw [bdsC_len, infL_len]; omega) rfl ?_
      intro w9 ho2 hgr;rw [Nat.zero_add] at ho2;replace ho2 := cast_row ho2 (spl_flat bdC_len _ _ (by rw [infL_len]; omega) (plusB (volD x y k dd) (x.getD k lr0).inf))
      rw [infL_succ hltk] at ho2;replace hout := hout.kept hgr hap;replace q7 := q7.grown hgr (fun h => row_ne2 hnc q7 rfl (Option.some.inj h))
      replace hbw := hbw.trans (below_row hnc hgr hbw.size);clear hnc hgr;have hnc := ho2;clear ho2;refine EL.nil (EX.blk (EX.seq (EC.region ?_)));refine EL.val (x_add rfl rfl (c := ((k + 1 : Nat) : Int)) ((IntWalk.i64_in _ ⟨by first | omega | (simp only; omega), by first | omega | (simp only; omega)⟩).trans (by first | omega | (simp only; omega)))) rfl ?_
      refine EL.mv rfl rfl (EL.nil ?_);refine EX.roundD (k + 1) ⟨rfl, trivial⟩ (by repeat first | with_reducible exact .refl _ | refine sp_ rfl ?_ | exact .refl _ | refine sd_ rfl ?_ | refine sn_ ?_) ⟨hltk, hnc, hout, hbw⟩ (by omega)
    ·
     obtain rfl : k = x.length := by omega
     rw [infL_all] at hnc;refine EC.seq (EC.region ?_);refine EL.val (x_lss (r := false) rfl rfl (decide_eq_false (by omega))) rfl ?_
     refine EL.nil (EX.seq (EC.seq (EC.no rfl (EC.exit (EX.seq_exit (EX.seq_exit (EX.blk_here (EX.seq (EC.seq ?_)))))))));refine EC.seq (EC.region (EL.mv rfl rfl (EL.val (ln_60 rfl) rfl (EL.mv rfl rfl (EL.nil (EX.seq (EC.block ?_)))))));refine EC.loopD [14, 15, 67, 68, 69, 70, 71, 72, 73, 74, 75, 76, 77, 78, 79, 80, 81, 82, 83, 84, 85, 86, 87, 88, 89, 90, 91, 92, 93, 94, 95] (fun k : Nat => [(67, .int .i64 (k : Nat))]) (fun k W => k ≤ y.length ∧ W.ownsRow w.heap.size 67 2 (.slice (some ⟨gc, 0, none⟩) x.length cc9) x.length (bdsC (lockL x y dd k)) ∧ OwnLL W w.heap.size so us (daysL x y dd) ∧ Below w.heap.size w W) (fun k => y.length - k) 0 ⟨Nat.zero_le _, hnc, hout, hbw⟩ ⟨rfl, trivial⟩ ?_
     clear hnc hout hbw
     rintro k wj67 ⟨hkj, hnc, hout, hbw⟩
     by_cases hltk : k < y.length
     ·
      obtain ⟨b, o, rfl, _, cc⟩ := lts_cells y k hltk w B _ _ _ hy;obtain ⟨bn, on, eb_, _, cn⟩ := bds_cells _ k (by rw [lockL_len]; omega) _ _ _ _ _ (Rd.of_own hnc)
      injection eb_ with eb_
      injection eb_ with eb1_ eb2_
      subst eb1_ eb2_;obtain ⟨bm, om, eb_, _, cm⟩ := bds_cells _ (k + 1) (by rw [lockL_len]; omega) _ _ _ _ _ (Rd.of_own hnc)
      injection eb_ with eb_
      injection eb_ with eb1_ eb2_
      subst eb1_ eb2_;have hlt := hch.lt _ (getD_mem hltk lt0);have hs1 := lockL_succ (x := x) (y := y) (d := dd) (j := k) (by omega)
      have hm1 := (mid_lock hch k (show k < x.length by omega) (show dd ≤ 60 by omega)).mono (show (200000000000000 : Int) ≤ 1000000000000000 by omega)
      rw [← lockL_at (by omega)] at hm1
      have hm2 := (mid_lock hch k (show k + 1 < x.length by omega) (show dd ≤ 60 by omega)).mono (show (200000000000000 : Int) ≤ 1000000000000000 by omega)
      rw [← lockL_at (by omega)] at hm2
      have hm3 := (lt_mid hlt).mono (show (100000000 : Int) ≤ 1000000000000000 by omega)
      have hm4 := hm3.opp;obtain ⟨V1, hV1⟩ : ∃ V1, (lockL x y dd k).getD k bd0 = V1 := ⟨_, rfl⟩;obtain ⟨V2, hV2⟩ : ∃ V2, (lockL x y dd k).getD (k + 1) bd0 = V2 := ⟨_, rfl⟩;rw [hV1] at hm1 cn hs1;rw [hV2] at hm2 cm hs1
      generalize y.getD k lt0 = kk at *
      refine EC.seq (EC.region ?_);refine EL.val (x_lss (r := true) rfl rfl (decide_eq_true (by omega))) rfl ?_
      refine EL.nil (EX.seq (EC.seq (EC.yes rfl (EC.skip (EX.seq (EC.seq (EC.block (EC.seq (EC.region ?_)))))))));refine EL.mv rfl rfl (EL.val (ix_60 rfl rfl hltk) rfl (EL.val (ld_71 rfl (below_load hbw cc.c0) (below_load hbw cc.c1) (below_load hbw cc.c2)) rfl (EL.newP al_71 rfl ?_)));intro g10 w10 q10 hb10 hg10 hl10;have bhbw_10 := Nat.le_trans hbw.size hg10;replace hnc := own_below hnc hb10 (Nat.le_refl _);replace hout := hout.below hb10;replace hbw := bo_ hbw hb10;clear hb10 hg10 hl10;refine EL.as rfl rfl (EL.store rfl rfl q10 sz_71 rfl rfl rfl rfl ?_);intro w11 hq11 hg11;replace hnc := own_type hnc q10 rfl hg11;replace hout := hout.box q10 rfl rfl hg11;replace hbw := below_store hbw hg11 bhbw_10;replace q10 := hq11;clear hg11 hq11;refine EL.nil (EX.seq ?_);have nr10_nw : g10 ≠ gc := row_ne2 hnc q10 rfl;have lb_nw : w.heap.size ≤ gc := (hnc.lt _ rfl).1;refine EC.regionS [[], [], [], [], [3], [], [], [5, 6], [5, 6, 7], [], [9], [9, 10], [5, 6, 7, 8, 9, 10, 11], [], [], [14], [13, 14, 15], [13, 14, 15, 16], [], [5, 6, 7, 8, 9, 10, 11, 12, 18], [5, 6, 7, 8, 9, 10, 11, 12, 13, 14, 15, 16, 17, 18, 19], [0, 1, 5, 6, 7, 8, 9, 10, 11, 12, 13, 14, 15, 16, 17, 18, 19, 20], [0, 1, 5, 6, 7, 8, 9, 10, 11, 12, 13, 14, 15, 16, 17, 18, 19, 20, 21], [0, 1, 2, 3, 4, 5, 6, 7, 8, 9, 10, 11, 12, 13, 14, 15, 16, 17, 18, 19, 20, 21, 22], [0, 1, 2, 3, 4, 5, 6, 7, 8, 9, 10, 11, 12, 13, 14, 15, 16, 17, 18, 19, 20, 21, 22, 23]] 23 [] [22] (fun fl w_ => Touch w11 w_ [gc] ∧ (fl 22 = false → w_.ownsRow w.heap.size 67 2 (.slice (some ⟨gc, 0, none⟩) x.length cc9) x.length (bdsC (lockL x y dd k)))) (phiS (fun i_ r => match i_ with | 0 => r 0 = .slice (some ⟨gc, 0, none⟩) x.length cc9 | 1 => r 1 = .int .i64 (k : Nat) | 2 => r 2 = .slice (some ⟨gc, 0, none⟩) x.length cc9 | 3 => r 3 = .int .i64 (k : Nat) | 4 => r 4 = .int .i64 ((k + 1) : Nat) | 5 => r 5 = .slice (some ⟨gc, 0, none⟩) x.length cc9 | 6 => r 6 = .int .i64 (k : Nat) | 7 => r 7 = .pointer (some ⟨gc, 0 + k * 2, none⟩) | 8 => r 8 = .agg #[.int .i64 (V1).lo, .int .i64 (V1).hi] | 9 => r 9 = .agg #[.int .i64 kk.fill, .int .i64 kk.cyc.lo, .int .i64 kk.cyc.hi] | 10 => r 10 = .agg #[.int .i64 ((movT kk)).lo, .int .i64 ((movT kk)).hi] | 11 => r 11 = .agg #[.int .i64 (oppB (movT kk)).lo, .int .i64 (oppB (movT kk)).hi] | 12 => r 12 = .agg #[.int .i64 (plusB V1 (oppB (movT kk))).lo, .int .i64 (plusB V1 (oppB (movT kk))).hi] | 13 => r 13 = .slice (some ⟨gc, 0, none⟩) x.length cc9 | 14 => r 14 = .int .i64 (k : Nat) | 15 => r 15 = .int .i64 ((k + 1) : Nat) | 16 => r 16 = .pointer (some ⟨gc, 0 + (k + 1) * 2, none⟩) | 17 => r 17 = .agg #[.int .i64 (V2).lo, .int .i64 (V2).hi] | 18 => r 18 = .agg #[.int .i64 kk.fill, .int .i64 kk.cyc.lo, .int .i64 kk.cyc.hi] | 19 => r 19 = .agg #[.int .i64 ((movT kk)).lo, .int .i64 ((movT kk)).hi] | 20 => r 20 = .agg #[.int .i64 (plusB V2 (movT kk)).lo, .int .i64 (plusB V2 (movT kk)).hi] | 21 => r 21 = .pointer (some ⟨gc, 0 + k * 2, none⟩) | _ => True) [(22, fun fl _ w_ => fl 22 = true ∧ w_.ownsRow w.heap.size 67 2 (.slice (some ⟨gc, 0, none⟩) x.length cc9) x.length (bdsC ((lockL x y dd k).set k (plusB V1 (oppB (movT kk))))))]) (by kernel_rfl) rfl rfl (by intro i hi; simp at hi; rcases hi with rfl <;> exact ⟨by simp, by omega⟩) ⟨fun _ _ => ⟨Touch.start _ _, fun _ => own_drewN hnc 1⟩, fun _ _ _ ⟨hT, hA0_⟩ hb => ⟨hT.below hb, fun h => own_below (hA0_ h) hb (Nat.le_refl _)⟩, fun _ _ h => h.1.size⟩ (phiS_cons (fun _ _ _ _ hb ⟨h1, h2⟩ => ⟨h1, own_below h2 hb (Nat.le_refl _)⟩) (phiS_nil)) (fun i_ hi_ hs_ => ?_) (fun i_ hi_ => ?_) ?_
      ·match i_, hi_ with
       | 0, _ =>
        intro val fl w1 a hb ha hd hfl;obtain ⟨hT, hA0_⟩ := hb;have ha := ha.s0 (d := 9) rfl
        exact ss_val ha rfl rfl (x_move rfl) rfl rfl
       | 1, _ =>
        intro val fl w1 a hb ha hd hfl;obtain ⟨hT, hA0_⟩ := hb;have ha := ha.s0 (d := 14) rfl
        exact ss_val ha rfl rfl (x_move rfl) rfl rfl
       | 2, _ =>
        intro val fl w1 a hb ha hd hfl;obtain ⟨hT, hA0_⟩ := hb;have ha := ha.s0 (d := 9) rfl
        exact ss_val ha rfl rfl (x_move rfl) rfl rfl
       | 3, _ =>
        intro val fl w1 a hb ha hd hfl;obtain ⟨hT, hA0_⟩ := hb;have ha := ha.s0 (d := 14) rfl
        exact ss_val ha rfl rfl (x_move rfl) rfl rfl
       | 4, _ =>
        intro val fl w1 a hb ha hd hfl;obtain ⟨hT, hA0_⟩ := hb;have e3 : val 3 = _ := hd 3 (memB_mem.1 rfl);have ha := ha.s1 (d := 75) rfl e3
        exact ss_val ha rfl rfl (x_add rfl rfl (c := ((k + 1 : Nat) : Int)) ((IntWalk.i64_in _ ⟨by first | omega | (simp only; omega), by first | omega | (simp only; omega)⟩).trans (by first | omega | (simp only; omega)))) rfl rfl
       | 5, _ =>
        intro val fl w1 a hb ha hd hfl;obtain ⟨hT, hA0_⟩ := hb;have ha := ha.s0 (d := 9) rfl
        exact ss_val ha rfl rfl (x_move rfl) rfl rfl
       | 6, _ =>
        intro val fl w1 a hb ha hd hfl;obtain ⟨hT, hA0_⟩ := hb;have ha := ha.s0 (d := 14) rfl
        exact ss_val ha rfl rfl (x_move rfl) rfl rfl
       | 7, _ =>
        intro val fl w1 a hb ha hd hfl;obtain ⟨hT, hA0_⟩ := hb;have e5 : val 5 = _ := hd 5 (memB_mem.1 rfl);have e6 : val 6 = _ := hd 6 (memB_mem.1 rfl);have ha := ha.s2 (d := 78) (e := 77) rfl e6 rfl e5
        exact ss_val ha rfl rfl (ix_73 rfl rfl (show k < x.length by omega)) rfl rfl
       | 8, _ =>
        intro val fl w1 a hb ha hd hfl;obtain ⟨hT, hA0_⟩ := hb;have e7 : val 7 = _ := hd 7 (memB_mem.1 rfl);have ha := ha.s1 (d := 79) rfl e7;have hr0 := hA0_ (hfl 22 (by simp) (memB_mem.1 rfl))
        exact ss_val ha rfl rfl (by obtain ⟨b_, o_, e_, _, c_⟩ := bds_cells _ (k) (by rw [lockL_len]; omega) _ _ _ _ _ (Rd.of_own hr0); injection e_ with e_; injection e_ with e1_ e2_; subst e1_ e2_; rw [hV1] at c_; exact ld_67 rfl c_.c0 c_.c1) rfl rfl
       | 9, _ =>
        intro val fl w1 a hb ha hd hfl;obtain ⟨hT, hA0_⟩ := hb;have ha := ha.s0 (d := 15) rfl
        exact ss_val ha rfl rfl (ld_71 rfl ((q10.touch hT (by simp only [List.mem_cons, List.not_mem_nil, or_false, not_or]; exact nr10_nw)).at (j := 0) rfl) ((q10.touch hT (by simp only [List.mem_cons, List.not_mem_nil, or_false, not_or]; exact nr10_nw)).at (j := 1) rfl) ((q10.touch hT (by simp only [List.mem_cons, List.not_mem_nil, or_false, not_or]; exact nr10_nw)).at (j := 2) rfl)) rfl rfl
       | 10, _ =>
        intro val fl w1 a hb ha hd hfl;obtain ⟨hT, hA0_⟩ := hb;have e9 : val 9 = _ := hd 9 (memB_mem.1 rfl);have ha := ha.s1 (d := 81) rfl e9;refine ss_call ha rfl rfl (cA1 cF52 rfl) (moves_any kk _ hlt) rfl ?_
        rintro e w' ⟨rfl, hb'⟩
        exact ⟨_, rfl, hb', rfl⟩
       | 11, _ =>
        intro val fl w1 a hb ha hd hfl;obtain ⟨hT, hA0_⟩ := hb;have e10 : val 10 = _ := hd 10 (memB_mem.1 rfl);have ha := ha.s1 (d := 82) rfl e10;refine ss_call ha rfl rfl (cA1 cF51 rfl) (opposite_any (movT kk) _ hm3.1 hm3.2) rfl ?_
        rintro e w' ⟨rfl, hb'⟩
        exact ⟨_, rfl, hb', rfl⟩
       | 12, _ =>
        intro val fl w1 a hb ha hd hfl;obtain ⟨hT, hA0_⟩ := hb;have e8 : val 8 = _ := hd 8 (memB_mem.1 rfl);have e11 : val 11 = _ := hd 11 (memB_mem.1 rfl);have ha := ha.s2 (d := 83) (e := 80) rfl e11 rfl e8;refine ss_call ha rfl rfl (cA2 cF50 rfl rfl) (plus_any V1 (oppB (movT kk)) _ hm1.1 hm1.2 hm4.1 hm4.2) rfl ?_
        rintro e w' ⟨rfl, hb'⟩
        exact ⟨_, rfl, hb', rfl⟩
       | 13, _ =>
        intro val fl w1 a hb ha hd hfl;obtain ⟨hT, hA0_⟩ := hb;have ha := ha.s0 (d := 9) rfl
        exact ss_val ha rfl rfl (x_move rfl) rfl rfl
       | 14, _ =>
        intro val fl w1 a hb ha hd hfl;obtain ⟨hT, hA0_⟩ := hb;have ha := ha.s0 (d := 14) rfl
        exact ss_val ha rfl rfl (x_move rfl) rfl rfl
       | 15, _ =>
        intro val fl w1 a hb ha hd hfl;obtain ⟨hT, hA0_⟩ := hb;have e14 : val 14 = _ := hd 14 (memB_mem.1 rfl);have ha := ha.s1 (d := 86) rfl e14
        exact ss_val ha rfl rfl (x_add rfl rfl (c := ((k + 1 : Nat) : Int)) ((IntWalk.i64_in _ ⟨by first | omega | (simp only; omega), by first | omega | (simp only; omega)⟩).trans (by first | omega | (simp only; omega)))) rfl rfl
       | 16, _ =>
        intro val fl w1 a hb ha hd hfl;obtain ⟨hT, hA0_⟩ := hb;have e13 : val 13 = _ := hd 13 (memB_mem.1 rfl);have e15 : val 15 = _ := hd 15 (memB_mem.1 rfl);have ha := ha.s2 (d := 87) (e := 85) rfl e15 rfl e13
        exact ss_val ha rfl rfl (ix_73 rfl rfl (show k + 1 < x.length by omega)) rfl rfl
       | 17, _ =>
        intro val fl w1 a hb ha hd hfl;obtain ⟨hT, hA0_⟩ := hb;have e16 : val 16 = _ := hd 16 (memB_mem.1 rfl);have ha := ha.s1 (d := 88) rfl e16;have hr0 := hA0_ (hfl 22 (by simp) (memB_mem.1 rfl))
        exact ss_val ha rfl rfl (by obtain ⟨b_, o_, e_, _, c_⟩ := bds_cells _ (k + 1) (by rw [lockL_len]; omega) _ _ _ _ _ (Rd.of_own hr0); injection e_ with e_; injection e_ with e1_ e2_; subst e1_ e2_; rw [hV2] at c_; exact ld_67 rfl c_.c0 c_.c1) rfl rfl
       | 18, _ =>
        intro val fl w1 a hb ha hd hfl;obtain ⟨hT, hA0_⟩ := hb;have ha := ha.s0 (d := 15) rfl
        exact ss_val ha rfl rfl (ld_71 rfl ((q10.touch hT (by simp only [List.mem_cons, List.not_mem_nil, or_false, not_or]; exact nr10_nw)).at (j := 0) rfl) ((q10.touch hT (by simp only [List.mem_cons, List.not_mem_nil, or_false, not_or]; exact nr10_nw)).at (j := 1) rfl) ((q10.touch hT (by simp only [List.mem_cons, List.not_mem_nil, or_false, not_or]; exact nr10_nw)).at (j := 2) rfl)) rfl rfl
       | 19, _ =>
        intro val fl w1 a hb ha hd hfl;obtain ⟨hT, hA0_⟩ := hb;have e18 : val 18 = _ := hd 18 (memB_mem.1 rfl);have ha := ha.s1 (d := 90) rfl e18;refine ss_call ha rfl rfl (cA1 cF52 rfl) (moves_any kk _ hlt) rfl ?_
        rintro e w' ⟨rfl, hb'⟩
        exact ⟨_, rfl, hb', rfl⟩
       | 20, _ =>
        intro val fl w1 a hb ha hd hfl;obtain ⟨hT, hA0_⟩ := hb;have e17 : val 17 = _ := hd 17 (memB_mem.1 rfl);have e19 : val 19 = _ := hd 19 (memB_mem.1 rfl);have ha := ha.s2 (d := 91) (e := 89) rfl e19 rfl e17;refine ss_call ha rfl rfl (cA2 cF50 rfl rfl) (plus_any V2 (movT kk) _ hm2.1 hm2.2 hm3.1 hm3.2) rfl ?_
        rintro e w' ⟨rfl, hb'⟩
        exact ⟨_, rfl, hb', rfl⟩
       | 21, _ =>
        intro val fl w1 a hb ha hd hfl;obtain ⟨hT, hA0_⟩ := hb;have e0 : val 0 = _ := hd 0 (memB_mem.1 rfl);have e1 : val 1 = _ := hd 1 (memB_mem.1 rfl);have ha := ha.s2 (d := 73) (e := 72) rfl e1 rfl e0
        exact ss_val ha rfl rfl (ix_73 rfl rfl (show k < x.length by omega)) rfl rfl
       | 22, _ =>
        exact absurd (by simp) hs_
       | k + 23, h => exact absurd h (by omega)
      ·simp only [List.mem_cons, List.not_mem_nil, or_false] at hi_
       subst hi_;intro val fl w1 a hb hfi ha hd hfl;obtain ⟨hT, hA0_⟩ := hb;have e21 : val 21 = _ := hd 21 (memB_mem.1 rfl);have e12 : val 12 = _ := hd 12 (memB_mem.1 rfl);have ha := ha.s2 (d := 84) (e := 93) rfl e12 rfl e21;refine ts_storeRow (l' := [.int .i64 (plusB V1 (oppB (movT kk))).lo, .int .i64 (plusB V1 (oppB (movT kk))).hi]) ha rfl rfl rfl (hA0_ hfi) sz_67 rfl rfl (by rw [bdsC_len, lockL_len]; omega) rfl ?_
       intro w' ho2 hgr;rw [Nat.zero_add] at ho2;replace ho2 := cast_row ho2 (spl_flat bdC_len _ _ (by rw [lockL_len]; omega) (plusB V1 (oppB (movT kk))))
       refine ⟨undef, rfl, hgr.size, ⟨hT.grown hgr (by simp), (fun h => by rw [fset_eq] at h; cases h)⟩, ⟨fset_eq, ho2⟩, fun j _ hj hn hA => ?_⟩
       exact phiS_cons_st (C := fun j => j ≠ 22 ∧ 22 ∉ clsAt [[], [], [], [], [3], [], [], [5, 6], [5, 6, 7], [], [9], [9, 10], [5, 6, 7, 8, 9, 10, 11], [], [], [14], [13, 14, 15], [13, 14, 15, 16], [], [5, 6, 7, 8, 9, 10, 11, 12, 18], [5, 6, 7, 8, 9, 10, 11, 12, 13, 14, 15, 16, 17, 18, 19], [0, 1, 5, 6, 7, 8, 9, 10, 11, 12, 13, 14, 15, 16, 17, 18, 19, 20], [0, 1, 5, 6, 7, 8, 9, 10, 11, 12, 13, 14, 15, 16, 17, 18, 19, 20, 21], [0, 1, 2, 3, 4, 5, 6, 7, 8, 9, 10, 11, 12, 13, 14, 15, 16, 17, 18, 19, 20, 21, 22], [0, 1, 2, 3, 4, 5, 6, 7, 8, 9, 10, 11, 12, 13, 14, 15, 16, 17, 18, 19, 20, 21, 22, 23]] j) (fun hc => absurd rfl hc.1) (fun _ _ h => h) j ⟨hj, hn⟩
      ·intro val fl wR21 hfl hb halc hd
       obtain ⟨hT, _⟩ := hb;have hz_nw := (hd 22 (by omega)).2
       change wR21.ownsRow w.heap.size 67 2 (.slice (some ⟨gc, 0, none⟩) x.length cc9) x.length (bdsC ((lockL x y dd k).set k (plusB V1 (oppB (movT kk))))) at hz_nw;have e0 : val 0 = _ := hd 0 (by omega)
       have e1 : val 1 = _ := hd 1 (by omega)
       have e2 : val 2 = _ := hd 2 (by omega)
       have e3 : val 3 = _ := hd 3 (by omega)
       have e4 : val 4 = _ := hd 4 (by omega)
       have e5 : val 5 = _ := hd 5 (by omega)
       have e6 : val 6 = _ := hd 6 (by omega)
       have e7 : val 7 = _ := hd 7 (by omega)
       have e8 : val 8 = _ := hd 8 (by omega)
       have e9 : val 9 = _ := hd 9 (by omega)
       have e10 : val 10 = _ := hd 10 (by omega)
       have e11 : val 11 = _ := hd 11 (by omega)
       have e12 : val 12 = _ := hd 12 (by omega)
       have e13 : val 13 = _ := hd 13 (by omega)
       have e14 : val 14 = _ := hd 14 (by omega)
       have e15 : val 15 = _ := hd 15 (by omega)
       have e16 : val 16 = _ := hd 16 (by omega)
       have e17 : val 17 = _ := hd 17 (by omega)
       have e18 : val 18 = _ := hd 18 (by omega)
       have e19 : val 19 = _ := hd 19 (by omega)
       have e20 : val 20 = _ := hd 20 (by omega)
       have e21 : val 21 = _ := hd 21 (by omega)
       refine EL.ends (cs := [_, _, _, _, _, _, _, _, _, _, _, _, _, _, _, _, _, _, _, _, _, _, val 22]) ⟨e0, e1, e2, e3, e4, e5, e6, e7, e8, e9, e10, e11, e12, e13, e14, e15, e16, e17, e18, e19, e20, e21, rfl, trivial⟩ rfl ?_;replace q10 := q10.touch hT (by simp only [List.mem_cons, List.not_mem_nil, or_false, not_or]; exact nr10_nw)
       replace hout := hout.kept (touch_grown hT) hap;replace hbw := Touch.anchor hT hbw (fun g hg => by simp only [List.mem_cons, List.not_mem_nil, or_false] at hg; rcases hg with rfl <;> omega)
       clear hT hnc;have hnc := hz_nw;clear hz_nw;refine EL.val (ix_73 rfl rfl (show k + 1 < x.length by omega)) rfl ?_
       refine EL.storeRow (l' := [.int .i64 (plusB V2 (movT kk)).lo, .int .i64 (plusB V2 (movT kk)).hi]) rfl rfl hnc sz_67 rfl rfl (by rw [bdsC_len, List.length_set, lockL_len]; omega) rfl ?_
       intro w12 ho2 hgr;rw [Nat.zero_add] at ho2;replace ho2 := cast_row ho2 (spl_flat bdC_len _ _ (by rw [List.length_set, lockL_len]; omega) (plusB V2 (movT kk)))
       rw [hs1] at ho2;replace hout := hout.kept hgr hap;replace q10 := q10.grown hgr (fun h => row_ne2 hnc q10 rfl (Option.some.inj h))
       replace hbw := hbw.trans (below_row hnc hgr hbw.size);clear hnc hgr;have hnc := ho2;clear ho2;refine EL.nil (EX.blk (EX.seq (EC.region ?_)));refine EL.val (x_add rfl rfl (c := ((k + 1 : Nat) : Int)) ((IntWalk.i64_in _ ⟨by first | omega | (simp only; omega), by first | omega | (simp only; omega)⟩).trans (by first | omega | (simp only; omega)))) rfl ?_
       refine EL.mv rfl rfl (EL.nil ?_);refine EX.roundD (k + 1) ⟨rfl, trivial⟩ (by repeat first | with_reducible exact .refl _ | refine sp_ rfl ?_ | exact .refl _ | refine sd_ rfl ?_ | refine sn_ ?_) ⟨hltk, hnc, hout, hbw⟩ (by omega)
     ·
      obtain rfl : k = y.length := by omega
      refine EC.seq (EC.region ?_);refine EL.val (x_lss (r := false) rfl rfl (decide_eq_false (by omega))) rfl ?_
      refine EL.nil (EX.seq (EC.seq (EC.no rfl (EC.exit (EX.seq_exit (EX.seq_exit (EX.blk_here (EX.seq (EC.region ?_)))))))));refine EL.mv rfl rfl (EL.mv rfl rfl (EL.newS (bs_61_1 rfl) rfl ?_));intro g13 w13 q13 hb13 hg13 hl13;have bhbw_13 := Nat.le_trans hbw.size hg13;replace hnc := own_below hnc hb13 (Nat.le_refl _);replace hout := hout.below hb13;replace hbw := bo_ hbw hb13;clear hb13 hg13 hl13;have hrd := hout.rd;rw [daysL_len] at hrd;refine EL.push bl_elem rfl rfl hrd (rd_one (l := [.slice (some ⟨gc, 0, none⟩) x.length cc9]) q13 rfl) (by intro u hu; rw [List.mem_singleton.1 hu]; rfl) (by omega) rfl hbw.size rfl ?_
      intro vo w9 ho9 hgr hb_ hat;rw [lockL_all] at hnc;have hout2 := hout.push hrd hnc ho9 hgr;replace hnc := own_grown hnc hrd rfl hgr;replace hbw := hbw.trans hb_;clear hout hgr hb_ hat ho9 hrd;refine EL.as rfl rfl (EL.nil (EX.blk (EX.seq (EC.region ?_))));refine EL.val (x_add rfl rfl (c := ((dd + 1 : Nat) : Int)) ((IntWalk.i64_in _ ⟨by first | omega | (simp only; omega), by first | omega | (simp only; omega)⟩).trans (by first | omega | (simp only; omega)))) rfl ?_
      refine EL.mv rfl rfl (EL.nil ?_);refine EX.roundD (dd + 1, _, _, _) ⟨rfl, rfl, rfl, trivial⟩ (by repeat first | with_reducible exact .refl _ | refine sp_ rfl ?_ | exact .refl _ | refine sd_ rfl ?_ | refine sn_ ?_) ⟨hltd, hnc, hout2, hbw⟩ (show N - (dd + 1) < N - dd by omega)
   ·
    obtain rfl : dd = N := by omega
    refine EC.seq (EC.region ?_);refine EL.val (x_lss (r := false) rfl rfl (decide_eq_false (by omega))) rfl ?_
    refine EL.nil (EX.seq (EC.seq (EC.no rfl (EC.exit (EX.seq_exit (EX.seq_exit (EX.blk_here (EX.seq (EC.seq ?_)))))))));refine EC.region (EL.mv rfl rfl (EL.as rfl rfl (EL.as rfl rfl (EL.nil (EX.seq (EC.ret ?_))))))
    exact EX.done (res2 rfl rfl rfl) ⟨_, us, by rw [he], fun _ => hout, fun h => absurd he h, hbw⟩
 ·
  refine EL.val (x_neq (r := true) rfl rfl (decide_eq_true (by omega))) rfl ?_
  refine EL.nil (EX.seq (EC.yes rfl (EC.seq (EC.region (EL.mv rfl rfl (EL.as rfl rfl (EL.as rfl rfl (EL.nil (EX.seq ?_)))))))));refine EC.ret (EX.seq_ret ?_)
  exact EX.done (res2 rfl rfl rfl) ⟨_, [], rfl, fun h => absurd h he, fun _ => rfl, hbw⟩
section
variable {n : Nat} {σ : Sg} {w : World} {dst : Option Tmp} {ty : TypeId} {pos : String} {af : Array Edge} {g : Option (Nat × Bool)} {x y z : Operand} {at' : Array TypeId}
theorem cF26 : cF 26 := fun _ _ => by simp [go_sem]
theorem ln_61 {A : Option Addr} {m c : Nat} (hx : evS σ x = some (.slice A m c)) : Gives Try.prog n σ w ⟨dst, .call { callee := .builtin .len, args := #[x], argTypes := #[61] }, ty, pos, af, g⟩ (.int .i64 (m : Int)) := fun a ha => by
 simp only [execOp, resolve, List.map_toArray, List.map_cons, List.map_nil, ha.eval hx]
 simp [go_sem]
theorem ix_61 {b o m c k : Nat} (hx : evS σ x = some (.slice (some ⟨b, o, none⟩) m c)) (hy : evS σ y = some (.int .i64 (k : Int))) (hk : k < m) : Gives Try.prog n σ w ⟨dst, .indexAddr 61 x y, ty, pos, af, g⟩ (.pointer (some ⟨b, o + k, none⟩)) := fun a ha => by
 have k0 : (0 : Int) ≤ (k : Int) := Int.natCast_nonneg _;have k1 : (k : Int) < (m : Int) := by omega
 simp only [execOp, ha.eval hx, ha.eval hy]
 simp [go_sem, k0, k1]
theorem ld_73 {b o : Nat} {v0 : Value} (hx : evS σ x = some (.pointer (some ⟨b, o, none⟩))) (c0 : w.cell? ⟨b, o, none⟩ = some v0) : Gives Try.prog n σ w ⟨dst, .load 73 x, ty, pos, af, g⟩ (v0) := fun a ha => by
 simp only [execOp, ha.eval hx]
 simp [go_sem, c0]
theorem ln_73 {A : Option Addr} {m c : Nat} (hx : evS σ x = some (.slice A m c)) : Gives Try.prog n σ w ⟨dst, .call { callee := .builtin .len, args := #[x], argTypes := #[73] }, ty, pos, af, g⟩ (.int .i64 (m : Int)) := fun a ha => by
 simp only [execOp, resolve, List.map_toArray, List.map_cons, List.map_nil, ha.eval hx]
 simp [go_sem]
end
theorem no_start (x : List LR) (y : List LT) : noShort x y 0 0 := ⟨fun e i h1 h2 => by omega, fun i h => by omega⟩
theorem no_more {x : List LR} {y : List LT} {d k : Nat} (h : noShort x y d k) (hs : shortAt x y (d + 1) k = false) : noShort x y d (k + 1) := ⟨h.1, fun i hi => by
 rcases Nat.lt_or_ge i k with h1 | h1
 ·exact h.2 i h1
 ·rw [show i = k by omega]; exact hs⟩
theorem no_day {x : List LR} {y : List LT} {d : Nat} (h : noShort x y d x.length) : noShort x y (d + 1) 0 := ⟨fun e i h1 h2 hi => by
 rcases Nat.lt_or_ge e (d + 1) with h3 | h3
 ·exact h.1 e i h1 (by omega) hi
 ·rw [show e = d + 1 by omega]; exact h.2 i hi, fun i hi => by omega⟩
/-- the first day and reach on which there can be too little water -/
def ShortIs (x : List LR) (y : List LT) (N : Nat) (day reach : Int) (sure : Bool) : Prop :=
 (∃ d i : Nat, d < N ∧ i < x.length ∧ noShort x y d i ∧ shortAt x y (d + 1) i = true ∧ day = ((d + 1 : Nat) : Int) ∧ reach = ((i : Nat) : Int) ∧ sure = decide ((volD x y i (d + 1)).hi < (x.getD i lr0).least)) ∨ (noShort x y N 0 ∧ day = 0 ∧ reach = 0 ∧ sure = false)
theorem Short_any {x : List LR} {y : List LT} {vx vy : Value} {days : Int} {w : World} {B : Nat} (hx : Rd w B 4 vx x.length (lrsC x)) (hy : Rd w B 3 vy y.length (ltsC y)) (hB : B ≤ w.heap.size) (hyn : y.length ≤ 9223372036854775806) :
  Calls Try.prog 27 #[vx, vy, .int .i64 days] w fun e w' => ∃ day reach sure, e = .returned (.tuple #[.int .i64 day, .int .i64 reach, .bool sure, .int .i64 (chE x y days)]) ∧ (chE x y days = 0 → ShortIs x y days.toNat day reach sure) ∧ (chE x y days ≠ 0 → day = 0 ∧ reach = 0 ∧ sure = false) ∧ Below w.heap.size w w' := by
 obtain ⟨Ax, cx, rfl, _⟩ := hx.shape;obtain ⟨Ay, cy, rfl, _⟩ := hy.shape;have hbw := Below.refl w.heap.size w;refine EC.enter 58 Try.func27 rfl rfl rfl (EC.seq (EC.region (EL.as rfl rfl (EL.as rfl rfl (EL.as rfl rfl (EL.as rfl rfl (EL.nil (EX.seq (EC.seq ?_)))))))));refine EC.region (EL.mv rfl rfl (EL.mv rfl rfl (EL.mv rfl rfl (EL.call (cA3 cF26 rfl rfl rfl) rfl (Days_any (hx.below (hbw.mono hB)) (hy.below (hbw.mono hB)) (Nat.le_trans hB hbw.size) hyn) ?_))))
 rintro e w1 ⟨sl, us, rfl, hout, hsl, hc1⟩
 refine ⟨_, rfl, ?_⟩;replace hbw := bo_ hbw hc1;clear hc1;refine EL.mv rfl rfl (EL.val (x_extract (v := sl) rfl rfl) rfl (EL.val (x_extract (v := .int .i64 (chE x y days)) rfl rfl) rfl (EL.as rfl rfl (EL.as rfl rfl (EL.nil (EX.seq (EC.seq (EC.seq (EC.region ?_)))))))));refine EL.mv rfl rfl ?_
 by_cases he : chE x y days = 0
 ·
  replace hout := hout he;have hch := chE_zero he;obtain ⟨N, rfl⟩ : ∃ N : Nat, days = N := ⟨days.toNat, (Int.toNat_of_nonneg hch.days.1).symm⟩;have hN := hch.days.2;have hxn := hch.n10;have hyl := hch.yl;change OwnLL _ _ sl us (daysL x y N) at hout;have hrd0 := hout.rd;rw [daysL_len] at hrd0;obtain ⟨As, cs, rfl, _⟩ := (Rd.of_own hrd0).shape;clear hrd0;refine EL.val (x_neq (r := false) rfl rfl (decide_eq_false (by omega))) rfl ?_
  refine EL.nil (EX.seq (EC.no rfl (EC.skip (EX.seq (EC.seq (EC.seq (EC.region (EL.mv rfl rfl (EL.val (ln_61 rfl) rfl ?_)))))))));refine EL.mv rfl rfl (EL.nil (EX.seq (EC.block ?_)));refine EC.loopD [6, 7, 8, 9, 11, 12, 13, 14, 15, 28, 29, 30, 31, 32, 33, 34, 35, 36, 37, 38, 39, 40, 41, 42, 43, 44, 45, 46, 47, 48, 49, 50, 51, 52, 53, 54, 55, 56, 57] (fun dd : Nat => [(28, .int .i64 (dd : Nat))]) (fun dd W => dd ≤ N ∧ noShort x y dd 0 ∧ OwnLL W w.heap.size (.slice As N cs) us (daysL x y N) ∧ Below w.heap.size w W) (fun dd => N - dd) 0 ⟨Nat.zero_le _, no_start x y, hout, hbw⟩ ⟨rfl, trivial⟩ ?_
  clear hout hbw
  rintro dd wdd ⟨hk, hns, hout, hbw⟩
  by_cases hltdd : dd < N
  ·
   have hlD := daysL_len x y N;obtain ⟨bq, oq, eq_, _, cq⟩ := rd_val (Rd.of_own (hlD ▸ hout.rd)) (k := dd) (by rw [hout.len, hlD]; exact hltdd)
   subst eq_;have hrow := hout.row dd (by rw [hlD]; exact hltdd)
   rw [daysL_at hltdd, volL_len] at hrow;obtain ⟨gr, cr, er⟩ := own_at0 hrow (by omega)
   rw [er] at cq;clear hrow;refine EC.seq (EC.region ?_);refine EL.val (x_lss (r := true) rfl rfl (decide_eq_true (by omega))) rfl ?_
   refine EL.nil (EX.seq (EC.seq (EC.yes rfl (EC.skip (EX.seq (EC.seq (EC.block (EC.seq (EC.region ?_)))))))));refine EL.mv rfl rfl (EL.val (ix_61 rfl rfl hltdd) rfl (EL.val (ld_73 rfl cq) rfl (EL.as rfl rfl (EL.as rfl rfl (EL.nil (EX.seq (EC.seq (EC.region (EL.mv rfl rfl ?_)))))))));refine EL.val (ln_73 rfl) rfl (EL.mv rfl rfl (EL.nil (EX.seq (EC.block ?_))));refine EC.loopD [6, 7, 8, 9, 13, 14, 15, 35, 36, 37, 38, 39, 40, 41, 42, 43, 44, 45, 46, 47, 48, 49, 50, 51, 52, 53, 54, 55, 56] (fun k : Nat => [(35, .int .i64 (k : Nat))]) (fun k W => k ≤ x.length ∧ noShort x y dd k ∧ OwnLL W w.heap.size (.slice (some ⟨bq, oq, none⟩) N cs) us (daysL x y N) ∧ Below w.heap.size w W) (fun k => x.length - k) 0 ⟨Nat.zero_le _, hns, hout, hbw⟩ ⟨rfl, trivial⟩ ?_
   clear hns hout hbw
   rintro k wk ⟨hkx, hns, hout, hbw⟩
   by_cases hltk : k < x.length
   ·
    have hrow := hout.row dd (by rw [daysL_len]; exact hltdd)
    rw [daysL_at hltdd, volL_len, er] at hrow;obtain ⟨bn, on, eb_, _, cn⟩ := bds_cells _ k (by rw [volL_len]; exact hltk) _ _ _ _ _ (Rd.of_own hrow)
    injection eb_ with eb_
    injection eb_ with eb1_ eb2_
    subst eb1_ eb2_;rw [show (volL x y (dd + 1)).getD k bd0 = volD x y k (dd + 1) from range_at _ hltk] at cn;obtain ⟨b, o, rfl, _, cc⟩ := lrs_cells x k hltk w B _ _ _ hx;clear hrow;refine EC.seq (EC.region ?_);refine EL.val (x_lss (r := true) rfl rfl (decide_eq_true (by omega))) rfl ?_
    refine EL.nil (EX.seq (EC.seq (EC.yes rfl (EC.skip (EX.seq (EC.seq (EC.block (EC.seq (EC.region ?_)))))))));refine EL.mv rfl rfl (EL.val (ix_73 rfl rfl hltk) rfl (EL.val (ld_67 rfl cn.c0 cn.c1) rfl (EL.newP al_67 rfl ?_)));intro g2 w2 q2 hb2 hg2 hl2;have bhbw_2 := Nat.le_trans hbw.size hg2;have hap2 := hout.apart hg2;replace hout := hout.below hb2;replace hbw := bo_ hbw hb2;clear hb2 hg2 hl2;refine EL.as rfl rfl (EL.store rfl rfl q2 sz_67 rfl rfl rfl rfl ?_);intro w3 hq3 hg3;replace hout := hout.kept hg3 hap2;replace hbw := below_store hbw hg3 bhbw_2;replace q2 := hq3;clear hg3 hq3;refine EL.nil (EX.seq (EC.seq (EC.region (EL.mv rfl rfl (EL.mv rfl rfl (EL.val (ix_59 rfl rfl hltk) rfl (EL.val (fa_69_1 rfl) rfl (EL.val (ld_3 rfl (below_load hbw cc.c1)) rfl (EL.as rfl rfl ?_)))))))));refine EL.nil (EX.seq (EC.seq (EC.region (EL.val (fa_67_0 rfl) rfl (EL.val (ld_3 rfl (q2.at (j := 0) rfl)) rfl (EL.mv rfl rfl ?_))))))
    by_cases hsh : (volD x y k (dd + 1)).lo < (x.getD k lr0).least
    ·
     have hst : shortAt x y (dd + 1) k = true := decide_eq_true hsh;refine EL.val (x_lss (r := true) rfl rfl (decide_eq_true (by omega))) rfl ?_
     refine EL.nil (EX.seq (EC.yes rfl (EC.seq ?_)));refine EC.regionQ (by kernel_rfl) (by kernel_rfl) ?_
     refine EQ.mv rfl rfl ?_;refine EQ.val (fun _ hw => (x_add rfl rfl (c := ((dd + 1 : Nat) : Int)) ((IntWalk.i64_in _ ⟨by first | omega | (simp only; omega), by first | omega | (simp only; omega)⟩).trans (by first | omega | (simp only; omega))))) rfl ?_
     refine EQ.mv rfl rfl ?_;refine EQ.val (fun _ hw => (fa_67_1 rfl)) rfl ?_
     refine EQ.val (fun _ hw => (ld_3 rfl (below_load hw (q2.at (j := 1) rfl)))) rfl ?_
     refine EQ.mv rfl rfl ?_;refine EQ.val (fun _ hw => (x_lss rfl rfl rfl)) rfl ?_
     refine EQ.val (fun _ hw => (x_assign rfl)) rfl ?_
     refine EQ.val (fun _ hw => (x_assign rfl)) rfl ?_
     refine EQ.val (fun _ hw => (x_assign rfl)) rfl ?_
     refine EQ.val (fun _ hw => (x_assign rfl)) rfl ?_
     refine EQ.fin (fun w4 hw_ => ?_)
     replace q2 := q2.bl hw_;replace hout := hout.below hw_;replace hbw := bo_ hbw hw_;clear hw_;refine EX.seq (EC.ret (EX.blk_ret (EX.seq_ret (EX.seq_ret (EX.blk_ret (EX.blk_ret (EX.seq_ret (EX.seq_ret (EX.blk_ret ?_)))))))));refine EX.seq_ret ?_
     exact EX.done (res4 rfl rfl rfl rfl rfl) ⟨_, _, _, by rw [he], fun _ => .inl ⟨dd, k, hltdd, hltk, hns, hst, rfl, rfl, rfl⟩, fun h => absurd he h, hbw⟩
    ·
     have hst : shortAt x y (dd + 1) k = false := decide_eq_false hsh;refine EL.val (x_lss (r := false) rfl rfl (decide_eq_false (by omega))) rfl ?_
     refine EL.nil (EX.seq (EC.no rfl (EC.skip (EX.blk (EX.seq (EC.region ?_))))));refine EL.val (x_add rfl rfl (c := ((k + 1 : Nat) : Int)) ((IntWalk.i64_in _ ⟨by first | omega | (simp only; omega), by first | omega | (simp only; omega)⟩).trans (by first | omega | (simp only; omega)))) rfl ?_
     refine EL.mv rfl rfl (EL.nil ?_);refine EX.roundD (k + 1) ⟨rfl, trivial⟩ (by repeat first | with_reducible exact .refl _ | refine sp_ rfl ?_ | exact .refl _ | refine sd_ rfl ?_ | refine sn_ ?_) ⟨hltk, no_more hns hst, hout, hbw⟩ (by omega)
   ·
    obtain rfl : k = x.length := by omega
    replace hns := no_day hns;refine EC.seq (EC.region ?_);refine EL.val (x_lss (r := false) rfl rfl (decide_eq_false (by omega))) rfl ?_
    refine EL.nil (EX.seq (EC.seq (EC.no rfl (EC.exit (EX.seq_exit (EX.seq_exit (EX.blk_here (EX.blk (EX.seq ?_)))))))));refine EC.region ?_;refine EL.val (x_add rfl rfl (c := ((dd + 1 : Nat) : Int)) ((IntWalk.i64_in _ ⟨by first | omega | (simp only; omega), by first | omega | (simp only; omega)⟩).trans (by first | omega | (simp only; omega)))) rfl ?_
    refine EL.mv rfl rfl (EL.nil ?_);refine EX.roundD (dd + 1) ⟨rfl, trivial⟩ (by repeat first | with_reducible exact .refl _ | refine sp_ rfl ?_ | exact .refl _ | refine sd_ rfl ?_ | refine sn_ ?_) ⟨hltdd, hns, hout, hbw⟩ (by omega)
  ·
   obtain rfl : dd = N := by omega
   refine EC.seq (EC.region ?_);refine EL.val (x_lss (r := false) rfl rfl (decide_eq_false (by omega))) rfl ?_
   refine EL.nil (EX.seq (EC.seq (EC.no rfl (EC.exit (EX.seq_exit (EX.seq_exit (EX.blk_here (EX.seq (EC.seq ?_)))))))));refine EC.region (EL.as rfl rfl (EL.as rfl rfl (EL.as rfl rfl (EL.as rfl rfl (EL.nil (EX.seq (EC.ret ?_)))))))
   exact EX.done (res4 rfl rfl rfl rfl rfl) ⟨0, 0, false, by rw [he], fun _ => .inr ⟨hns, rfl, rfl, rfl⟩, fun h => absurd he h, hbw⟩
 ·
  clear hout;refine EL.val (x_neq (r := true) rfl rfl (decide_eq_true (by omega))) rfl ?_
  refine EL.nil (EX.seq (EC.yes rfl (EC.seq (EC.region (EL.mv rfl rfl (EL.as rfl rfl (EL.as rfl rfl (EL.as rfl rfl (EL.as rfl rfl ?_)))))))));refine EL.nil (EX.seq (EC.ret (EX.seq_ret ?_)))
  exact EX.done (res4 rfl rfl rfl rfl rfl) ⟨_, _, _, rfl, fun h => absurd h he, fun _ => ⟨rfl, rfl, rfl⟩, hbw⟩
def oneK : LK := ⟨100, 20, 10, 1000, 40, false⟩
def threeK : List TW := [⟨true, 0, 60, 1, 500⟩, ⟨false, 5, 80, 2, 300⟩, ⟨true, 10, 30, 1, 0⟩]
def planK : List SP := [⟨true, 1⟩, ⟨false, 1⟩, ⟨true, 1⟩]
def xK : List LR := [⟨10000, 8000, ⟨500, 600⟩⟩, ⟨5000, 0, ⟨0, 0⟩⟩]
def yK : List LT := [⟨1000, ⟨1, 2⟩⟩]
theorem best_known : bestP oneK threeK = ([⟨true, 2⟩, ⟨false, 1⟩], 140, 0) := by kernel_rfl
theorem thrift_known : thriftP oneK threeK 140 = ([⟨true, 2⟩, ⟨false, 1⟩], 140, 0) := by kernel_rfl
theorem carry_known : carryE oneK threeK planK = 0 := by kernel_rfl
theorem end_known : (endP oneK threeK planK).up = -1800 ∧ (endP oneK threeK planK).lo = 800 ∧ (endP oneK threeK planK).ch = 1000 ∧ (endP oneK threeK planK).ba = 0 ∧ (endP oneK threeK planK).cost = 140 ∧ (endP oneK threeK planK).mv = 3 := ⟨by kernel_rfl, by kernel_rfl, by kernel_rfl, by kernel_rfl, by kernel_rfl, by kernel_rfl⟩
theorem runs_known : runsP oneK threeK planK = [⟨0, 20⟩, ⟨20, 40⟩, ⟨40, 60⟩] := by kernel_rfl
theorem ch_known : chE xK yK 2 = 0 := by kernel_rfl
theorem vol_known : volL xK yK 1 = [⟨8500, 9600⟩, ⟨6000, 7000⟩] ∧ volL xK yK 2 = [⟨7000, 9200⟩, ⟨7000, 9000⟩] := ⟨by kernel_rfl, by kernel_rfl⟩
theorem short_known {day reach : Int} {sure : Bool} (h : ShortIs xK yK 2 day reach sure) : day = 2 ∧ reach = 0 ∧ sure = false := by
 have h1 : shortAt xK yK 1 0 = false := by kernel_rfl
 have h2 : shortAt xK yK 1 1 = false := by kernel_rfl
 have h3 : shortAt xK yK 2 0 = true := by kernel_rfl
 have h4 : decide ((volD xK yK 0 2).hi < (xK.getD 0 lr0).least) = false := by kernel_rfl
 rcases h with ⟨d, i, hd, hi, hn, hs, rfl, rfl, rfl⟩ | ⟨hn, _⟩
 ·have hi2 : i < 2 := hi
  have hd2 : d = 0 ∨ d = 1 := by omega
  have hi3 : i = 0 ∨ i = 1 := by omega
  rcases hd2 with rfl | rfl
  ·rcases hi3 with rfl | rfl
   ·rw [h1] at hs; cases hs
   ·rw [h2] at hs; cases hs
  ·rcases hi3 with rfl | rfl
   ·exact ⟨rfl, rfl, h4⟩
   ·have := hn.2 0 (by omega)
    rw [h3] at this
    cases this
 ·have := hn.1 2 0 (by omega) (by omega) (by decide)
  rw [h3] at this
  cases this
section
variable {n : Nat} {σ : Sg} {w : World} {dst : Option Tmp} {ty : TypeId} {pos : String} {af : Array Edge} {g : Option (Nat × Bool)} {x y z : Operand} {at' : Array TypeId}
theorem al_23 (a : Act) (_ : Env n σ a) : (execOp a.eval ⟨dst, .alloc 23, ty, pos, af, g⟩).run Try.prog w = .ok (.value (.pointer (some ⟨w.heap.size, 0, none⟩))) (w.alloc (.cells #[.int .i64 0, .int .i64 0, .int .i64 0, .int .i64 0, .int .i64 0, .bool false] 23)) := by
 simp only [execOp]
 simp [go_sem]
theorem bd_23_0_1_2_3_4 {x0 x1 x2 x3 x4 : Operand} {z0 : Int} {z1 : Int} {z2 : Int} {z3 : Int} {z4 : Int} (h0 : evS σ x0 = some (.int .i64 z0)) (h1 : evS σ x1 = some (.int .i64 z1)) (h2 : evS σ x2 = some (.int .i64 z2)) (h3 : evS σ x3 = some (.int .i64 z3)) (h4 : evS σ x4 = some (.int .i64 z4)) : Gives Try.prog n σ w ⟨dst, .build 23 #[(0, x0), (1, x1), (2, x2), (3, x3), (4, x4)], ty, pos, af, g⟩ (.agg #[.int .i64 z0, .int .i64 z1, .int .i64 z2, .int .i64 z3, .int .i64 z4, .bool false]) := fun a ha => by
 simp only [execOp, List.map_toArray, List.map_cons, List.map_nil, ha.eval h0, ha.eval h1, ha.eval h2, ha.eval h3, ha.eval h4]
 go_simp
theorem lv_23 {b o : Nat} {v0 v1 v2 v3 v4 v5 : Value} (c0 : w.cell? ⟨b, o, none⟩ = some v0) (c1 : w.cell? ⟨b, o + 1, none⟩ = some v1) (c2 : w.cell? ⟨b, o + 2, none⟩ = some v2) (c3 : w.cell? ⟨b, o + 3, none⟩ = some v3) (c4 : w.cell? ⟨b, o + 4, none⟩ = some v4) (c5 : w.cell? ⟨b, o + 5, none⟩ = some v5) : (loadVar 23 ⟨b, o, none⟩).run Try.prog w = .ok (.agg #[v0, v1, v2, v3, v4, v5]) w := by
 simp [go_sem, loadVar, c0, c1, c2, c3, c4, c5]
theorem bd_39_0_2_3_4 {x0 x1 x2 x3 : Operand} {b0 : Bool} {z1 : Int} {z2 : Int} {z3 : Int} (h0 : evS σ x0 = some (.bool b0)) (h1 : evS σ x1 = some (.int .i64 z1)) (h2 : evS σ x2 = some (.int .i64 z2)) (h3 : evS σ x3 = some (.int .i64 z3)) : Gives Try.prog n σ w ⟨dst, .build 39 #[(0, x0), (2, x1), (3, x2), (4, x3)], ty, pos, af, g⟩ (.agg #[.bool b0, .int .i64 0, .int .i64 z1, .int .i64 z2, .int .i64 z3]) := fun a ha => by
 simp only [execOp, List.map_toArray, List.map_cons, List.map_nil, ha.eval h0, ha.eval h1, ha.eval h2, ha.eval h3]
 go_simp
theorem bd_39_1_2_3_4 {x0 x1 x2 x3 : Operand} {z0 : Int} {z1 : Int} {z2 : Int} {z3 : Int} (h0 : evS σ x0 = some (.int .i64 z0)) (h1 : evS σ x1 = some (.int .i64 z1)) (h2 : evS σ x2 = some (.int .i64 z2)) (h3 : evS σ x3 = some (.int .i64 z3)) : Gives Try.prog n σ w ⟨dst, .build 39 #[(1, x0), (2, x1), (3, x2), (4, x3)], ty, pos, af, g⟩ (.agg #[.bool false, .int .i64 z0, .int .i64 z1, .int .i64 z2, .int .i64 z3]) := fun a ha => by
 simp only [execOp, List.map_toArray, List.map_cons, List.map_nil, ha.eval h0, ha.eval h1, ha.eval h2, ha.eval h3]
 go_simp
theorem bd_39_0_1_2_3 {x0 x1 x2 x3 : Operand} {b0 : Bool} {z1 : Int} {z2 : Int} {z3 : Int} (h0 : evS σ x0 = some (.bool b0)) (h1 : evS σ x1 = some (.int .i64 z1)) (h2 : evS σ x2 = some (.int .i64 z2)) (h3 : evS σ x3 = some (.int .i64 z3)) : Gives Try.prog n σ w ⟨dst, .build 39 #[(0, x0), (1, x1), (2, x2), (3, x3)], ty, pos, af, g⟩ (.agg #[.bool b0, .int .i64 z1, .int .i64 z2, .int .i64 z3, .int .i64 0]) := fun a ha => by
 simp only [execOp, List.map_toArray, List.map_cons, List.map_nil, ha.eval h0, ha.eval h1, ha.eval h2, ha.eval h3]
 go_simp
theorem bs_24_3 {x0 x1 x2 : Operand} {v0_0 v0_1 v0_2 v0_3 v0_4 v1_0 v1_1 v1_2 v1_3 v1_4 v2_0 v2_1 v2_2 v2_3 v2_4 : Value} (h0 : evS σ x0 = some (.agg #[v0_0, v0_1, v0_2, v0_3, v0_4])) (h1 : evS σ x1 = some (.agg #[v1_0, v1_1, v1_2, v1_3, v1_4])) (h2 : evS σ x2 = some (.agg #[v2_0, v2_1, v2_2, v2_3, v2_4]))  (a : Act) (ha : Env n σ a) : (execOp a.eval ⟨dst, .buildSlice 24 3 #[(0, x0), (1, x1), (2, x2)], ty, pos, af, g⟩).run Try.prog w = .ok (.value (.slice (some ⟨w.heap.size, 0, none⟩) 3 3)) (w.alloc (.cells #[v0_0, v0_1, v0_2, v0_3, v0_4, v1_0, v1_1, v1_2, v1_3, v1_4, v2_0, v2_1, v2_2, v2_3, v2_4] 39)) := by
 simp only [execOp, List.map_toArray, List.map_cons, List.map_nil, ha.eval h0, ha.eval h1, ha.eval h2]
 go_simp
theorem bd_69_0_1_2 {x0 x1 x2 : Operand} {z0 : Int} {z1 : Int} {v2_0 : Value} {v2_1 : Value} (h0 : evS σ x0 = some (.int .i64 z0)) (h1 : evS σ x1 = some (.int .i64 z1)) (h2 : evS σ x2 = some (.agg #[v2_0, v2_1])) : Gives Try.prog n σ w ⟨dst, .build 69 #[(0, x0), (1, x1), (2, x2)], ty, pos, af, g⟩ (.agg #[.int .i64 z0, .int .i64 z1, v2_0, v2_1]) := fun a ha => by
 simp only [execOp, List.map_toArray, List.map_cons, List.map_nil, ha.eval h0, ha.eval h1, ha.eval h2]
 go_simp
theorem bd_69_0 {x0 : Operand} {z0 : Int} (h0 : evS σ x0 = some (.int .i64 z0)) : Gives Try.prog n σ w ⟨dst, .build 69 #[(0, x0)], ty, pos, af, g⟩ (.agg #[.int .i64 z0, .int .i64 0, .int .i64 0, .int .i64 0]) := fun a ha => by
 simp only [execOp, List.map_toArray, List.map_cons, List.map_nil, ha.eval h0]
 go_simp
theorem bs_59_2 {x0 x1 : Operand} {v0_0 v0_1 v0_2 v0_3 v1_0 v1_1 v1_2 v1_3 : Value} (h0 : evS σ x0 = some (.agg #[v0_0, v0_1, v0_2, v0_3])) (h1 : evS σ x1 = some (.agg #[v1_0, v1_1, v1_2, v1_3]))  (a : Act) (ha : Env n σ a) : (execOp a.eval ⟨dst, .buildSlice 59 2 #[(0, x0), (1, x1)], ty, pos, af, g⟩).run Try.prog w = .ok (.value (.slice (some ⟨w.heap.size, 0, none⟩) 2 2)) (w.alloc (.cells #[v0_0, v0_1, v0_2, v0_3, v1_0, v1_1, v1_2, v1_3] 69)) := by
 simp only [execOp, List.map_toArray, List.map_cons, List.map_nil, ha.eval h0, ha.eval h1]
 go_simp
theorem bd_71_0_1 {x0 x1 : Operand} {z0 : Int} {v1_0 : Value} {v1_1 : Value} (h0 : evS σ x0 = some (.int .i64 z0)) (h1 : evS σ x1 = some (.agg #[v1_0, v1_1])) : Gives Try.prog n σ w ⟨dst, .build 71 #[(0, x0), (1, x1)], ty, pos, af, g⟩ (.agg #[.int .i64 z0, v1_0, v1_1]) := fun a ha => by
 simp only [execOp, List.map_toArray, List.map_cons, List.map_nil, ha.eval h0, ha.eval h1]
 go_simp
theorem bs_60_1 {x0 : Operand} {v0_0 v0_1 v0_2 : Value} (h0 : evS σ x0 = some (.agg #[v0_0, v0_1, v0_2]))  (a : Act) (ha : Env n σ a) : (execOp a.eval ⟨dst, .buildSlice 60 1 #[(0, x0)], ty, pos, af, g⟩).run Try.prog w = .ok (.value (.slice (some ⟨w.heap.size, 0, none⟩) 1 1)) (w.alloc (.cells #[v0_0, v0_1, v0_2] 71)) := by
 simp only [execOp, List.map_toArray, List.map_cons, List.map_nil, ha.eval h0]
 go_simp
theorem eql_35 {a0 a1 a2 a3 b0 b1 b2 b3 : Int} {r : Bool} (hx : evS σ x = some (.agg #[.int .i64 a0, .int .i64 a1, .int .i64 a2, .int .i64 a3])) (hy : evS σ y = some (.agg #[.int .i64 b0, .int .i64 b1, .int .i64 b2, .int .i64 b3])) (hc : decide (a0 = b0 ∧ a1 = b1 ∧ a2 = b2 ∧ a3 = b3) = r) : Gives Try.prog n σ w ⟨dst, .binOp .eql 35 x y 35, ty, pos, af, g⟩ (.bool r) := fun a ha => by
 subst hc
 simp only [execOp, ha.eval hx, ha.eval hy]
 go_simp
 repeat' split
 all_goals simp_all
theorem ix_31 {b o m c k : Nat} (hx : evS σ x = some (.slice (some ⟨b, o, none⟩) m c)) (hy : evS σ y = some (.int .i64 (k : Int))) (hk : k < m) : Gives Try.prog n σ w ⟨dst, .indexAddr 31 x y, ty, pos, af, g⟩ (.pointer (some ⟨b, o + k * 2, none⟩)) := fun a ha => by
 have k0 : (0 : Int) ≤ (k : Int) := Int.natCast_nonneg _;have k1 : (k : Int) < (m : Int) := by omega
 simp only [execOp, ha.eval hx, ha.eval hy]
 simp [go_sem, k0, k1]
theorem eql_49 {a0 a1 b0 b1 : Int} {r : Bool} (hx : evS σ x = some (.agg #[.int .i64 a0, .int .i64 a1])) (hy : evS σ y = some (.agg #[.int .i64 b0, .int .i64 b1])) (hc : decide (a0 = b0 ∧ a1 = b1) = r) : Gives Try.prog n σ w ⟨dst, .binOp .eql 49 x y 49, ty, pos, af, g⟩ (.bool r) := fun a ha => by
 subst hc
 simp only [execOp, ha.eval hx, ha.eval hy]
 go_simp
 repeat' split
 all_goals simp_all
theorem eql_67 {a0 a1 b0 b1 : Int} {r : Bool} (hx : evS σ x = some (.agg #[.int .i64 a0, .int .i64 a1])) (hy : evS σ y = some (.agg #[.int .i64 b0, .int .i64 b1])) (hc : decide (a0 = b0 ∧ a1 = b1) = r) : Gives Try.prog n σ w ⟨dst, .binOp .eql 67 x y 67, ty, pos, af, g⟩ (.bool r) := fun a ha => by
 subst hc
 simp only [execOp, ha.eval hx, ha.eval hy]
 go_simp
 repeat' split
 all_goals simp_all
theorem cA0 {F : FuncId} (hF : cF F)  (a : Act) (_ : Env n σ a) : (execOp a.eval ⟨dst, .call { callee := .value (.func F), args := #[], argTypes := at' }, ty, pos, af, g⟩).run Try.prog w = .ok (.enter F #[]) w := by
 simp only [execOp, resolve, List.map_toArray, List.map_nil]
 simp [go_sem, Act.eval, hF _ _]
theorem cF36 : cF 36 := fun _ _ => by simp [go_sem]
theorem cF37 : cF 37 := fun _ _ => by simp [go_sem]
theorem cF23 : cF 23 := fun _ _ => by simp [go_sem]
theorem bd_87_1 {x0 : Operand} {z0 : Int} (h0 : evS σ x0 = some (.int .i64 z0)) : Gives Try.prog n σ w ⟨dst, .build 87 #[(1, x0)], ty, pos, af, g⟩ (.agg #[.bool false, .int .i64 z0]) := fun a ha => by
 simp only [execOp, List.map_toArray, List.map_cons, List.map_nil, ha.eval h0]
 go_simp
theorem bs_25_3 {x0 x1 x2 : Operand} {v0_0 v0_1 v1_0 v1_1 v2_0 v2_1 : Value} (h0 : evS σ x0 = some (.agg #[v0_0, v0_1])) (h1 : evS σ x1 = some (.agg #[v1_0, v1_1])) (h2 : evS σ x2 = some (.agg #[v2_0, v2_1]))  (a : Act) (ha : Env n σ a) : (execOp a.eval ⟨dst, .buildSlice 25 3 #[(0, x0), (1, x1), (2, x2)], ty, pos, af, g⟩).run Try.prog w = .ok (.value (.slice (some ⟨w.heap.size, 0, none⟩) 3 3)) (w.alloc (.cells #[v0_0, v0_1, v1_0, v1_1, v2_0, v2_1] 87)) := by
 simp only [execOp, List.map_toArray, List.map_cons, List.map_nil, ha.eval h0, ha.eval h1, ha.eval h2]
 go_simp
theorem cF17 : cF 17 := fun _ _ => by simp [go_sem]
theorem cF16 : cF 16 := fun _ _ => by simp [go_sem]
theorem cF25 : cF 25 := fun _ _ => by simp [go_sem]
theorem cF38 : cF 38 := fun _ _ => by simp [go_sem]
theorem cF27 : cF 27 := fun _ _ => by simp [go_sem]
theorem ln_31 {A : Option Addr} {m c : Nat} (hx : evS σ x = some (.slice A m c)) : Gives Try.prog n σ w ⟨dst, .call { callee := .builtin .len, args := #[x], argTypes := #[31] }, ty, pos, af, g⟩ (.int .i64 (m : Int)) := fun a ha => by
 simp only [execOp, resolve, List.map_toArray, List.map_cons, List.map_nil, ha.eval hx]
 simp [go_sem]
theorem bd_35_0_1_2 {x0 x1 x2 : Operand} {z0 : Int} {z1 : Int} {z2 : Int} (h0 : evS σ x0 = some (.int .i64 z0)) (h1 : evS σ x1 = some (.int .i64 z1)) (h2 : evS σ x2 = some (.int .i64 z2)) : Gives Try.prog n σ w ⟨dst, .build 35 #[(0, x0), (1, x1), (2, x2)], ty, pos, af, g⟩ (.agg #[.int .i64 z0, .int .i64 z1, .int .i64 z2, .int .i64 0]) := fun a ha => by
 simp only [execOp, List.map_toArray, List.map_cons, List.map_nil, ha.eval h0, ha.eval h1, ha.eval h2]
 go_simp
theorem bd_49_0_1 {x0 x1 : Operand} {z0 : Int} {z1 : Int} (h0 : evS σ x0 = some (.int .i64 z0)) (h1 : evS σ x1 = some (.int .i64 z1)) : Gives Try.prog n σ w ⟨dst, .build 49 #[(0, x0), (1, x1)], ty, pos, af, g⟩ (.agg #[.int .i64 z0, .int .i64 z1]) := fun a ha => by
 simp only [execOp, List.map_toArray, List.map_cons, List.map_nil, ha.eval h0, ha.eval h1]
 go_simp
end
theorem one_any (w : World) : Calls Try.prog 36 #[] w fun e w' => e = .returned (.agg #[.int .i64 100, .int .i64 20, .int .i64 10, .int .i64 1000, .int .i64 40, .bool false]) ∧ Below w.heap.size w w' := by
 have hbw := Below.refl w.heap.size w;refine EC.enter 2 Try.func36 rfl rfl rfl (EC.seq (EC.region (EL.newP al_23 rfl ?_)));intro g1 w1 q1 hb1 hg1 hl1;have bhbw_1 := Nat.le_trans hbw.size hg1;replace hbw := bo_ hbw hb1;clear hb1 hg1 hl1;refine EL.nil (EX.seq (EC.seq (EC.region (EL.val (bd_23_0_1_2_3_4 rfl rfl rfl rfl rfl) rfl (EL.store rfl rfl q1 sz_23 rfl rfl rfl rfl ?_)))));intro w2 hq2 hg2;replace hbw := below_store hbw hg2 bhbw_1;replace q1 := hq2;clear hg2 hq2;refine EL.nil (EX.seq (EC.ret ?_))
 exact EX.done (resc1 rfl rfl (lv_23 (q1.at (j := 0) rfl) (q1.at (j := 1) rfl) (q1.at (j := 2) rfl) (q1.at (j := 3) rfl) (q1.at (j := 4) rfl) (q1.at (j := 5) rfl))) ⟨rfl, hbw⟩
theorem three_any (w : World) : Calls Try.prog 37 #[] w fun e w' => (∃ g, e = .returned (.slice (some ⟨g, 0, none⟩) 3 3) ∧ Blk w' g 39 (twsC threeK).toArray) ∧ Below w.heap.size w w' := by
 have hbw := Below.refl w.heap.size w;refine EC.enter 5 Try.func37 rfl rfl rfl (EC.seq (EC.region (EL.as rfl rfl (EL.nil (EX.seq (EC.seq (EC.region (EL.val (bd_39_0_2_3_4 rfl rfl rfl rfl) rfl (EL.val (bd_39_1_2_3_4 rfl rfl rfl rfl) rfl ?_)))))))));refine EL.val (bd_39_0_1_2_3 rfl rfl rfl rfl) rfl (EL.newS (bs_24_3 rfl rfl rfl) rfl ?_);intro g1 w1 q1 hb1 hg1 hl1;have bhbw_1 := Nat.le_trans hbw.size hg1;replace hbw := bo_ hbw hb1;clear hb1 hg1 hl1;refine EL.as rfl rfl (EL.nil (EX.seq (EC.ret ?_)))
 exact EX.done (res1 rfl rfl) ⟨⟨_, rfl, q1⟩, hbw⟩
theorem chain_any (w : World) : Calls Try.prog 38 #[] w fun e w' => (∃ g h, e = .returned (.tuple #[.slice (some ⟨g, 0, none⟩) 2 2, .slice (some ⟨h, 0, none⟩) 1 1]) ∧ Blk w' g 69 (lrsC xK).toArray ∧ Blk w' h 71 (ltsC yK).toArray) ∧ Below w.heap.size w w' := by
 have hbw := Below.refl w.heap.size w;refine EC.enter 9 Try.func38 rfl rfl rfl (EC.seq (EC.region (EL.as rfl rfl (EL.as rfl rfl (EL.nil (EX.seq (EC.seq (EC.region (EL.val (bd_67_0_1 rfl rfl) rfl ?_)))))))));refine EL.val (bd_69_0_1_2 rfl rfl rfl) rfl (EL.val (bd_69_0 rfl) rfl (EL.newS (bs_59_2 rfl rfl) rfl ?_));intro g1 w1 q1 hb1 hg1 hl1;have bhbw_1 := Nat.le_trans hbw.size hg1;replace hbw := bo_ hbw hb1;clear hb1 hg1 hl1;refine EL.val (bd_67_0_1 rfl rfl) rfl (EL.val (bd_71_0_1 rfl rfl) rfl (EL.newS (bs_60_1 rfl) rfl ?_));intro g2 w2 q2 hb2 hg2 hl2;have n1_2 := q1.na hg2;have bhbw_2 := Nat.le_trans hbw.size hg2;replace q1 := q1.bl hb2;replace hbw := bo_ hbw hb2;clear hb2 hg2 hl2;refine EL.as rfl rfl (EL.as rfl rfl (EL.nil (EX.seq (EC.ret ?_))))
 exact EX.done (res2 rfl rfl rfl) ⟨⟨_, _, rfl, q1, q2⟩, hbw⟩
theorem best_k {v : Value} {w : World} {B : Nat} (hr : Rd w B 5 v 3 (twsC threeK)) (hB : B ≤ w.heap.size) : Calls Try.prog 23 #[.agg #[.int .i64 100, .int .i64 20, .int .i64 10, .int .i64 1000, .int .i64 40, .bool false], v] w fun e w' => ∃ g c, e = .returned (.tuple #[.slice (some ⟨g, 0, none⟩) 2 c, .int .i64 140, .int .i64 0]) ∧ w'.ownsRow w.heap.size 87 2 (.slice (some ⟨g, 0, none⟩) 2 c) 2 (spsC [⟨true, 2⟩, ⟨false, 1⟩]) ∧ Below w.heap.size w w' :=
 (Best_any (l := oneK) (ts := threeK) hr hB).mono fun e w' ⟨sl, he, ho, hb⟩ => by
  rw [best_known] at he ho;obtain ⟨g, c, rfl⟩ := own_at0 ho (by decide)
  exact ⟨g, c, he, ho, hb⟩
theorem thrift_k {v : Value} {w : World} {B : Nat} (hr : Rd w B 5 v 3 (twsC threeK)) (hB : B ≤ w.heap.size) : Calls Try.prog 25 #[.agg #[.int .i64 100, .int .i64 20, .int .i64 10, .int .i64 1000, .int .i64 40, .bool false], v, .int .i64 140] w fun e w' => ∃ g c, e = .returned (.tuple #[.slice (some ⟨g, 0, none⟩) 2 c, .int .i64 140, .int .i64 0]) ∧ w'.ownsRow w.heap.size 87 2 (.slice (some ⟨g, 0, none⟩) 2 c) 2 (spsC [⟨true, 2⟩, ⟨false, 1⟩]) ∧ Below w.heap.size w w' :=
 (Thrift_any (l := oneK) (ts := threeK) hr hB).mono fun e w' ⟨sl, he, ho, hb⟩ => by
  rw [thrift_known] at he ho;obtain ⟨g, c, rfl⟩ := own_at0 ho (by decide)
  exact ⟨g, c, he, ho, hb⟩
theorem run_k {v vp : Value} {w : World} {B : Nat} (hr : Rd w B 5 v 3 (twsC threeK)) (hp : Rd w B 2 vp 3 (spsC planK)) (hB : B ≤ w.heap.size) : Calls Try.prog 16 #[.agg #[.int .i64 100, .int .i64 20, .int .i64 10, .int .i64 1000, .int .i64 40, .bool false], v, vp] w fun e w' => ∃ g c, e = .returned (.tuple #[.slice (some ⟨g, 0, none⟩) 3 c, .int .i64 140, .int .i64 3, .int .i64 0]) ∧ w'.ownsRow w.heap.size 49 2 (.slice (some ⟨g, 0, none⟩) 3 c) 3 (rnsC [⟨0, 20⟩, ⟨20, 40⟩, ⟨40, 60⟩]) ∧ Below w.heap.size w w' :=
 (Run_any (l := oneK) (ts := threeK) (p := planK) hr hp hB (by decide)).mono fun e w' ⟨sl, he, ho, hb⟩ => by
  obtain ⟨_, _, _, _, e5, e6⟩ := end_known;rw [carry_known, e5, e6] at he;rw [runs_known] at ho;obtain ⟨g, c, rfl⟩ := own_at0 ho (by decide)
  exact ⟨g, c, he, ho, hb⟩
theorem water_k {v vp : Value} {w : World} {B : Nat} (hr : Rd w B 5 v 3 (twsC threeK)) (hp : Rd w B 2 vp 3 (spsC planK)) (hB : B ≤ w.heap.size) : Calls Try.prog 17 #[.agg #[.int .i64 100, .int .i64 20, .int .i64 10, .int .i64 1000, .int .i64 40, .bool false], v, vp] w fun e w' => e = .returned (.tuple #[.agg #[.int .i64 (-1800), .int .i64 800, .int .i64 1000, .int .i64 0], .int .i64 0]) ∧ Below w.heap.size w w' :=
 (Water_any (l := oneK) (ts := threeK) (p := planK) hr hp hB (by decide)).mono fun e w' ⟨he, hb⟩ => by
  obtain ⟨e1, e2, e3, e4, _, _⟩ := end_known;rw [carry_known, e1, e2, e3, e4] at he
  exact ⟨he, hb⟩
theorem days_k {vx vy : Value} {w : World} {B : Nat} (hx : Rd w B 4 vx 2 (lrsC xK)) (hy : Rd w B 3 vy 1 (ltsC yK)) (hB : B ≤ w.heap.size) : Calls Try.prog 26 #[vx, vy, .int .i64 2] w fun e w' => ∃ g c g0 c0 g1 c1, e = .returned (.tuple #[.slice (some ⟨g, 0, none⟩) 2 c, .int .i64 0]) ∧ w'.ownsRow w.heap.size 73 1 (.slice (some ⟨g, 0, none⟩) 2 c) 2 [.slice (some ⟨g0, 0, none⟩) 2 c0, .slice (some ⟨g1, 0, none⟩) 2 c1] ∧ w'.ownsRow w.heap.size 67 2 (.slice (some ⟨g0, 0, none⟩) 2 c0) 2 (bdsC [⟨8500, 9600⟩, ⟨6000, 7000⟩]) ∧ w'.ownsRow w.heap.size 67 2 (.slice (some ⟨g1, 0, none⟩) 2 c1) 2 (bdsC [⟨7000, 9200⟩, ⟨7000, 9000⟩]) ∧ Below w.heap.size w w' :=
 (Days_any (x := xK) (y := yK) (days := 2) hx hy hB (by decide)).mono fun e w' ⟨sl, us, he, ho, _, hb⟩ => by
  rw [ch_known] at he;have h := ho ch_known;have h0 := h.row 0 (by decide)
  have h1 := h.row 1 (by decide)
  have hl := h.len;have hd := h.rd;rw [show (daysL xK yK (2 : Int).toNat).getD 0 [] = volL xK yK 1 from rfl, vol_known.1] at h0;rw [show (daysL xK yK (2 : Int).toNat).getD 1 [] = volL xK yK 2 from rfl, vol_known.2] at h1
  match us, hl with
  | [a, b], _ =>
   obtain ⟨g0, c0, e0⟩ := own_at0 h0 (by decide)
   obtain ⟨g1, c1, e1⟩ := own_at0 h1 (by decide)
   obtain ⟨g, c, rfl⟩ := own_at0 hd (by decide)
   have ea : a = .slice (some ⟨g0, 0, none⟩) 2 c0 := e0;have eb : b = .slice (some ⟨g1, 0, none⟩) 2 c1 := e1;subst ea eb
   exact ⟨g, c, g0, c0, g1, c1, he, hd, h0, h1, hb⟩
theorem short_k {vx vy : Value} {w : World} {B : Nat} (hx : Rd w B 4 vx 2 (lrsC xK)) (hy : Rd w B 3 vy 1 (ltsC yK)) (hB : B ≤ w.heap.size) : Calls Try.prog 27 #[vx, vy, .int .i64 2] w fun e w' => e = .returned (.tuple #[.int .i64 2, .int .i64 0, .bool false, .int .i64 0]) ∧ Below w.heap.size w w' :=
 (Short_any (x := xK) (y := yK) (days := 2) hx hy hB (by decide)).mono fun e w' ⟨day, reach, sure, he, hs, _, hb⟩ => by
  obtain ⟨rfl, rfl, rfl⟩ := short_known (hs ch_known);rw [ch_known] at he
  exact ⟨he, hb⟩
section
variable {n : Nat} {σ : Sg} {w : World} {dst : Option Tmp} {ty : TypeId} {pos : String} {af : Array Edge} {g : Option (Nat × Bool)} {x y : Operand}
theorem eqSP {a b : Bool} {m k : Int} {r : Bool} (hx : evS σ x = some (.agg #[.bool a, .int .i64 m])) (hy : evS σ y = some (.agg #[.bool b, .int .i64 k])) (hc : decide (a = b ∧ m = k) = r) : Gives Try.prog n σ w ⟨dst, .binOp .eql 87 x y 87, ty, pos, af, g⟩ (.bool r) := fun _ ha => by
 subst hc
 simp only [execOp, ha.eval hx, ha.eval hy]
 go_simp
 repeat' split
 all_goals simp_all
end
theorem own_cell {w : World} {base e z g m c : Nat} {xs : List Value} {j : Nat} {u : Value} (h : w.ownsRow base e z (.slice (some ⟨g, 0, none⟩) m c) m xs) (hj : xs[j]? = some u) : w.cell? ⟨g, 0 + j, none⟩ = some u := by
 obtain ⟨_, A, c2, e1, _, h1⟩ := Rd.of_own h
 injection e1 with e1 _ _
 subst e1;have hm : 0 < m := by
  rcases Nat.eq_zero_or_pos m with h0 | h0
  ·have := h.1
   rw [h0, Nat.zero_mul] at this;rw [List.eq_nil_of_length_eq_zero this] at hj
   cases hj
  ·exact h0
 obtain ⟨b, off, e2, _, h2⟩ := h1 hm
 injection e2 with e2
 injection e2 with e3 e4
 subst e3 e4
 exact h2 j u hj
set_option maxRecDepth 100000 in
theorem known_any (w : World) : Calls Try.prog 12 #[] w fun e w' => e = .returned (.bool true) ∧ Below w.heap.size w w' := by
 have hbw := Below.refl w.heap.size w;refine EC.enter 196 Try.func12 rfl rfl rfl (EC.seq (EC.region (EL.as rfl rfl (EL.nil (EX.seq (EC.seq (EC.region (EL.call (cA0 cF36) rfl (one_any _) ?_))))))))
 rintro e w1 ⟨rfl, hc1⟩
 refine ⟨_, rfl, ?_⟩;replace hbw := bo_ hbw hc1;clear hc1;refine EL.call (cA0 cF37) rfl (three_any _) ?_
 rintro e w2 ⟨⟨g3, rfl, q3⟩, hc2⟩
 refine ⟨_, rfl, ?_⟩;replace hbw := bo_ hbw hc2;clear hc2;refine EL.call (cA2 cF23 rfl rfl) rfl (best_k (rd_blk (k := 3) (l := twsC threeK) q3 rfl) (Nat.le_refl _)) ?_
 rintro e w3 ⟨gb, cb, rfl, hob, hc3⟩
 refine ⟨_, rfl, ?_⟩;replace hbw := bo_ hbw hc3;clear hc3;refine EL.mv rfl rfl (EL.xt rfl rfl rfl (EL.xt rfl rfl rfl (EL.xt rfl rfl rfl (EL.as rfl rfl (EL.as rfl rfl (EL.as rfl rfl (EL.nil (EX.seq (EC.seq ?_)))))))));refine EC.region (EL.val (bd_87_0_1 rfl rfl) rfl (EL.val (bd_87_1 rfl) rfl (EL.val (bd_87_0_1 rfl rfl) rfl (EL.newS (bs_25_3 rfl rfl rfl) rfl ?_))));intro g4 w4 q4 hb4 hg4 hl4;have bhbw_4 := Nat.le_trans hbw.size hg4;replace hob := own_below hob hb4 (Nat.le_refl _);replace hbw := bo_ hbw hb4;clear hb4 hg4 hl4;refine EL.as rfl rfl (EL.nil (EX.seq (EC.seq (EC.region (EL.call (cA0 cF36) rfl (one_any _) ?_)))))
 rintro e w5 ⟨rfl, hc5⟩
 refine ⟨_, rfl, ?_⟩;replace q4 := q4.bl hc5;replace hob := own_below hob hc5 (Nat.le_refl _);replace hbw := bo_ hbw hc5;clear hc5;refine EL.call (cA0 cF37) rfl (three_any _) ?_
 rintro e w6 ⟨⟨g3, rfl, q3⟩, hc6⟩
 refine ⟨_, rfl, ?_⟩;replace q4 := q4.bl hc6;replace hob := own_below hob hc6 (Nat.le_refl _);replace hbw := bo_ hbw hc6;clear hc6;refine EL.mv rfl rfl (EL.call (cA3 cF17 rfl rfl rfl) rfl (water_k (rd_blk (k := 3) (l := twsC threeK) q3 rfl) (rd_blk (k := 3) (l := spsC planK) q4 rfl) (Nat.le_refl _)) ?_)
 rintro e w7 ⟨rfl, hc7⟩
 refine ⟨_, rfl, ?_⟩;replace q4 := q4.bl hc7;replace hob := own_below hob hc7 (Nat.le_refl _);replace hbw := bo_ hbw hc7;clear hc7;refine EL.mv rfl rfl (EL.xt rfl rfl rfl (EL.xt rfl rfl rfl (EL.newP al_35 rfl ?_)));intro g8 w8 q8 hb8 hg8 hl8;have n4_8 := q4.na hg8;have bhbw_8 := Nat.le_trans hbw.size hg8;replace q4 := q4.bl hb8;replace hob := own_below hob hb8 (Nat.le_refl _);replace hbw := bo_ hbw hb8;clear hb8 hg8 hl8;refine EL.store rfl rfl q8 sz_35 rfl rfl rfl rfl ?_;intro w9 hq9 hg9;replace q4 := q4.gr hg9 n4_8;replace hob := own_type hob q8 rfl hg9;replace hbw := below_store hbw hg9 bhbw_8;replace q8 := hq9;clear hg9 hq9;refine EL.as rfl rfl (EL.nil (EX.seq (EC.seq (EC.region (EL.call (cA0 cF36) rfl (one_any _) ?_)))))
 rintro e w10 ⟨rfl, hc10⟩
 refine ⟨_, rfl, ?_⟩;replace q4 := q4.bl hc10;replace q8 := q8.bl hc10;replace hob := own_below hob hc10 (Nat.le_refl _);replace hbw := bo_ hbw hc10;clear hc10;refine EL.call (cA0 cF37) rfl (three_any _) ?_
 rintro e w11 ⟨⟨g3, rfl, q3⟩, hc11⟩
 refine ⟨_, rfl, ?_⟩;replace q4 := q4.bl hc11;replace q8 := q8.bl hc11;replace hob := own_below hob hc11 (Nat.le_refl _);replace hbw := bo_ hbw hc11;clear hc11;refine EL.mv rfl rfl (EL.call (cA3 cF16 rfl rfl rfl) rfl (run_k (rd_blk (k := 3) (l := twsC threeK) q3 rfl) (rd_blk (k := 3) (l := spsC planK) q4 rfl) (Nat.le_refl _)) ?_)
 rintro e w12 ⟨gr, cr, rfl, hor, hc12⟩
 refine ⟨_, rfl, ?_⟩;replace q4 := q4.bl hc12;replace q8 := q8.bl hc12;replace hob := own_below hob hc12 (Nat.le_refl _);replace hbw := bo_ hbw hc12;clear hc12;refine EL.mv rfl rfl (EL.xt rfl rfl rfl (EL.xt rfl rfl rfl (EL.xt rfl rfl rfl (EL.xt rfl rfl rfl (EL.as rfl rfl (EL.as rfl rfl (EL.as rfl rfl (EL.as rfl rfl (EL.nil ?_)))))))));refine EX.seq (EC.seq (EC.region (EL.call (cA0 cF36) rfl (one_any _) ?_)))
 rintro e w13 ⟨rfl, hc13⟩
 refine ⟨_, rfl, ?_⟩;replace q4 := q4.bl hc13;replace q8 := q8.bl hc13;replace hob := own_below hob hc13 (Nat.le_refl _);replace hor := own_below hor hc13 (Nat.le_refl _);replace hbw := bo_ hbw hc13;clear hc13;refine EL.call (cA0 cF37) rfl (three_any _) ?_
 rintro e w14 ⟨⟨g3, rfl, q3⟩, hc14⟩
 refine ⟨_, rfl, ?_⟩;replace q4 := q4.bl hc14;replace q8 := q8.bl hc14;replace hob := own_below hob hc14 (Nat.le_refl _);replace hor := own_below hor hc14 (Nat.le_refl _);replace hbw := bo_ hbw hc14;clear hc14;refine EL.call (cA3 cF25 rfl rfl rfl) rfl (thrift_k (rd_blk (k := 3) (l := twsC threeK) q3 rfl) (Nat.le_refl _)) ?_
 rintro e w15 ⟨gt, ct, rfl, hot, hc15⟩
 refine ⟨_, rfl, ?_⟩;replace q4 := q4.bl hc15;replace q8 := q8.bl hc15;replace hob := own_below hob hc15 (Nat.le_refl _);replace hor := own_below hor hc15 (Nat.le_refl _);replace hbw := bo_ hbw hc15;clear hc15;refine EL.mv rfl rfl (EL.xt rfl rfl rfl (EL.xt rfl rfl rfl (EL.xt rfl rfl rfl (EL.as rfl rfl (EL.as rfl rfl (EL.as rfl rfl (EL.nil (EX.seq (EC.seq ?_)))))))));refine EC.region (EL.call (cA0 cF38) rfl (chain_any _) ?_)
 rintro e w16 ⟨⟨gx, gy, rfl, qx, qy⟩, hc16⟩
 refine ⟨_, rfl, ?_⟩;replace q4 := q4.bl hc16;replace q8 := q8.bl hc16;replace hob := own_below hob hc16 (Nat.le_refl _);replace hor := own_below hor hc16 (Nat.le_refl _);replace hot := own_below hot hc16 (Nat.le_refl _);replace hbw := bo_ hbw hc16;clear hc16;refine EL.mv rfl rfl (EL.xt rfl rfl rfl (EL.xt rfl rfl rfl (EL.as rfl rfl (EL.as rfl rfl (EL.nil (EX.seq (EC.seq (EC.region (EL.mv rfl rfl ?_)))))))));refine EL.mv rfl rfl (EL.call (cA3 cF26 rfl rfl rfl) rfl (days_k (rd_blk (k := 2) (l := lrsC xK) qx rfl) (rd_blk (k := 1) (l := ltsC yK) qy rfl) (Nat.le_refl _)) ?_)
 rintro e w19 ⟨gd, cd, gd0, cd0, gd1, cd1, rfl, hod, hod0, hod1, hc19⟩
 refine ⟨_, rfl, ?_⟩;replace q4 := q4.bl hc19;replace q8 := q8.bl hc19;replace qx := qx.bl hc19;replace qy := qy.bl hc19;replace hob := own_below hob hc19 (Nat.le_refl _);replace hor := own_below hor hc19 (Nat.le_refl _);replace hot := own_below hot hc19 (Nat.le_refl _);replace hbw := bo_ hbw hc19;clear hc19;refine EL.mv rfl rfl (EL.xt rfl rfl rfl (EL.xt rfl rfl rfl (EL.as rfl rfl (EL.as rfl rfl (EL.nil (EX.seq (EC.seq (EC.region (EL.mv rfl rfl ?_)))))))));refine EL.mv rfl rfl (EL.call (cA3 cF27 rfl rfl rfl) rfl (short_k (rd_blk (k := 2) (l := lrsC xK) qx rfl) (rd_blk (k := 1) (l := ltsC yK) qy rfl) (Nat.le_refl _)) ?_)
 rintro e w20 ⟨rfl, hc20⟩
 refine ⟨_, rfl, ?_⟩;replace q4 := q4.bl hc20;replace q8 := q8.bl hc20;replace qx := qx.bl hc20;replace qy := qy.bl hc20;replace hob := own_below hob hc20 (Nat.le_refl _);replace hor := own_below hor hc20 (Nat.le_refl _);replace hot := own_below hot hc20 (Nat.le_refl _);replace hod := own_below hod hc20 (Nat.le_refl _);replace hod0 := own_below hod0 hc20 (Nat.le_refl _);replace hod1 := own_below hod1 hc20 (Nat.le_refl _);replace hbw := bo_ hbw hc20;clear hc20;refine EL.mv rfl rfl (EL.xt rfl rfl rfl (EL.xt rfl rfl rfl (EL.xt rfl rfl rfl (EL.xt rfl rfl rfl (EL.as rfl rfl (EL.as rfl rfl (EL.as rfl rfl (EL.as rfl rfl (EL.nil ?_)))))))));refine EX.seq (EC.seq (EC.seq (EC.region (EL.mv rfl rfl ?_))));refine EL.val (x_neq (r := false) rfl rfl (by decide)) rfl ?_
 refine EL.mv rfl rfl (EL.mg rfl rfl rfl rfl ?_);refine EL.valg rfl rfl (x_neq (r := false) rfl rfl (by decide)) rfl ?_
 refine EL.pf rfl rfl rfl (EL.mv rfl rfl (EL.mg rfl rfl rfl rfl ?_));refine EL.valg rfl rfl (x_neq (r := false) rfl rfl (by decide)) rfl ?_
 refine EL.pf rfl rfl rfl (EL.mv rfl rfl (EL.mg rfl rfl rfl rfl ?_));refine EL.valg rfl rfl (x_neq (r := false) rfl rfl (by decide)) rfl ?_
 refine EL.pf rfl rfl rfl (EL.mv rfl rfl (EL.mg rfl rfl rfl rfl ?_));refine EL.valg rfl rfl (x_neq (r := false) rfl rfl (by decide)) rfl ?_
 refine EL.pf rfl rfl rfl (EL.mv rfl rfl (EL.mg rfl rfl rfl rfl ?_));refine EL.valg rfl rfl (x_neq (r := false) rfl rfl (by decide)) rfl ?_
 refine EL.pf rfl rfl rfl (EL.mv rfl rfl (EL.mg rfl rfl rfl rfl (EL.valg rfl rfl (ln_25 rfl) rfl ?_)));refine EL.valg rfl rfl (x_neq (r := false) rfl rfl (by decide)) rfl ?_
 refine EL.pf rfl rfl rfl (EL.mv rfl rfl (EL.mg rfl rfl rfl rfl (EL.valg rfl rfl (ln_25 rfl) rfl ?_)));refine EL.valg rfl rfl (x_neq (r := false) rfl rfl (by decide)) rfl ?_
 refine EL.pf rfl rfl rfl (EL.mv rfl rfl (EL.mg rfl rfl rfl rfl (EL.valg rfl rfl (ln_31 rfl) rfl ?_)));refine EL.valg rfl rfl (x_neq (r := false) rfl rfl (by decide)) rfl ?_
 refine EL.pf rfl rfl rfl (EL.mv rfl rfl (EL.mg rfl rfl rfl rfl (EL.valg rfl rfl (ln_61 rfl) rfl ?_)));refine EL.valg rfl rfl (x_neq (r := false) rfl rfl (by decide)) rfl ?_
 refine EL.pf rfl rfl rfl (EL.mv rfl rfl (EL.mg rfl rfl rfl rfl ?_));refine EL.valg rfl rfl (ix_61 (k := 0) rfl rfl (by omega)) rfl ?_
 refine EL.valg rfl rfl (ld_73 rfl (own_val hod (k := 0) (Nat.zero_lt_succ _))) rfl (EL.valg rfl rfl (ln_73 rfl) rfl ?_);refine EL.valg rfl rfl (x_neq (r := false) rfl rfl (by decide)) rfl ?_
 refine EL.pf rfl rfl rfl (EL.mv rfl rfl (EL.mg rfl rfl rfl rfl ?_));refine EL.valg rfl rfl (ix_61 (k := 1) rfl rfl (by omega)) rfl ?_
 refine EL.valg rfl rfl (ld_73 rfl (own_val hod (k := 1) (Nat.lt_succ_self _))) rfl (EL.valg rfl rfl (ln_73 rfl) rfl ?_);refine EL.valg rfl rfl (x_neq (r := false) rfl rfl (by decide)) rfl ?_
 refine EL.pf rfl rfl rfl (EL.nil (EX.seq (EC.no rfl (EC.skip (EX.seq (EC.seq (EC.region (EL.mv rfl rfl ?_))))))));refine EL.val (ix_25 (k := 0) rfl rfl (by omega)) rfl ?_
 refine EL.val (ld_87 rfl (own_cell hob (j := 0) rfl) (own_cell hob (j := 1) rfl)) rfl (EL.val (bd_87_0_1 rfl rfl) rfl ?_);refine EL.val (eqSP (r := true) rfl rfl (by decide)) rfl ?_
 refine EL.mv rfl rfl (EL.mg rfl rfl rfl rfl ?_);refine EL.valg rfl rfl (x_eql (r := true) rfl rfl (by decide)) rfl ?_
 refine EL.pt rfl rfl rfl (EL.mv rfl rfl (EL.valg rfl rfl (ld_35 rfl (q8.at (j := 0) rfl) (q8.at (j := 1) rfl) (q8.at (j := 2) rfl) (q8.at (j := 3) rfl)) rfl (EL.valg rfl rfl (bd_35_0_1_2 rfl rfl rfl) rfl ?_)));refine EL.valg rfl rfl (eql_35 (r := true) rfl rfl (by decide)) rfl ?_
 refine EL.pt rfl rfl rfl (EL.mv rfl rfl (EL.mg rfl rfl rfl rfl ?_));refine EL.valg rfl rfl (ix_31 (k := 2) rfl rfl (by omega)) rfl ?_
 refine EL.valg rfl rfl (ld_49 rfl (own_cell hor (j := 4) rfl) (own_cell hor (j := 5) rfl)) rfl (EL.valg rfl rfl (bd_49_0_1 rfl rfl) rfl ?_);refine EL.valg rfl rfl (eql_49 (r := true) rfl rfl (by decide)) rfl ?_
 refine EL.pt rfl rfl rfl (EL.mv rfl rfl (EL.mg rfl rfl rfl rfl ?_));refine EL.valg rfl rfl (x_eql (r := true) rfl rfl (by decide)) rfl ?_
 refine EL.pt rfl rfl rfl (EL.mv rfl rfl (EL.mg rfl rfl rfl rfl ?_));refine EL.valg rfl rfl (x_eql (r := true) rfl rfl (by decide)) rfl ?_
 refine EL.pt rfl rfl rfl (EL.mv rfl rfl (EL.mg rfl rfl rfl rfl ?_));refine EL.valg rfl rfl (ix_25 (k := 1) rfl rfl (by omega)) rfl ?_
 refine EL.valg rfl rfl (ld_87 rfl (own_cell hot (j := 2) rfl) (own_cell hot (j := 3) rfl)) rfl (EL.valg rfl rfl (bd_87_1 rfl) rfl ?_);refine EL.valg rfl rfl (eqSP (r := true) rfl rfl (by decide)) rfl ?_
 refine EL.pt rfl rfl rfl (EL.mv rfl rfl (EL.mg rfl rfl rfl rfl ?_));refine EL.valg rfl rfl (ix_61 (k := 0) rfl rfl (by omega)) rfl ?_
 refine EL.valg rfl rfl (ld_73 rfl (own_val hod (k := 0) (Nat.zero_lt_succ _))) rfl ?_;refine EL.valg rfl rfl (ix_73 (k := 1) rfl rfl (by omega)) rfl ?_
 refine EL.valg rfl rfl (ld_67 rfl (own_cell hod0 (j := 2) rfl) (own_cell hod0 (j := 3) rfl)) rfl (EL.valg rfl rfl (bd_67_0_1 rfl rfl) rfl ?_);refine EL.valg rfl rfl (eql_67 (r := true) rfl rfl (by decide)) rfl ?_
 refine EL.pt rfl rfl rfl (EL.mv rfl rfl (EL.mg rfl rfl rfl rfl ?_));refine EL.valg rfl rfl (ix_61 (k := 1) rfl rfl (by omega)) rfl ?_
 refine EL.valg rfl rfl (ld_73 rfl (own_val hod (k := 1) (Nat.lt_succ_self _))) rfl ?_;refine EL.valg rfl rfl (ix_73 (k := 0) rfl rfl (by omega)) rfl ?_
 refine EL.valg rfl rfl (ld_67 rfl (own_cell hod1 (j := 0) rfl) (own_cell hod1 (j := 1) rfl)) rfl (EL.valg rfl rfl (bd_67_0_1 rfl rfl) rfl ?_);refine EL.valg rfl rfl (eql_67 (r := true) rfl rfl (by decide)) rfl ?_
 refine EL.pt rfl rfl rfl (EL.mv rfl rfl (EL.mg rfl rfl rfl rfl ?_));refine EL.valg rfl rfl (x_eql (r := true) rfl rfl (by decide)) rfl ?_
 refine EL.pt rfl rfl rfl (EL.mv rfl rfl (EL.mg rfl rfl rfl rfl ?_));refine EL.valg rfl rfl (x_eql (r := true) rfl rfl (by decide)) rfl ?_
 refine EL.pt rfl rfl rfl (EL.mv rfl rfl (EL.mg rfl rfl rfl rfl (EL.valg rfl rfl (x_not rfl) rfl (EL.pt rfl rfl rfl (EL.as rfl rfl (EL.nil (EX.seq (EC.ret ?_))))))))
 exact EX.done (res1 rfl rfl) ⟨rfl, hbw⟩
section
variable {n : Nat} {σ : Sg} {w : World} {dst : Option Tmp} {ty : TypeId} {pos : String} {af : Array Edge} {g : Option (Nat × Bool)} {x y z : Operand} {at' : Array TypeId}
theorem cF41 : cF 41 := fun _ _ => by simp [go_sem]
theorem cF29 : cF 29 := fun _ _ => by simp [go_sem]
end
theorem rin_any (n a b : Int) (w : World) : Calls Try.prog 41 #[.int .i64 n, .int .i64 a, .int .i64 b] w fun e w' => e = .returned (.bool (inB a b n)) ∧ Below w.heap.size w w' := by
 have hbw := Below.refl w.heap.size w;refine EC.enter 15 Try.func41 rfl rfl rfl (EC.seq (EC.region (EL.as rfl rfl (EL.nil (EX.seq (EC.seq (EC.region (EL.mv rfl rfl (EL.mv rfl rfl ?_)))))))))
 by_cases h1 : a ≤ n
 ·
  refine EL.val (x_geq (r := true) rfl rfl (decide_eq_true (by omega))) rfl ?_
  refine EL.mv rfl rfl (EL.mg rfl rfl rfl rfl (EL.mg rfl rfl rfl rfl ?_))
  by_cases h2 : n ≤ b
  ·
   refine EL.valg rfl rfl (x_leq (r := true) rfl rfl (decide_eq_true (by omega))) rfl ?_
   refine EL.pt rfl rfl rfl (EL.as rfl rfl (EL.nil (EX.seq (EC.ret ?_))))
   exact EX.done (res1 rfl rfl) ⟨by unfold inB; simp [*], hbw⟩
  ·
   refine EL.valg rfl rfl (x_leq (r := false) rfl rfl (decide_eq_false (by omega))) rfl ?_
   refine EL.pt rfl rfl rfl (EL.as rfl rfl (EL.nil (EX.seq (EC.ret ?_))))
   exact EX.done (res1 rfl rfl) ⟨by unfold inB; simp [*], hbw⟩
 ·
  refine EL.val (x_geq (r := false) rfl rfl (decide_eq_false (by omega))) rfl ?_
  refine EL.mv rfl rfl (EL.skip rfl rfl rfl rfl (EL.skip rfl rfl rfl rfl (EL.skip rfl rfl rfl rfl (EL.pf rfl rfl rfl (EL.as rfl rfl (EL.nil (EX.seq (EC.ret ?_))))))))
  exact EX.done (res1 rfl rfl) ⟨by unfold inB; simp [*], hbw⟩
theorem rin_to {n a b : Int} {c : Bool} (h : inB a b n = c) (w : World) : Calls Try.prog 41 #[.int .i64 n, .int .i64 a, .int .i64 b] w fun e w' => e = .returned (.bool c) ∧ Below w.heap.size w w' := h ▸ rin_any n a b w
section
variable {x : List LR} {y : List LT} {days : Int}
theorem ch_5 (h : 10 < x.length) : chE x y days = 5 := if_pos h
theorem ch_4 (h : ¬10 < x.length) (h2 : x.length = 0 ∨ y.length + 1 ≠ x.length) : chE x y days = 4 := by unfold chE; rw [if_neg h, if_pos h2]
theorem ch_2a (h : ¬10 < x.length) (h2 : ¬(x.length = 0 ∨ y.length + 1 ≠ x.length)) (h3 : x.all lrB = false) : chE x y days = 2 := by unfold chE; rw [if_neg h, if_neg h2, h3]; rfl
theorem ch_2b (h : ¬10 < x.length) (h2 : ¬(x.length = 0 ∨ y.length + 1 ≠ x.length)) (h3 : x.all lrB = true) (h4 : y.all ltB = false) : chE x y days = 2 := by unfold chE; rw [if_neg h, if_neg h2, h3, h4]; rfl
theorem ch_e (h : ¬10 < x.length) (h2 : ¬(x.length = 0 ∨ y.length + 1 ≠ x.length)) (h3 : x.all lrB = true) (h4 : y.all ltB = true) : chE x y days = if inB 0 60 days = true then 0 else 3 := by unfold chE; rw [if_neg h, if_neg h2, h3, h4]; rfl
end
theorem all_getD {α : Type} {l : List α} {p : α → Bool} {d : α} (h : ∀ i, i < l.length → p (l.getD i d) = true) : l.all p = true := List.all_eq_true.2 fun x hx => by
 obtain ⟨i, hi, e⟩ := List.getElem_of_mem hx;have := h i hi;rw [getD_in hi, e] at this
 exact this
theorem all_bad {α : Type} {l : List α} {p : α → Bool} {d : α} {k : Nat} (hk : k < l.length) (h : p (l.getD k d) = false) : l.all p = false := by
 cases e : l.all p with
 | false => rfl
 | true => rw [List.all_eq_true.1 e _ (getD_mem hk d)] at h; cases h
theorem lr_good {c : LR} (k1 : inB 0 1000000000000 c.vol = true) (k2 : inB 0 1000000000000 c.least = true) (k3 : ¬c.inf.lo < 0) (k4 : ¬c.inf.hi < c.inf.lo) (k5 : ¬1000000000000 < c.inf.hi) : lrB c = true := by
 unfold lrB
 rw [k1, k2, bdB_iff.2 ⟨by omega, by omega, by omega⟩]
 rfl
theorem lt_good {c : LT} (k1 : inB 0 1000000 c.fill = true) (k3 : ¬c.cyc.lo < 0) (k4 : ¬c.cyc.hi < c.cyc.lo) (k5 : ¬100 < c.cyc.hi) : ltB c = true := by
 unfold ltB
 rw [k1, bdB_iff.2 ⟨by omega, by omega, by omega⟩]
 rfl
theorem b_false {b : Bool} (h : b = true → False) : b = false := by
 cases b with
 | false => rfl
 | true => exact (h rfl).elim
theorem lr_parts {c : LR} (h : lrB c = true) : inB 0 1000000000000 c.vol = true ∧ inB 0 1000000000000 c.least = true ∧ 0 ≤ c.inf.lo ∧ c.inf.lo ≤ c.inf.hi ∧ c.inf.hi ≤ 1000000000000 := by
 unfold lrB at h
 rw [Bool.and_eq_true, Bool.and_eq_true, bdB_iff] at h
 exact ⟨h.1.1, h.1.2, h.2.1, h.2.2.1, h.2.2.2⟩
theorem lt_parts {c : LT} (h : ltB c = true) : inB 0 1000000 c.fill = true ∧ 0 ≤ c.cyc.lo ∧ c.cyc.lo ≤ c.cyc.hi ∧ c.cyc.hi ≤ 100 := by
 unfold ltB at h
 rw [Bool.and_eq_true, bdB_iff] at h
 exact ⟨h.1, h.2.1, h.2.2.1, h.2.2.2⟩
theorem rChain_any {x : List LR} {y : List LT} {vx vy : Value} {w : World} {B : Nat} (hx : Rd w B 4 vx x.length (lrsC x)) (hy : Rd w B 3 vy y.length (ltsC y)) (hB : B ≤ w.heap.size) {days : Int} (hyn : y.length ≤ 1000000) (hxn : x.length ≤ 1000000) :
  Calls Try.prog 28 #[vx, vy, .int .i64 days] w fun e w' => e = .returned (.int .i64 (chE x y days)) ∧ Below w.heap.size w w' := by
 obtain ⟨Ax, cx, rfl, _⟩ := hx.shape;obtain ⟨Ay, cy, rfl, _⟩ := hy.shape;have hbw := Below.refl w.heap.size w;refine EC.enter 104 Try.func28 rfl rfl rfl (EC.seq (EC.region (EL.as rfl rfl (EL.nil (EX.seq (EC.seq (EC.seq (EC.region (EL.mv rfl rfl ?_)))))))));refine EL.val (ln_59 rfl) rfl ?_
 by_cases hg1_ : 10 < x.length
 ·
  refine EL.val (x_gtr (r := true) rfl rfl (decide_eq_true (by omega))) rfl ?_
  refine EL.nil (EX.seq (EC.yes rfl (EC.seq (EC.region (EL.as rfl rfl (EL.nil (EX.seq (EC.ret (EX.seq_ret ?_)))))))))
  exact EX.done (res1 rfl rfl) ⟨by rw [ch_5 hg1_], hbw⟩
 ·
  refine EL.val (x_gtr (r := false) rfl rfl (decide_eq_false (by omega))) rfl ?_
  refine EL.nil (EX.seq (EC.no rfl (EC.skip (EX.seq (EC.seq (EC.seq (EC.region (EL.mv rfl rfl (EL.val (ln_59 rfl) rfl ?_)))))))))
  by_cases hg2_ : x.length = 0
  ·
   refine EL.val (x_eql (r := true) rfl rfl (decide_eq_true (by omega))) rfl ?_
   refine EL.mv rfl rfl (EL.skip rfl rfl rfl rfl (EL.skip rfl rfl rfl rfl (EL.skip rfl rfl rfl rfl (EL.skip rfl rfl rfl rfl (EL.skip rfl rfl rfl rfl (EL.skip rfl rfl rfl rfl (EL.pt rfl rfl rfl (EL.nil (EX.seq ?_)))))))));refine EC.yes rfl (EC.seq (EC.region (EL.as rfl rfl (EL.nil (EX.seq (EC.ret (EX.seq_ret ?_)))))))
   exact EX.done (res1 rfl rfl) ⟨by rw [ch_4 hg1_ (.inl hg2_)], hbw⟩
  ·
   refine EL.val (x_eql (r := false) rfl rfl (decide_eq_false (by omega))) rfl ?_
   refine EL.mv rfl rfl (EL.mg rfl rfl rfl rfl (EL.valg rfl rfl (ln_60 rfl) rfl (EL.mg rfl rfl rfl rfl (EL.valg rfl rfl (ln_59 rfl) rfl ?_))));refine EL.valg rfl rfl (x_sub rfl rfl (IntWalk.i64_in _ ⟨by omega, by omega⟩)) rfl ?_
   by_cases hg3_ : y.length + 1 = x.length
   ·
    have hg4_ : ¬(x.length = 0 ∨ y.length + 1 ≠ x.length) := by omega
    refine EL.valg rfl rfl (x_neq (r := false) rfl rfl (decide_eq_false (by omega))) rfl ?_
    refine EL.pf rfl rfl rfl (EL.nil (EX.seq (EC.no rfl (EC.skip (EX.seq (EC.seq (EC.seq (EC.region (EL.as rfl rfl ?_)))))))));refine EL.nil (EX.seq (EC.block ?_));refine EC.loopD [6, 7, 8, 25, 26, 27, 28, 29, 30, 31, 32, 33, 34, 35, 36, 37, 38, 39, 40, 41, 42, 43, 44, 45, 46, 47, 48, 49, 50, 51, 52, 53, 54, 55, 56, 57, 58, 59, 60, 61, 62, 63, 64, 65] (fun k : Nat => [(7, .int .i64 (k : Nat))]) (fun k W => k ≤ x.length ∧ (∀ i, i < k → lrB (x.getD i lr0) = true) ∧ Below w.heap.size w W) (fun k => x.length - k) 0 ⟨Nat.zero_le _, (fun i hi => absurd hi (Nat.not_lt_zero i)), hbw⟩ ⟨rfl, trivial⟩ ?_
    clear  hbw
    rintro k wk ⟨hk, hok, hbw⟩
    by_cases hltk : k < x.length
    ·
     obtain ⟨b, o, rfl, _, cc⟩ := lrs_cells x k hltk w B _ _ _ hx;have hget : ∀ v, lrB (x.getD k lr0) = v → lrB (x.getD k lr0) = v := fun _ h => h
     generalize hcx : x.getD k lr0 = c at cc hget
     refine EC.seq (EC.seq (EC.region (EL.mv rfl rfl (EL.mv rfl rfl (EL.val (ln_59 rfl) rfl ?_)))));refine EL.val (x_lss (r := true) rfl rfl (decide_eq_true (by omega))) rfl ?_
     refine EL.nil (EX.seq (EC.yes rfl (EC.skip (EX.seq (EC.seq (EC.block (EC.seq (EC.region (EL.mv rfl rfl ?_)))))))));refine EL.mv rfl rfl (EL.val (ix_59 rfl rfl hltk) rfl (EL.val (ld_69 rfl (below_load hbw cc.c0) (below_load hbw cc.c1) (below_load hbw cc.c2) (below_load hbw cc.c3)) rfl (EL.newP al_69 rfl ?_)));intro g1 w1 q1 hb1 hg1 hl1;have bhbw_1 := Nat.le_trans hbw.size hg1;replace hbw := bo_ hbw hb1;clear hb1 hg1 hl1;refine EL.store rfl rfl q1 sz_69 rfl rfl rfl rfl ?_;intro w2 hq2 hg2;replace hbw := below_store hbw hg2 bhbw_1;replace q1 := hq2;clear hg2 hq2;refine EL.nil (EX.seq (EC.seq (EC.region (EL.val (fa_69_0 rfl) rfl (EL.val (ld_3 rfl (q1.at (j := 0) rfl)) rfl ?_)))))
     cases k1 : inB 0 1000000000000 c.vol
     ·
      refine EL.call (cA3 cF41 rfl rfl rfl) rfl (rin_to k1 _) ?_
      rintro e w3 ⟨rfl, hc3⟩
      refine ⟨_, rfl, ?_⟩;replace q1 := q1.bl hc3;replace hbw := bo_ hbw hc3;clear hc3;refine EL.val (x_not rfl) rfl (EL.mv rfl rfl (EL.skip rfl rfl rfl rfl (EL.skip rfl rfl rfl rfl (EL.skip rfl rfl rfl rfl (EL.skip rfl rfl rfl rfl (EL.pt rfl rfl rfl (EL.mv rfl rfl (EL.skip rfl rfl rfl rfl (EL.skip rfl rfl rfl rfl ?_)))))))));refine EL.skip rfl rfl rfl rfl (EL.skip rfl rfl rfl rfl (EL.pt rfl rfl rfl (EL.mv rfl rfl (EL.skip rfl rfl rfl rfl (EL.skip rfl rfl rfl rfl (EL.skip rfl rfl rfl rfl (EL.skip rfl rfl rfl rfl (EL.skip rfl rfl rfl rfl (EL.skip rfl rfl rfl rfl ?_)))))))));refine EL.skip rfl rfl rfl rfl (EL.pt rfl rfl rfl (EL.mv rfl rfl (EL.skip rfl rfl rfl rfl (EL.skip rfl rfl rfl rfl (EL.skip rfl rfl rfl rfl (EL.skip rfl rfl rfl rfl (EL.pt rfl rfl rfl (EL.nil (EX.seq ?_)))))))));refine EC.yes rfl (EC.seq (EC.region (EL.as rfl rfl (EL.nil (EX.seq (EC.ret (EX.blk_ret (EX.seq_ret (EX.seq_ret ?_)))))))));refine EX.blk_ret (EX.seq_ret ?_)
      exact EX.done (res1 rfl rfl) ⟨by rw [ch_2a hg1_ hg4_ (all_bad hltk (by rw [hcx]; exact b_false (fun e => by obtain ⟨z1, z2, z3, z4, z5⟩ := lr_parts e; first | omega | (rw [k1] at z1; exact absurd z1 (by decide)) | (rw [k2] at z2; exact absurd z2 (by decide)))))], hbw⟩
     ·
      refine EL.call (cA3 cF41 rfl rfl rfl) rfl (rin_to k1 _) ?_
      rintro e w4 ⟨rfl, hc4⟩
      refine ⟨_, rfl, ?_⟩;replace q1 := q1.bl hc4;replace hbw := bo_ hbw hc4;clear hc4;refine EL.val (x_not rfl) rfl (EL.mv rfl rfl (EL.valg rfl rfl (fa_69_1 rfl) rfl (EL.valg rfl rfl (ld_3 rfl (q1.at (j := 1) rfl)) rfl ?_)))
      cases k2 : inB 0 1000000000000 c.least
      ·
       refine EL.callg rfl rfl (cA3 cF41 rfl rfl rfl) rfl (rin_to k2 _) ?_
       rintro e w5 ⟨rfl, hc5⟩
       refine ⟨_, rfl, ?_⟩;replace q1 := q1.bl hc5;replace hbw := bo_ hbw hc5;clear hc5;refine EL.valg rfl rfl (x_not rfl) rfl (EL.pf rfl rfl rfl (EL.mv rfl rfl (EL.skip rfl rfl rfl rfl (EL.skip rfl rfl rfl rfl (EL.skip rfl rfl rfl rfl (EL.skip rfl rfl rfl rfl (EL.pt rfl rfl rfl (EL.mv rfl rfl (EL.skip rfl rfl rfl rfl ?_)))))))));refine EL.skip rfl rfl rfl rfl (EL.skip rfl rfl rfl rfl (EL.skip rfl rfl rfl rfl (EL.skip rfl rfl rfl rfl (EL.skip rfl rfl rfl rfl (EL.skip rfl rfl rfl rfl (EL.pt rfl rfl rfl (EL.mv rfl rfl (EL.skip rfl rfl rfl rfl (EL.skip rfl rfl rfl rfl ?_)))))))));refine EL.skip rfl rfl rfl rfl (EL.skip rfl rfl rfl rfl (EL.pt rfl rfl rfl (EL.nil (EX.seq (EC.yes rfl (EC.seq (EC.region (EL.as rfl rfl (EL.nil ?_)))))))));refine EX.seq (EC.ret (EX.blk_ret (EX.seq_ret (EX.seq_ret (EX.blk_ret (EX.seq_ret ?_))))))
       exact EX.done (res1 rfl rfl) ⟨by rw [ch_2a hg1_ hg4_ (all_bad hltk (by rw [hcx]; exact b_false (fun e => by obtain ⟨z1, z2, z3, z4, z5⟩ := lr_parts e; first | omega | (rw [k1] at z1; exact absurd z1 (by decide)) | (rw [k2] at z2; exact absurd z2 (by decide)))))], hbw⟩
      ·
       refine EL.callg rfl rfl (cA3 cF41 rfl rfl rfl) rfl (rin_to k2 _) ?_
       rintro e w6 ⟨rfl, hc6⟩
       refine ⟨_, rfl, ?_⟩;replace q1 := q1.bl hc6;replace hbw := bo_ hbw hc6;clear hc6;refine EL.valg rfl rfl (x_not rfl) rfl (EL.pf rfl rfl rfl (EL.mv rfl rfl (EL.valg rfl rfl (fa_69_2 rfl) rfl (EL.valg rfl rfl (fa_67_0 rfl) rfl (EL.valg rfl rfl (ld_3 rfl (q1.at (j := 2) rfl)) rfl ?_)))))
       by_cases k3 : c.inf.lo < 0
       ·
        refine EL.valg rfl rfl (x_lss (r := true) rfl rfl (decide_eq_true (by omega))) rfl ?_
        refine EL.pf rfl rfl rfl (EL.mv rfl rfl (EL.skip rfl rfl rfl rfl (EL.skip rfl rfl rfl rfl (EL.skip rfl rfl rfl rfl (EL.skip rfl rfl rfl rfl (EL.skip rfl rfl rfl rfl (EL.skip rfl rfl rfl rfl (EL.skip rfl rfl rfl rfl (EL.pt rfl rfl rfl ?_)))))))));refine EL.mv rfl rfl (EL.skip rfl rfl rfl rfl (EL.skip rfl rfl rfl rfl (EL.skip rfl rfl rfl rfl (EL.skip rfl rfl rfl rfl (EL.pt rfl rfl rfl (EL.nil (EX.seq (EC.yes rfl (EC.seq ?_)))))))));refine EC.region (EL.as rfl rfl (EL.nil (EX.seq (EC.ret (EX.blk_ret (EX.seq_ret (EX.seq_ret (EX.blk_ret (EX.seq_ret ?_)))))))))
        exact EX.done (res1 rfl rfl) ⟨by rw [ch_2a hg1_ hg4_ (all_bad hltk (by rw [hcx]; exact b_false (fun e => by obtain ⟨z1, z2, z3, z4, z5⟩ := lr_parts e; first | omega | (rw [k1] at z1; exact absurd z1 (by decide)) | (rw [k2] at z2; exact absurd z2 (by decide)))))], hbw⟩
       ·
        refine EL.valg rfl rfl (x_lss (r := false) rfl rfl (decide_eq_false (by omega))) rfl ?_
        refine EL.pf rfl rfl rfl (EL.mv rfl rfl (EL.valg rfl rfl (fa_69_2 rfl) rfl (EL.valg rfl rfl (fa_67_0 rfl) rfl (EL.valg rfl rfl (ld_3 rfl (q1.at (j := 2) rfl)) rfl (EL.valg rfl rfl (fa_69_2 rfl) rfl (EL.valg rfl rfl (fa_67_1 rfl) rfl (EL.valg rfl rfl (ld_3 rfl (q1.at (j := 3) rfl)) rfl ?_)))))))
        by_cases k4 : c.inf.hi < c.inf.lo
        ·
         refine EL.valg rfl rfl (x_gtr (r := true) rfl rfl (decide_eq_true (by omega))) rfl ?_
         refine EL.pf rfl rfl rfl (EL.mv rfl rfl (EL.skip rfl rfl rfl rfl (EL.skip rfl rfl rfl rfl (EL.skip rfl rfl rfl rfl (EL.skip rfl rfl rfl rfl (EL.pt rfl rfl rfl (EL.nil (EX.seq (EC.yes rfl ?_)))))))));refine EC.seq (EC.region (EL.as rfl rfl (EL.nil (EX.seq (EC.ret (EX.blk_ret (EX.seq_ret (EX.seq_ret (EX.blk_ret ?_)))))))));refine EX.seq_ret ?_
         exact EX.done (res1 rfl rfl) ⟨by rw [ch_2a hg1_ hg4_ (all_bad hltk (by rw [hcx]; exact b_false (fun e => by obtain ⟨z1, z2, z3, z4, z5⟩ := lr_parts e; first | omega | (rw [k1] at z1; exact absurd z1 (by decide)) | (rw [k2] at z2; exact absurd z2 (by decide)))))], hbw⟩
        ·
         refine EL.valg rfl rfl (x_gtr (r := false) rfl rfl (decide_eq_false (by omega))) rfl ?_
         refine EL.pf rfl rfl rfl (EL.mv rfl rfl (EL.valg rfl rfl (fa_69_2 rfl) rfl (EL.valg rfl rfl (fa_67_1 rfl) rfl (EL.valg rfl rfl (ld_3 rfl (q1.at (j := 3) rfl)) rfl ?_))))
         by_cases k5 : 1000000000000 < c.inf.hi
         ·
          refine EL.valg rfl rfl (x_gtr (r := true) rfl rfl (decide_eq_true (by omega))) rfl ?_
          refine EL.pf rfl rfl rfl (EL.nil (EX.seq (EC.yes rfl (EC.seq (EC.region (EL.as rfl rfl (EL.nil (EX.seq (EC.ret ?_)))))))));refine EX.blk_ret (EX.seq_ret (EX.seq_ret (EX.blk_ret (EX.seq_ret ?_))))
          exact EX.done (res1 rfl rfl) ⟨by rw [ch_2a hg1_ hg4_ (all_bad hltk (by rw [hcx]; exact b_false (fun e => by obtain ⟨z1, z2, z3, z4, z5⟩ := lr_parts e; first | omega | (rw [k1] at z1; exact absurd z1 (by decide)) | (rw [k2] at z2; exact absurd z2 (by decide)))))], hbw⟩
         ·
          refine EL.valg rfl rfl (x_gtr (r := false) rfl rfl (decide_eq_false (by omega))) rfl ?_
          refine EL.pf rfl rfl rfl (EL.nil (EX.seq (EC.no rfl (EC.skip (EX.blk (EX.seq (EC.region (EL.mv rfl rfl ?_))))))));refine EL.val (x_add rfl rfl (c := ((k + 1 : Nat) : Int)) ((IntWalk.i64_in _ ⟨by first | omega | (simp only; omega), by first | omega | (simp only; omega)⟩).trans (by first | omega | (simp only; omega)))) rfl ?_
          refine EL.as rfl rfl (EL.nil ?_);refine EX.roundD (k + 1) ⟨rfl, trivial⟩ (by repeat first | with_reducible exact .refl _ | refine sp_ rfl ?_ | exact .refl _ | refine sd_ rfl ?_ | refine sn_ ?_) ⟨hltk, (ok_more hok (by rw [hcx]; exact lr_good k1 k2 k3 k4 k5)), hbw⟩ (by omega)
    ·
     obtain rfl : k = x.length := by omega
     have hall := all_getD hok;refine EC.seq (EC.seq (EC.region (EL.mv rfl rfl (EL.mv rfl rfl (EL.val (ln_59 rfl) rfl ?_)))));refine EL.val (x_lss (r := false) rfl rfl (decide_eq_false (by omega))) rfl ?_
     refine EL.nil (EX.seq (EC.no rfl (EC.exit (EX.seq_exit (EX.seq_exit (EX.blk_here (EX.seq (EC.seq (EC.seq ?_)))))))));refine EC.region (EL.as rfl rfl (EL.nil (EX.seq (EC.block ?_))));refine EC.loopD [6, 9, 10, 66, 67, 68, 69, 70, 71, 72, 73, 74, 75, 76, 77, 78, 79, 80, 81, 82, 83, 84, 85, 86, 87, 88, 89, 90, 91, 92, 93, 94, 95, 96, 97, 98, 99, 100] (fun j : Nat => [(9, .int .i64 (j : Nat))]) (fun j W => j ≤ y.length ∧ (∀ i, i < j → ltB (y.getD i lt0) = true) ∧ Below w.heap.size w W) (fun j => y.length - j) 0 ⟨Nat.zero_le _, (fun i hi => absurd hi (Nat.not_lt_zero i)), hbw⟩ ⟨rfl, trivial⟩ ?_
     clear  hbw
     rintro j wj ⟨hj, hok2, hbw⟩
     by_cases hltj : j < y.length
     ·
      obtain ⟨b, o, rfl, _, cc⟩ := lts_cells y j hltj w B _ _ _ hy
      generalize hcx : y.getD j lt0 = c at cc
      refine EC.seq (EC.seq (EC.region (EL.mv rfl rfl (EL.mv rfl rfl (EL.val (ln_60 rfl) rfl ?_)))));refine EL.val (x_lss (r := true) rfl rfl (decide_eq_true (by omega))) rfl ?_
      refine EL.nil (EX.seq (EC.yes rfl (EC.skip (EX.seq (EC.seq (EC.block (EC.seq (EC.region (EL.mv rfl rfl ?_)))))))));refine EL.mv rfl rfl (EL.val (ix_60 rfl rfl hltj) rfl (EL.val (ld_71 rfl (below_load hbw cc.c0) (below_load hbw cc.c1) (below_load hbw cc.c2)) rfl (EL.newP al_71 rfl ?_)));intro g7 w7 q7 hb7 hg7 hl7;have bhbw_7 := Nat.le_trans hbw.size hg7;replace hbw := bo_ hbw hb7;clear hb7 hg7 hl7;refine EL.store rfl rfl q7 sz_71 rfl rfl rfl rfl ?_;intro w8 hq8 hg8;replace hbw := below_store hbw hg8 bhbw_7;replace q7 := hq8;clear hg8 hq8;refine EL.nil (EX.seq (EC.seq (EC.region (EL.val (fa_71_0 rfl) rfl (EL.val (ld_3 rfl (q7.at (j := 0) rfl)) rfl ?_)))))
      cases k1 : inB 0 1000000 c.fill
      ·
       refine EL.call (cA3 cF41 rfl rfl rfl) rfl (rin_to k1 _) ?_
       rintro e w9 ⟨rfl, hc9⟩
       refine ⟨_, rfl, ?_⟩;replace q7 := q7.bl hc9;replace hbw := bo_ hbw hc9;clear hc9;refine EL.val (x_not rfl) rfl (EL.mv rfl rfl (EL.skip rfl rfl rfl rfl (EL.skip rfl rfl rfl rfl (EL.skip rfl rfl rfl rfl (EL.skip rfl rfl rfl rfl (EL.pt rfl rfl rfl (EL.mv rfl rfl (EL.skip rfl rfl rfl rfl (EL.skip rfl rfl rfl rfl ?_)))))))));refine EL.skip rfl rfl rfl rfl (EL.skip rfl rfl rfl rfl (EL.skip rfl rfl rfl rfl (EL.skip rfl rfl rfl rfl (EL.skip rfl rfl rfl rfl (EL.pt rfl rfl rfl (EL.mv rfl rfl (EL.skip rfl rfl rfl rfl (EL.skip rfl rfl rfl rfl (EL.skip rfl rfl rfl rfl ?_)))))))));refine EL.skip rfl rfl rfl rfl (EL.pt rfl rfl rfl (EL.nil (EX.seq (EC.yes rfl (EC.seq (EC.region (EL.as rfl rfl (EL.nil (EX.seq ?_)))))))));refine EC.ret (EX.blk_ret (EX.seq_ret (EX.seq_ret (EX.blk_ret (EX.seq_ret ?_)))))
       exact EX.done (res1 rfl rfl) ⟨by rw [ch_2b hg1_ hg4_ hall (all_bad hltj (by rw [hcx]; exact b_false (fun e => by obtain ⟨z1, z3, z4, z5⟩ := lt_parts e; first | omega | (rw [k1] at z1; exact absurd z1 (by decide)))))], hbw⟩
      ·
       refine EL.call (cA3 cF41 rfl rfl rfl) rfl (rin_to k1 _) ?_
       rintro e w10 ⟨rfl, hc10⟩
       refine ⟨_, rfl, ?_⟩;replace q7 := q7.bl hc10;replace hbw := bo_ hbw hc10;clear hc10;refine EL.val (x_not rfl) rfl (EL.mv rfl rfl (EL.valg rfl rfl (fa_71_1 rfl) rfl (EL.valg rfl rfl (fa_67_0 rfl) rfl (EL.valg rfl rfl (ld_3 rfl (q7.at (j := 1) rfl)) rfl ?_))))
       by_cases k3 : c.cyc.lo < 0
       ·
        refine EL.valg rfl rfl (x_lss (r := true) rfl rfl (decide_eq_true (by omega))) rfl ?_
        refine EL.pf rfl rfl rfl (EL.mv rfl rfl (EL.skip rfl rfl rfl rfl (EL.skip rfl rfl rfl rfl (EL.skip rfl rfl rfl rfl (EL.skip rfl rfl rfl rfl (EL.skip rfl rfl rfl rfl (EL.skip rfl rfl rfl rfl (EL.skip rfl rfl rfl rfl (EL.pt rfl rfl rfl ?_)))))))));refine EL.mv rfl rfl (EL.skip rfl rfl rfl rfl (EL.skip rfl rfl rfl rfl (EL.skip rfl rfl rfl rfl (EL.skip rfl rfl rfl rfl (EL.pt rfl rfl rfl (EL.nil (EX.seq (EC.yes rfl (EC.seq ?_)))))))));refine EC.region (EL.as rfl rfl (EL.nil (EX.seq (EC.ret (EX.blk_ret (EX.seq_ret (EX.seq_ret (EX.blk_ret (EX.seq_ret ?_)))))))))
        exact EX.done (res1 rfl rfl) ⟨by rw [ch_2b hg1_ hg4_ hall (all_bad hltj (by rw [hcx]; exact b_false (fun e => by obtain ⟨z1, z3, z4, z5⟩ := lt_parts e; first | omega | (rw [k1] at z1; exact absurd z1 (by decide)))))], hbw⟩
       ·
        refine EL.valg rfl rfl (x_lss (r := false) rfl rfl (decide_eq_false (by omega))) rfl ?_
        refine EL.pf rfl rfl rfl (EL.mv rfl rfl (EL.valg rfl rfl (fa_71_1 rfl) rfl (EL.valg rfl rfl (fa_67_0 rfl) rfl (EL.valg rfl rfl (ld_3 rfl (q7.at (j := 1) rfl)) rfl (EL.valg rfl rfl (fa_71_1 rfl) rfl (EL.valg rfl rfl (fa_67_1 rfl) rfl (EL.valg rfl rfl (ld_3 rfl (q7.at (j := 2) rfl)) rfl ?_)))))))
        by_cases k4 : c.cyc.hi < c.cyc.lo
        ·
         refine EL.valg rfl rfl (x_gtr (r := true) rfl rfl (decide_eq_true (by omega))) rfl ?_
         refine EL.pf rfl rfl rfl (EL.mv rfl rfl (EL.skip rfl rfl rfl rfl (EL.skip rfl rfl rfl rfl (EL.skip rfl rfl rfl rfl (EL.skip rfl rfl rfl rfl (EL.pt rfl rfl rfl (EL.nil (EX.seq (EC.yes rfl ?_)))))))));refine EC.seq (EC.region (EL.as rfl rfl (EL.nil (EX.seq (EC.ret (EX.blk_ret (EX.seq_ret (EX.seq_ret (EX.blk_ret ?_)))))))));refine EX.seq_ret ?_
         exact EX.done (res1 rfl rfl) ⟨by rw [ch_2b hg1_ hg4_ hall (all_bad hltj (by rw [hcx]; exact b_false (fun e => by obtain ⟨z1, z3, z4, z5⟩ := lt_parts e; first | omega | (rw [k1] at z1; exact absurd z1 (by decide)))))], hbw⟩
        ·
         refine EL.valg rfl rfl (x_gtr (r := false) rfl rfl (decide_eq_false (by omega))) rfl ?_
         refine EL.pf rfl rfl rfl (EL.mv rfl rfl (EL.valg rfl rfl (fa_71_1 rfl) rfl (EL.valg rfl rfl (fa_67_1 rfl) rfl (EL.valg rfl rfl (ld_3 rfl (q7.at (j := 2) rfl)) rfl ?_))))
         by_cases k5 : 100 < c.cyc.hi
         ·
          refine EL.valg rfl rfl (x_gtr (r := true) rfl rfl (decide_eq_true (by omega))) rfl ?_
          refine EL.pf rfl rfl rfl (EL.nil (EX.seq (EC.yes rfl (EC.seq (EC.region (EL.as rfl rfl (EL.nil (EX.seq (EC.ret ?_)))))))));refine EX.blk_ret (EX.seq_ret (EX.seq_ret (EX.blk_ret (EX.seq_ret ?_))))
          exact EX.done (res1 rfl rfl) ⟨by rw [ch_2b hg1_ hg4_ hall (all_bad hltj (by rw [hcx]; exact b_false (fun e => by obtain ⟨z1, z3, z4, z5⟩ := lt_parts e; first | omega | (rw [k1] at z1; exact absurd z1 (by decide)))))], hbw⟩
         ·
          refine EL.valg rfl rfl (x_gtr (r := false) rfl rfl (decide_eq_false (by omega))) rfl ?_
          refine EL.pf rfl rfl rfl (EL.nil (EX.seq (EC.no rfl (EC.skip (EX.blk (EX.seq (EC.region (EL.mv rfl rfl ?_))))))));refine EL.val (x_add rfl rfl (c := ((j + 1 : Nat) : Int)) ((IntWalk.i64_in _ ⟨by first | omega | (simp only; omega), by first | omega | (simp only; omega)⟩).trans (by first | omega | (simp only; omega)))) rfl ?_
          refine EL.as rfl rfl (EL.nil ?_);refine EX.roundD (j + 1) ⟨rfl, trivial⟩ (by repeat first | with_reducible exact .refl _ | refine sp_ rfl ?_ | exact .refl _ | refine sd_ rfl ?_ | refine sn_ ?_) ⟨hltj, (ok_more hok2 (by rw [hcx]; exact lt_good k1 k3 k4 k5)), hbw⟩ (by omega)
     ·
      obtain rfl : j = y.length := by omega
      have hall2 := all_getD hok2;refine EC.seq (EC.seq (EC.region (EL.mv rfl rfl (EL.mv rfl rfl (EL.val (ln_60 rfl) rfl ?_)))));refine EL.val (x_lss (r := false) rfl rfl (decide_eq_false (by omega))) rfl ?_
      refine EL.nil (EX.seq (EC.no rfl (EC.exit (EX.seq_exit (EX.seq_exit (EX.blk_here (EX.seq (EC.seq (EC.seq ?_)))))))));refine EC.region (EL.mv rfl rfl ?_)
      cases k6 : inB 0 60 days
      ·
       refine EL.call (cA3 cF41 rfl rfl rfl) rfl (rin_to k6 _) ?_
       rintro e w11 ⟨rfl, hc11⟩
       refine ⟨_, rfl, ?_⟩;replace hbw := bo_ hbw hc11;clear hc11;refine EL.val (x_not rfl) rfl (EL.nil (EX.seq (EC.yes rfl (EC.seq (EC.region (EL.as rfl rfl (EL.nil (EX.seq (EC.ret ?_)))))))));refine EX.seq_ret ?_
       exact EX.done (res1 rfl rfl) ⟨by rw [ch_e hg1_ hg4_ hall hall2]; simp [k6], hbw⟩
      ·
       refine EL.call (cA3 cF41 rfl rfl rfl) rfl (rin_to k6 _) ?_
       rintro e w12 ⟨rfl, hc12⟩
       refine ⟨_, rfl, ?_⟩;replace hbw := bo_ hbw hc12;clear hc12;refine EL.val (x_not rfl) rfl (EL.nil (EX.seq (EC.no rfl (EC.skip (EX.seq (EC.seq (EC.region (EL.as rfl rfl (EL.nil ?_)))))))));refine EX.seq (EC.ret ?_)
       exact EX.done (res1 rfl rfl) ⟨by rw [ch_e hg1_ hg4_ hall hall2]; simp [k6], hbw⟩
   ·
    refine EL.valg rfl rfl (x_neq (r := true) rfl rfl (decide_eq_true (by omega))) rfl ?_
    refine EL.pf rfl rfl rfl (EL.nil (EX.seq (EC.yes rfl (EC.seq (EC.region (EL.as rfl rfl (EL.nil (EX.seq (EC.ret ?_)))))))));refine EX.seq_ret ?_
    exact EX.done (res1 rfl rfl) ⟨by rw [ch_4 hg1_ (.inr hg3_)], hbw⟩
theorem vol_mul {k : LT} {d : Nat} (h : ltB k = true) (hd : d ≤ 60) : (0 ≤ (d : Int) * k.fill ∧ (d : Int) * k.fill ≤ 60000000) ∧ (0 ≤ (d : Int) * k.fill * k.cyc.lo ∧ (d : Int) * k.fill * k.cyc.lo ≤ 6000000000) ∧ 0 ≤ (d : Int) * k.fill * k.cyc.hi ∧ (d : Int) * k.fill * k.cyc.hi ≤ 6000000000 := by
 unfold ltB at h
 rw [Bool.and_eq_true, inB_iff, bdB_iff] at h;obtain ⟨⟨h1, h2⟩, h3, h4, h5⟩ := h;have a := Int.mul_nonneg (show (0 : Int) ≤ d by omega) h1
 have b := Int.mul_le_mul (show (d : Int) ≤ 60 by omega) h2 h1 (by omega)
 have c1 := Int.mul_nonneg a h3;have c2 := Int.mul_le_mul (show (d : Int) * k.fill ≤ 60000000 by omega) (show k.cyc.lo ≤ 100 by omega) h3 (by omega)
 have d1 := Int.mul_nonneg a (show 0 ≤ k.cyc.hi by omega)
 have d2 := Int.mul_le_mul (show (d : Int) * k.fill ≤ 60000000 by omega) h5 (by omega) (by omega)
 exact ⟨⟨a, by omega⟩, ⟨c1, by omega⟩, d1, by omega⟩
theorem inf_mul {r : LR} {d : Nat} (h : lrB r = true) (hd : d ≤ 60) : (0 ≤ r.vol ∧ r.vol ≤ 1000000000000) ∧ (0 ≤ (d : Int) * r.inf.lo ∧ (d : Int) * r.inf.lo ≤ 60000000000000) ∧ 0 ≤ (d : Int) * r.inf.hi ∧ (d : Int) * r.inf.hi ≤ 60000000000000 := by
 unfold lrB at h
 rw [Bool.and_eq_true, Bool.and_eq_true, inB_iff, inB_iff, bdB_iff] at h;obtain ⟨⟨h1, _⟩, h3, h4, h5⟩ := h;have a := Int.mul_nonneg (show (0 : Int) ≤ d by omega) h3
 have b := Int.mul_le_mul (show (d : Int) ≤ 60 by omega) (show r.inf.lo ≤ 1000000000000 by omega) h3 (by omega)
 have c := Int.mul_nonneg (show (0 : Int) ≤ d by omega) (show 0 ≤ r.inf.hi by omega)
 have e := Int.mul_le_mul (show (d : Int) ≤ 60 by omega) h5 (by omega) (by omega)
 exact ⟨h1, ⟨a, by omega⟩, c, by omega⟩
set_option maxHeartbeats 1000000 in
theorem rVolume_any {x : List LR} {y : List LT} {vx vy : Value} {w : World} {B : Nat} (hx : Rd w B 4 vx x.length (lrsC x)) (hy : Rd w B 3 vy y.length (ltsC y)) (hB : B ≤ w.heap.size) {days : Int} {i d : Nat} (hch : ChOk x y days) (hi : i < x.length) (hd : d ≤ 60) :
  Calls Try.prog 29 #[vx, vy, .int .i64 (i : Nat), .int .i64 (d : Nat)] w fun e w' => e = .returned (.agg #[.int .i64 (volD x y i d).lo, .int .i64 (volD x y i d).hi]) ∧ Below w.heap.size w w' := by
 obtain ⟨Ax, cx, rfl, _⟩ := hx.shape;obtain ⟨Ay, cy, rfl, _⟩ := hy.shape;have hbw := Below.refl w.heap.size w;have hxn := hch.n10;have hyl := hch.yl;obtain ⟨b1, o1, rfl, _, cx_⟩ := lrs_cells x i hi w B _ _ _ hx;obtain ⟨r1, r2, r3⟩ := inf_mul (hch.lr _ (getD_mem hi lr0)) hd
 generalize hxk : x.getD i lr0 = rr at cx_ r1 r2 r3
 refine EC.enter 96 Try.func29 rfl rfl rfl (EC.seq (EC.region (EL.newP al_67 rfl ?_)));intro g1 w1 q1 hb1 hg1 hl1;have bhbw_1 := Nat.le_trans hbw.size hg1;replace hbw := bo_ hbw hb1;clear hb1 hg1 hl1;refine EL.nil (EX.seq (EC.seq (EC.region (EL.mv rfl rfl (EL.mv rfl rfl (EL.val (ix_59 rfl rfl hi) rfl (EL.val (ld_69 rfl (below_load hbw cx_.c0) (below_load hbw cx_.c1) (below_load hbw cx_.c2) (below_load hbw cx_.c3)) rfl (EL.newP al_69 rfl ?_))))))));intro g2 w2 q2 hb2 hg2 hl2;have n1_2 := q1.na hg2;have bhbw_2 := Nat.le_trans hbw.size hg2;replace q1 := q1.bl hb2;replace hbw := bo_ hbw hb2;clear hb2 hg2 hl2;refine EL.store rfl rfl q2 sz_69 rfl rfl rfl rfl ?_;intro w3 hq3 hg3;replace q1 := q1.gr hg3 n1_2;replace hbw := below_store hbw hg3 bhbw_2;replace q2 := hq3;clear hg3 hq3;refine EL.nil (EX.seq (EC.seq (EC.region (EL.val (fa_69_0 rfl) rfl (EL.val (ld_3 rfl (q2.at (j := 0) rfl)) rfl (EL.mv rfl rfl (EL.val (fa_69_2 rfl) rfl (EL.val (fa_67_0 rfl) rfl (EL.val (ld_3 rfl (q2.at (j := 2) rfl)) rfl ?_)))))))));refine EL.val (x_mul rfl rfl (by first | assumption | exact IntWalk.i64_in _ ⟨by omega, by omega⟩)) rfl ?_
 refine EL.val (x_add rfl rfl (by first | assumption | exact IntWalk.i64_in _ ⟨by omega, by omega⟩)) rfl ?_
 refine EL.val (fa_69_0 rfl) rfl (EL.val (ld_3 rfl (q2.at (j := 0) rfl)) rfl (EL.mv rfl rfl (EL.val (fa_69_2 rfl) rfl (EL.val (fa_67_1 rfl) rfl (EL.val (ld_3 rfl (q2.at (j := 3) rfl)) rfl ?_)))));refine EL.val (x_mul rfl rfl (by first | assumption | exact IntWalk.i64_in _ ⟨by omega, by omega⟩)) rfl ?_
 refine EL.val (x_add rfl rfl (by first | assumption | exact IntWalk.i64_in _ ⟨by omega, by omega⟩)) rfl ?_
 refine EL.val (bd_67_0_1 rfl rfl) rfl (EL.newP al_67 rfl ?_);intro g4 w4 q4 hb4 hg4 hl4;have n1_4 := q1.na hg4;have n2_4 := q2.na hg4;have bhbw_4 := Nat.le_trans hbw.size hg4;replace q1 := q1.bl hb4;replace q2 := q2.bl hb4;replace hbw := bo_ hbw hb4;clear hb4 hg4 hl4;refine EL.store rfl rfl q4 sz_67 rfl rfl rfl rfl ?_;intro w5 hq5 hg5;replace q1 := q1.gr hg5 n1_4;replace q2 := q2.gr hg5 n2_4;replace hbw := below_store hbw hg5 bhbw_4;replace q4 := hq5;clear hg5 hq5;refine EL.nil (EX.seq (EC.seq (EC.seq (EC.region (EL.mv rfl rfl (EL.mv rfl rfl (EL.val (ln_60 rfl) rfl ?_)))))))
 by_cases hl : i < y.length
 ·
  obtain ⟨b2, o2, rfl, _, cy_⟩ := lts_cells y i hl w B _ _ _ hy;obtain ⟨p1, p2, p3⟩ := vol_mul (hch.lt _ (getD_mem hl lt0)) hd
  generalize hyk : y.getD i lt0 = k1 at cy_ p1 p2 p3
  refine EL.val (x_lss (r := true) rfl rfl (decide_eq_true (by omega))) rfl ?_
  refine EL.nil (EX.seq (EC.yes rfl (EC.seq (EC.region (EL.mv rfl rfl (EL.mv rfl rfl (EL.val (ix_60 rfl rfl hl) rfl (EL.val (ld_71 rfl (below_load hbw cy_.c0) (below_load hbw cy_.c1) (below_load hbw cy_.c2)) rfl (EL.newP al_71 rfl ?_)))))))));intro g6 w6 q6 hb6 hg6 hl6;have n1_6 := q1.na hg6;have n2_6 := q2.na hg6;have n4_6 := q4.na hg6;have bhbw_6 := Nat.le_trans hbw.size hg6;replace q1 := q1.bl hb6;replace q2 := q2.bl hb6;replace q4 := q4.bl hb6;replace hbw := bo_ hbw hb6;clear hb6 hg6 hl6;refine EL.store rfl rfl q6 sz_71 rfl rfl rfl rfl ?_;intro w7 hq7 hg7;replace q1 := q1.gr hg7 n1_6;replace q2 := q2.gr hg7 n2_6;replace q4 := q4.gr hg7 n4_6;replace hbw := below_store hbw hg7 bhbw_6;replace q6 := hq7;clear hg7 hq7;refine EL.nil (EX.seq (EC.region (EL.val (fa_67_0 rfl) rfl (EL.val (ld_3 rfl (q4.at (j := 0) rfl)) rfl (EL.mv rfl rfl (EL.val (fa_71_0 rfl) rfl (EL.val (ld_3 rfl (q6.at (j := 0) rfl)) rfl ?_)))))));refine EL.val (x_mul rfl rfl (by first | assumption | exact IntWalk.i64_in _ ⟨by omega, by omega⟩)) rfl ?_
  refine EL.val (fa_71_1 rfl) rfl (EL.val (fa_67_1 rfl) rfl (EL.val (ld_3 rfl (q6.at (j := 2) rfl)) rfl ?_));refine EL.val (x_mul rfl rfl (by first | assumption | exact IntWalk.i64_in _ ⟨by omega, by omega⟩)) rfl ?_
  refine EL.val (x_sub rfl rfl (by first | assumption | exact IntWalk.i64_in _ ⟨by omega, by omega⟩)) rfl ?_
  refine EL.val (fa_67_1 rfl) rfl (EL.val (ld_3 rfl (q4.at (j := 1) rfl)) rfl (EL.mv rfl rfl (EL.val (fa_71_0 rfl) rfl (EL.val (ld_3 rfl (q6.at (j := 0) rfl)) rfl ?_))));refine EL.val (x_mul rfl rfl (by first | assumption | exact IntWalk.i64_in _ ⟨by omega, by omega⟩)) rfl ?_
  refine EL.val (fa_71_1 rfl) rfl (EL.val (fa_67_0 rfl) rfl (EL.val (ld_3 rfl (q6.at (j := 1) rfl)) rfl ?_));refine EL.val (x_mul rfl rfl (by first | assumption | exact IntWalk.i64_in _ ⟨by omega, by omega⟩)) rfl ?_
  refine EL.val (x_sub rfl rfl (by first | assumption | exact IntWalk.i64_in _ ⟨by omega, by omega⟩)) rfl ?_
  refine EL.val (bd_67_0_1 rfl rfl) rfl (EL.store rfl rfl q4 sz_67 rfl rfl rfl rfl ?_);intro w8 hq8 hg8;replace q1 := q1.gr hg8 n1_4;replace q2 := q2.gr hg8 n2_4;replace q6 := q6.gr hg8 n4_6.symm;replace hbw := below_store hbw hg8 bhbw_4;replace q4 := hq8;clear hg8 hq8;refine EL.nil (EX.seq (EC.seq (EC.seq (EC.region (EL.mv rfl rfl ?_)))))
  by_cases h0 : 0 < i
  ·
   obtain ⟨i0, rfl⟩ : ∃ i0, i = i0 + 1 := ⟨i - 1, by omega⟩
   have hl0 : i0 < y.length := by omega
   obtain ⟨b3, o3, eA_, _, cz_⟩ := lts_cells y i0 hl0 w B _ _ _ hy
   cases eA_
   obtain ⟨hvq1, hvq2, hvq3⟩ := vol_mul (hch.lt _ (getD_mem hl0 lt0)) hd;have hi01 : i0 + 1 - 1 = i0 := by omega
   generalize hyk0 : y.getD i0 lt0 = k0 at cz_ hvq1 hvq2 hvq3
   refine EL.val (x_gtr (r := true) rfl rfl (decide_eq_true (by omega))) rfl ?_
   refine EL.nil (EX.seq (EC.yes rfl (EC.seq (EC.region (EL.mv rfl rfl (EL.mv rfl rfl ?_))))));refine EL.val (x_sub rfl rfl (c := ((i0 : Nat) : Int)) ((IntWalk.i64_in _ ⟨by omega, by omega⟩).trans (by omega))) rfl ?_
   refine EL.val (ix_60 rfl rfl hl0) rfl (EL.val (ld_71 rfl (below_load hbw cz_.c0) (below_load hbw cz_.c1) (below_load hbw cz_.c2)) rfl (EL.newP al_71 rfl ?_));intro g9 w9 q9 hb9 hg9 hl9;have n1_9 := q1.na hg9;have n2_9 := q2.na hg9;have n4_9 := q4.na hg9;have n6_9 := q6.na hg9;have bhbw_9 := Nat.le_trans hbw.size hg9;replace q1 := q1.bl hb9;replace q2 := q2.bl hb9;replace q4 := q4.bl hb9;replace q6 := q6.bl hb9;replace hbw := bo_ hbw hb9;clear hb9 hg9 hl9;refine EL.store rfl rfl q9 sz_71 rfl rfl rfl rfl ?_;intro w10 hq10 hg10;replace q1 := q1.gr hg10 n1_9;replace q2 := q2.gr hg10 n2_9;replace q4 := q4.gr hg10 n4_9;replace q6 := q6.gr hg10 n6_9;replace hbw := below_store hbw hg10 bhbw_9;replace q9 := hq10;clear hg10 hq10;refine EL.nil (EX.seq (EC.region (EL.val (fa_67_0 rfl) rfl (EL.val (ld_3 rfl (q4.at (j := 0) rfl)) rfl (EL.mv rfl rfl (EL.val (fa_71_0 rfl) rfl (EL.val (ld_3 rfl (q9.at (j := 0) rfl)) rfl ?_)))))));refine EL.val (x_mul rfl rfl (by first | assumption | exact IntWalk.i64_in _ ⟨by omega, by omega⟩)) rfl ?_
   refine EL.val (fa_71_1 rfl) rfl (EL.val (fa_67_0 rfl) rfl (EL.val (ld_3 rfl (q9.at (j := 1) rfl)) rfl ?_));refine EL.val (x_mul rfl rfl (by first | assumption | exact IntWalk.i64_in _ ⟨by omega, by omega⟩)) rfl ?_
   refine EL.val (x_add rfl rfl (by first | assumption | exact IntWalk.i64_in _ ⟨by omega, by omega⟩)) rfl ?_
   refine EL.val (fa_67_1 rfl) rfl (EL.val (ld_3 rfl (q4.at (j := 1) rfl)) rfl (EL.mv rfl rfl (EL.val (fa_71_0 rfl) rfl (EL.val (ld_3 rfl (q9.at (j := 0) rfl)) rfl ?_))));refine EL.val (x_mul rfl rfl (by first | assumption | exact IntWalk.i64_in _ ⟨by omega, by omega⟩)) rfl ?_
   refine EL.val (fa_71_1 rfl) rfl (EL.val (fa_67_1 rfl) rfl (EL.val (ld_3 rfl (q9.at (j := 2) rfl)) rfl ?_));refine EL.val (x_mul rfl rfl (by first | assumption | exact IntWalk.i64_in _ ⟨by omega, by omega⟩)) rfl ?_
   refine EL.val (x_add rfl rfl (by first | assumption | exact IntWalk.i64_in _ ⟨by omega, by omega⟩)) rfl ?_
   refine EL.val (bd_67_0_1 rfl rfl) rfl (EL.store rfl rfl q4 sz_67 rfl rfl rfl rfl ?_);intro w11 hq11 hg11;replace q1 := q1.gr hg11 n1_4;replace q2 := q2.gr hg11 n2_4;replace q6 := q6.gr hg11 n4_6.symm;replace q9 := q9.gr hg11 n4_9.symm;replace hbw := below_store hbw hg11 bhbw_4;replace q4 := hq11;clear hg11 hq11;refine EL.nil (EX.seq (EC.seq (EC.region (EL.val (ld_67 rfl (q4.at (j := 0) rfl) (q4.at (j := 1) rfl)) rfl (EL.store rfl rfl q1 sz_67 rfl rfl rfl rfl ?_)))));intro w12 hq12 hg12;replace q2 := q2.gr hg12 n1_2.symm;replace q4 := q4.gr hg12 n1_4.symm;replace q6 := q6.gr hg12 n1_6.symm;replace q9 := q9.gr hg12 n1_9.symm;replace hbw := below_store hbw hg12 bhbw_1;replace q1 := hq12;clear hg12 hq12;refine EL.nil (EX.seq (EC.ret ?_))
   exact EX.done (resc1 rfl rfl (lv_67 (q1.at (j := 0) rfl) (q1.at (j := 1) rfl))) ⟨by rw [← volR_eq (by omega)]; simp only [volR, *, if_true, if_false, Nat.add_sub_cancel], hbw⟩
  ·
   refine EL.val (x_gtr (r := false) rfl rfl (decide_eq_false (by omega))) rfl ?_
   refine EL.nil (EX.seq (EC.no rfl (EC.skip (EX.seq (EC.seq (EC.region (EL.val (ld_67 rfl (q4.at (j := 0) rfl) (q4.at (j := 1) rfl)) rfl (EL.store rfl rfl q1 sz_67 rfl rfl rfl rfl ?_))))))));intro w13 hq13 hg13;replace q2 := q2.gr hg13 n1_2.symm;replace q4 := q4.gr hg13 n1_4.symm;replace q6 := q6.gr hg13 n1_6.symm;replace hbw := below_store hbw hg13 bhbw_1;replace q1 := hq13;clear hg13 hq13;refine EL.nil (EX.seq (EC.ret ?_))
   exact EX.done (resc1 rfl rfl (lv_67 (q1.at (j := 0) rfl) (q1.at (j := 1) rfl))) ⟨by rw [← volR_eq (by omega)]; simp only [volR, *, if_true, if_false, Nat.add_sub_cancel], hbw⟩
 ·
  refine EL.val (x_lss (r := false) rfl rfl (decide_eq_false (by omega))) rfl ?_
  refine EL.nil (EX.seq (EC.no rfl (EC.skip (EX.seq (EC.seq (EC.seq (EC.region (EL.mv rfl rfl ?_))))))))
  by_cases h0 : 0 < i
  ·
   obtain ⟨i0, rfl⟩ : ∃ i0, i = i0 + 1 := ⟨i - 1, by omega⟩
   have hl0 : i0 < y.length := by omega
   obtain ⟨b3, o3, eA_, _, cz_⟩ := lts_cells y i0 hl0 w B _ _ _ hy
   cases eA_
   obtain ⟨hvq1, hvq2, hvq3⟩ := vol_mul (hch.lt _ (getD_mem hl0 lt0)) hd;have hi01 : i0 + 1 - 1 = i0 := by omega
   generalize hyk0 : y.getD i0 lt0 = k0 at cz_ hvq1 hvq2 hvq3
   refine EL.val (x_gtr (r := true) rfl rfl (decide_eq_true (by omega))) rfl ?_
   refine EL.nil (EX.seq (EC.yes rfl (EC.seq (EC.region (EL.mv rfl rfl (EL.mv rfl rfl ?_))))));refine EL.val (x_sub rfl rfl (c := ((i0 : Nat) : Int)) ((IntWalk.i64_in _ ⟨by omega, by omega⟩).trans (by omega))) rfl ?_
   refine EL.val (ix_60 rfl rfl hl0) rfl (EL.val (ld_71 rfl (below_load hbw cz_.c0) (below_load hbw cz_.c1) (below_load hbw cz_.c2)) rfl (EL.newP al_71 rfl ?_));intro g14 w14 q14 hb14 hg14 hl14;have n1_14 := q1.na hg14;have n2_14 := q2.na hg14;have n4_14 := q4.na hg14;have bhbw_14 := Nat.le_trans hbw.size hg14;replace q1 := q1.bl hb14;replace q2 := q2.bl hb14;replace q4 := q4.bl hb14;replace hbw := bo_ hbw hb14;clear hb14 hg14 hl14;refine EL.store rfl rfl q14 sz_71 rfl rfl rfl rfl ?_;intro w15 hq15 hg15;replace q1 := q1.gr hg15 n1_14;replace q2 := q2.gr hg15 n2_14;replace q4 := q4.gr hg15 n4_14;replace hbw := below_store hbw hg15 bhbw_14;replace q14 := hq15;clear hg15 hq15;refine EL.nil (EX.seq (EC.region (EL.val (fa_67_0 rfl) rfl (EL.val (ld_3 rfl (q4.at (j := 0) rfl)) rfl (EL.mv rfl rfl (EL.val (fa_71_0 rfl) rfl (EL.val (ld_3 rfl (q14.at (j := 0) rfl)) rfl ?_)))))));refine EL.val (x_mul rfl rfl (by first | assumption | exact IntWalk.i64_in _ ⟨by omega, by omega⟩)) rfl ?_
   refine EL.val (fa_71_1 rfl) rfl (EL.val (fa_67_0 rfl) rfl (EL.val (ld_3 rfl (q14.at (j := 1) rfl)) rfl ?_));refine EL.val (x_mul rfl rfl (by first | assumption | exact IntWalk.i64_in _ ⟨by omega, by omega⟩)) rfl ?_
   refine EL.val (x_add rfl rfl (by first | assumption | exact IntWalk.i64_in _ ⟨by omega, by omega⟩)) rfl ?_
   refine EL.val (fa_67_1 rfl) rfl (EL.val (ld_3 rfl (q4.at (j := 1) rfl)) rfl (EL.mv rfl rfl (EL.val (fa_71_0 rfl) rfl (EL.val (ld_3 rfl (q14.at (j := 0) rfl)) rfl ?_))));refine EL.val (x_mul rfl rfl (by first | assumption | exact IntWalk.i64_in _ ⟨by omega, by omega⟩)) rfl ?_
   refine EL.val (fa_71_1 rfl) rfl (EL.val (fa_67_1 rfl) rfl (EL.val (ld_3 rfl (q14.at (j := 2) rfl)) rfl ?_));refine EL.val (x_mul rfl rfl (by first | assumption | exact IntWalk.i64_in _ ⟨by omega, by omega⟩)) rfl ?_
   refine EL.val (x_add rfl rfl (by first | assumption | exact IntWalk.i64_in _ ⟨by omega, by omega⟩)) rfl ?_
   refine EL.val (bd_67_0_1 rfl rfl) rfl (EL.store rfl rfl q4 sz_67 rfl rfl rfl rfl ?_);intro w16 hq16 hg16;replace q1 := q1.gr hg16 n1_4;replace q2 := q2.gr hg16 n2_4;replace q14 := q14.gr hg16 n4_14.symm;replace hbw := below_store hbw hg16 bhbw_4;replace q4 := hq16;clear hg16 hq16;refine EL.nil (EX.seq (EC.seq (EC.region (EL.val (ld_67 rfl (q4.at (j := 0) rfl) (q4.at (j := 1) rfl)) rfl (EL.store rfl rfl q1 sz_67 rfl rfl rfl rfl ?_)))));intro w17 hq17 hg17;replace q2 := q2.gr hg17 n1_2.symm;replace q4 := q4.gr hg17 n1_4.symm;replace q14 := q14.gr hg17 n1_14.symm;replace hbw := below_store hbw hg17 bhbw_1;replace q1 := hq17;clear hg17 hq17;refine EL.nil (EX.seq (EC.ret ?_))
   exact EX.done (resc1 rfl rfl (lv_67 (q1.at (j := 0) rfl) (q1.at (j := 1) rfl))) ⟨by rw [← volR_eq (by omega)]; simp only [volR, *, if_true, if_false, Nat.add_sub_cancel], hbw⟩
  ·
   refine EL.val (x_gtr (r := false) rfl rfl (decide_eq_false (by omega))) rfl ?_
   refine EL.nil (EX.seq (EC.no rfl (EC.skip (EX.seq (EC.seq (EC.region (EL.val (ld_67 rfl (q4.at (j := 0) rfl) (q4.at (j := 1) rfl)) rfl (EL.store rfl rfl q1 sz_67 rfl rfl rfl rfl ?_))))))));intro w18 hq18 hg18;replace q2 := q2.gr hg18 n1_2.symm;replace q4 := q4.gr hg18 n1_4.symm;replace hbw := below_store hbw hg18 bhbw_1;replace q1 := hq18;clear hg18 hq18;refine EL.nil (EX.seq (EC.ret ?_))
   exact EX.done (resc1 rfl rfl (lv_67 (q1.at (j := 0) rfl) (q1.at (j := 1) rfl))) ⟨by rw [← volR_eq (by omega)]; simp only [volR, *, if_true, if_false, Nat.add_sub_cancel], hbw⟩
theorem short_one {x : List LR} {y : List LT} {N : Nat} {a b a2 b2 : Int} {s s2 : Bool} (h : ShortIs x y N a b s) (k : ShortIs x y N a2 b2 s2) : a = a2 ∧ b = b2 ∧ s = s2 := by
 have key : ∀ {d i e j : Nat}, noShort x y d i → i < x.length → shortAt x y (e + 1) j = true → j < x.length → d < e ∨ (d = e ∧ i ≤ j) := fun {d i e j} hn hi hs hj => by
  rcases Nat.lt_trichotomy d e with h1 | h1 | h1
  ·exact .inl h1
  ·subst h1
   rcases Nat.lt_or_ge j i with h2 | h2
   ·rw [hn.2 j h2] at hs; cases hs
   ·exact .inr ⟨rfl, h2⟩
  ·rw [hn.1 (e + 1) j (by omega) (by omega) hj] at hs; cases hs
 rcases h with ⟨d, i, hd, hi, hn, hs, rfl, rfl, rfl⟩ | ⟨hn, rfl, rfl, rfl⟩ <;> rcases k with ⟨e, j, he, hj, hm, ht, rfl, rfl, rfl⟩ | ⟨hm, rfl, rfl, rfl⟩
 ·have h1 := key hn hi ht hj
  have h2 := key hm hj hs hi;obtain rfl : d = e := by omega
  obtain rfl : i = j := by omega
  exact ⟨rfl, rfl, rfl⟩
 ·rw [hm.1 (d + 1) i (by omega) (by omega) hi] at hs; cases hs
 ·rw [hn.1 (e + 1) j (by omega) (by omega) hj] at ht; cases ht
 ·exact ⟨rfl, rfl, rfl⟩
theorem rShort_any {x : List LR} {y : List LT} {vx vy : Value} {w : World} {B : Nat} (hx : Rd w B 4 vx x.length (lrsC x)) (hy : Rd w B 3 vy y.length (ltsC y)) (hB : B ≤ w.heap.size) {N : Nat} (hch : ChOk x y N) :
  Calls Try.prog 30 #[vx, vy, .int .i64 (N : Nat)] w fun e w' => ∃ day reach sure, e = .returned (.tuple #[.int .i64 day, .int .i64 reach, .bool sure]) ∧ ShortIs x y N day reach sure ∧ Below w.heap.size w w' := by
 obtain ⟨Ax, cx, rfl, _⟩ := hx.shape;obtain ⟨Ay, cy, rfl, _⟩ := hy.shape;have hbw := Below.refl w.heap.size w;have hxn := hch.n10;have hyl := hch.yl;have hN := hch.days.2;refine EC.enter 46 Try.func30 rfl rfl rfl (EC.seq (EC.region (EL.as rfl rfl (EL.as rfl rfl (EL.as rfl rfl (EL.nil (EX.seq (EC.seq (EC.seq ?_)))))))));refine EC.region (EL.as rfl rfl (EL.nil (EX.seq (EC.block ?_))));refine EC.loopD [6, 7, 8, 9, 10, 11, 12, 13, 14, 15, 16, 17, 18, 19, 20, 21, 22, 23, 24, 25, 26, 27, 28, 29, 30, 31, 32, 33, 34, 35, 36, 37, 38, 39, 40, 41, 42, 43, 44, 45] (fun dd : Nat => [(9, .int .i64 ((dd + 1 : Nat) : Int))]) (fun dd W => dd ≤ N ∧ noShort x y dd 0 ∧ Below w.heap.size w W) (fun dd => N - dd) 0 ⟨Nat.zero_le _, no_start x y, hbw⟩ ⟨rfl, trivial⟩ ?_
 clear  hbw
 rintro dd wdd ⟨hk, hns, hbw⟩
 by_cases hltdd : dd < N
 ·
  refine EC.seq (EC.seq (EC.region (EL.mv rfl rfl (EL.mv rfl rfl ?_))));refine EL.val (x_leq (r := true) rfl rfl (decide_eq_true (by omega))) rfl ?_
  refine EL.nil (EX.seq (EC.yes rfl (EC.skip (EX.seq (EC.seq (EC.block (EC.seq (EC.region (EL.as rfl rfl ?_)))))))));refine EL.nil (EX.seq (EC.block ?_));refine EC.loopD [6, 7, 8, 10, 11, 17, 18, 19, 20, 21, 22, 23, 24, 25, 26, 27, 28, 29, 30, 31, 32, 33, 34, 35, 36, 37, 38, 39, 40, 41, 42, 43, 44, 45] (fun k : Nat => [(10, .int .i64 (k : Nat))]) (fun k W => k ≤ x.length ∧ noShort x y dd k ∧ Below w.heap.size w W) (fun k => x.length - k) 0 ⟨Nat.zero_le _, hns, hbw⟩ ⟨rfl, trivial⟩ ?_
  clear hns hbw
  rintro k wk ⟨hkx, hns, hbw⟩
  by_cases hltk : k < x.length
  ·
   obtain ⟨b, o, eA_, _, cc⟩ := lrs_cells x k hltk w B _ _ _ hx
   cases eA_
   refine EC.seq (EC.seq (EC.region (EL.mv rfl rfl (EL.mv rfl rfl (EL.val (ln_59 rfl) rfl ?_)))));refine EL.val (x_lss (r := true) rfl rfl (decide_eq_true (by omega))) rfl ?_
   refine EL.nil (EX.seq (EC.yes rfl (EC.skip (EX.seq (EC.seq (EC.block (EC.seq (EC.region (EL.mv rfl rfl ?_)))))))));refine EL.mv rfl rfl (EL.mv rfl rfl (EL.mv rfl rfl ?_));refine EL.call (cA4 cF29 rfl rfl rfl rfl) rfl (rVolume_any (d := dd + 1) (hx.below (hbw.mono hB)) (hy.below (hbw.mono hB)) (Nat.le_trans hB hbw.size) hch hltk (by omega)) ?_
   rintro e w1 ⟨rfl, hc1⟩
   refine ⟨_, rfl, ?_⟩;replace hbw := bo_ hbw hc1;clear hc1;refine EL.newP al_67 rfl ?_;intro g2 w2 q2 hb2 hg2 hl2;have bhbw_2 := Nat.le_trans hbw.size hg2;replace hbw := bo_ hbw hb2;clear hb2 hg2 hl2;refine EL.store rfl rfl q2 sz_67 rfl rfl rfl rfl ?_;intro w3 hq3 hg3;replace hbw := below_store hbw hg3 bhbw_2;replace q2 := hq3;clear hg3 hq3;refine EL.nil (EX.seq (EC.seq ?_))
   by_cases hsh : (volD x y k (dd + 1)).lo < (x.getD k lr0).least
   ·
    have hst : shortAt x y (dd + 1) k = true := decide_eq_true hsh;refine EC.regionQ (by kernel_rfl) (by kernel_rfl) ?_
    refine EQ.val (fun _ hw => (fa_67_0 rfl)) rfl ?_
    refine EQ.val (fun _ hw => (ld_3 rfl (below_load hw (q2.at (j := 0) rfl)))) rfl ?_
    refine EQ.mv rfl rfl (EQ.mv rfl rfl ?_);refine EQ.val (fun _ hw => (ix_59 rfl rfl hltk)) rfl ?_
    refine EQ.val (fun _ hw => (fa_69_1 rfl)) rfl ?_
    refine EQ.val (fun _ hw => (ld_3 rfl (below_load hw (below_load hbw cc.c1)))) rfl ?_
    refine EQ.val (fun _ hw => (x_lss (r := true) rfl rfl (decide_eq_true (by omega)))) rfl ?_
    refine EQ.fin (fun w4 hw_ => ?_)
    replace q2 := q2.bl hw_;replace hbw := bo_ hbw hw_;clear hw_;refine EX.seq (EC.yes rfl (EC.seq ?_));refine EC.regionQ (by kernel_rfl) (by kernel_rfl) ?_
    refine EQ.mv rfl rfl (EQ.mv rfl rfl ?_);refine EQ.val (fun _ hw => (fa_67_1 rfl)) rfl ?_
    refine EQ.val (fun _ hw => (ld_3 rfl (below_load hw (q2.at (j := 1) rfl)))) rfl ?_
    refine EQ.mv rfl rfl (EQ.mv rfl rfl ?_);refine EQ.val (fun _ hw => (ix_59 rfl rfl hltk)) rfl ?_
    refine EQ.val (fun _ hw => (fa_69_1 rfl)) rfl ?_
    refine EQ.val (fun _ hw => (ld_3 rfl (below_load hw (below_load hbw cc.c1)))) rfl ?_
    refine EQ.val (fun _ hw => (x_lss rfl rfl rfl)) rfl ?_
    refine EQ.val (fun _ hw => (x_assign rfl)) rfl ?_
    refine EQ.val (fun _ hw => (x_assign rfl)) rfl ?_
    refine EQ.val (fun _ hw => (x_assign rfl)) rfl ?_
    refine EQ.fin (fun w5 hw_ => ?_)
    replace q2 := q2.bl hw_;replace hbw := bo_ hbw hw_;clear hw_;refine EX.seq (EC.ret (EX.blk_ret (EX.seq_ret (EX.seq_ret (EX.blk_ret (EX.blk_ret (EX.seq_ret (EX.seq_ret (EX.blk_ret ?_)))))))));refine EX.seq_ret ?_
    exact EX.done (res3 rfl rfl rfl rfl) ⟨_, _, _, rfl, .inl ⟨dd, k, hltdd, hltk, hns, hst, rfl, rfl, rfl⟩, hbw⟩
   ·
    have hst : shortAt x y (dd + 1) k = false := decide_eq_false hsh;refine EC.regionQ (by kernel_rfl) (by kernel_rfl) ?_
    refine EQ.val (fun _ hw => (fa_67_0 rfl)) rfl ?_
    refine EQ.val (fun _ hw => (ld_3 rfl (below_load hw (q2.at (j := 0) rfl)))) rfl ?_
    refine EQ.mv rfl rfl (EQ.mv rfl rfl ?_);refine EQ.val (fun _ hw => (ix_59 rfl rfl hltk)) rfl ?_
    refine EQ.val (fun _ hw => (fa_69_1 rfl)) rfl ?_
    refine EQ.val (fun _ hw => (ld_3 rfl (below_load hw (below_load hbw cc.c1)))) rfl ?_
    refine EQ.val (fun _ hw => (x_lss (r := false) rfl rfl (decide_eq_false (by omega)))) rfl ?_
    refine EQ.fin (fun w6 hw_ => ?_)
    replace q2 := q2.bl hw_;replace hbw := bo_ hbw hw_;clear hw_;refine EX.seq (EC.no rfl (EC.skip (EX.blk (EX.seq (EC.region (EL.mv rfl rfl ?_))))));refine EL.val (x_add rfl rfl (c := ((k + 1 : Nat) : Int)) ((IntWalk.i64_in _ ⟨by first | omega | (simp only; omega), by first | omega | (simp only; omega)⟩).trans (by first | omega | (simp only; omega)))) rfl ?_
    refine EL.as rfl rfl (EL.nil ?_);refine EX.roundD (k + 1) ⟨rfl, trivial⟩ (by repeat first | with_reducible exact .refl _ | refine sp_ rfl ?_ | exact .refl _ | refine sd_ rfl ?_ | refine sn_ ?_) ⟨hltk, no_more hns hst, hbw⟩ (by omega)
  ·
   obtain rfl : k = x.length := by omega
   replace hns := no_day hns;refine EC.seq (EC.seq (EC.region (EL.mv rfl rfl (EL.mv rfl rfl (EL.val (ln_59 rfl) rfl ?_)))));refine EL.val (x_lss (r := false) rfl rfl (decide_eq_false (by omega))) rfl ?_
   refine EL.nil (EX.seq (EC.no rfl (EC.exit (EX.seq_exit (EX.seq_exit (EX.blk_here (EX.blk (EX.seq (EC.region ?_)))))))));refine EL.mv rfl rfl ?_;refine EL.val (x_add rfl rfl (c := ((dd + 1 + 1 : Nat) : Int)) ((IntWalk.i64_in _ ⟨by omega, by omega⟩).trans (by omega))) rfl ?_
   refine EL.as rfl rfl (EL.nil ?_);refine EX.roundD (dd + 1) ⟨rfl, trivial⟩ (by repeat first | with_reducible exact .refl _ | refine sp_ rfl ?_ | exact .refl _ | refine sd_ rfl ?_ | refine sn_ ?_) ⟨hltdd, hns, hbw⟩ (by omega)
 ·
  obtain rfl : dd = N := by omega
  refine EC.seq (EC.seq (EC.region (EL.mv rfl rfl (EL.mv rfl rfl ?_))));refine EL.val (x_leq (r := false) rfl rfl (decide_eq_false (by omega))) rfl ?_
  refine EL.nil (EX.seq (EC.no rfl (EC.exit (EX.seq_exit (EX.seq_exit (EX.blk_here (EX.seq (EC.seq (EC.region ?_)))))))));refine EL.as rfl rfl (EL.as rfl rfl (EL.as rfl rfl (EL.nil (EX.seq (EC.ret ?_)))))
  exact EX.done (res3 rfl rfl rfl rfl) ⟨0, 0, false, rfl, .inr ⟨hns, rfl, rfl, rfl⟩, hbw⟩
section
variable {n : Nat} {σ : Sg} {w : World} {dst : Option Tmp} {ty : TypeId} {pos : String} {af : Array Edge} {g : Option (Nat × Bool)} {x y z : Operand} {at' : Array TypeId}
theorem cF12 : cF 12 := fun _ _ => by simp [go_sem]
theorem bs_59_0 (a : Act) (_ : Env n σ a) : (execOp a.eval ⟨dst, .buildSlice 59 0 #[], ty, pos, af, g⟩).run Try.prog w = .ok (.value (.slice (some ⟨w.heap.size, 0, none⟩) 0 0)) (w.alloc (.cells #[] 69)) := by
 simp only [execOp]
 go_simp
theorem bs_60_0 (a : Act) (_ : Env n σ a) : (execOp a.eval ⟨dst, .buildSlice 60 0 #[], ty, pos, af, g⟩).run Try.prog w = .ok (.value (.slice (some ⟨w.heap.size, 0, none⟩) 0 0)) (w.alloc (.cells #[] 71)) := by
 simp only [execOp]
 go_simp
theorem cF28 : cF 28 := fun _ _ => by simp [go_sem]
theorem neq_67 {a0 a1 b0 b1 : Int} {r : Bool} (hx : evS σ x = some (.agg #[.int .i64 a0, .int .i64 a1])) (hy : evS σ y = some (.agg #[.int .i64 b0, .int .i64 b1])) (hc : decide (¬ (a0 = b0 ∧ a1 = b1)) = r) : Gives Try.prog n σ w ⟨dst, .binOp .neq 67 x y 67, ty, pos, af, g⟩ (.bool r) := fun a ha => by
 subst hc
 simp only [execOp, ha.eval hx, ha.eval hy]
 go_simp
 repeat' split
 all_goals simp_all
theorem cF30 : cF 30 := fun _ _ => by simp [go_sem]
end
theorem lr_info : (Try.prog.info? 69).map (fun i => (i.zero, i.size, i.bytes)) = some (some (.agg #[.int .i64 0, .int .i64 0, .int .i64 0, .int .i64 0]), 4, 32) := by kernel_rfl
theorem lr_elem : Elem Try.prog 59 69 4 32 := Elem.mk' Try.underlying59 lr_info rfl (by omega)
theorem lt_info : (Try.prog.info? 71).map (fun i => (i.zero, i.size, i.bytes)) = some (some (.agg #[.int .i64 0, .int .i64 0, .int .i64 0]), 3, 24) := by kernel_rfl
theorem lt_elem : Elem Try.prog 60 71 3 24 := Elem.mk' Try.underlying60 lt_info rfl (by omega)
theorem OwnLL.mono {w : World} {base b : Nat} {sl : Value} {us : List Value} {ls : List (List Bd)} (h : OwnLL w base sl us ls) (hb : b ≤ base) : OwnLL w b sl us ls := ⟨h.len, own_mono h.rd hb, fun i hi => own_mono (h.row i hi) hb⟩
section
variable {n : Nat} {σ : Sg} {w : World} {dst : Option Tmp} {ty : TypeId} {pos : String} {af : Array Edge} {g : Option (Nat × Bool)} {x y : Operand}
theorem eqLR {a0 a1 a2 a3 : Int} (hx : evS σ x = some (.agg #[.int .i64 a0, .int .i64 a1, .int .i64 a2, .int .i64 a3])) (hy : evS σ y = some (.agg #[.int .i64 a0, .int .i64 a1, .int .i64 a2, .int .i64 a3])) : Gives Try.prog n σ w ⟨dst, .binOp .neq 69 x y 69, ty, pos, af, g⟩ (.bool false) := fun _ ha => by
 simp only [execOp, ha.eval hx, ha.eval hy]
 go_simp
theorem eqLT {a0 a1 a2 : Int} (hx : evS σ x = some (.agg #[.int .i64 a0, .int .i64 a1, .int .i64 a2])) (hy : evS σ y = some (.agg #[.int .i64 a0, .int .i64 a1, .int .i64 a2])) : Gives Try.prog n σ w ⟨dst, .binOp .neq 71 x y 71, ty, pos, af, g⟩ (.bool false) := fun _ ha => by
 simp only [execOp, ha.eval hx, ha.eval hy]
 go_simp
end
set_option maxHeartbeats 1000000 in
set_option maxRecDepth 100000 in
theorem days_law {x : List LR} {y : List LT} {vx vy : Value} {days : Int} {w : World} {B : Nat} (hx : Rd w B 4 vx x.length (lrsC x)) (hy : Rd w B 3 vy y.length (ltsC y)) (hB : B ≤ w.heap.size) :
  Calls Try.prog 6 #[vx, vy, .int .i64 days] w fun e w' => e = .returned (.bool true) ∧ Below w.heap.size w w' := by
 obtain ⟨Ax, cx, rfl, _⟩ := hx.shape;obtain ⟨Ay, cy, rfl, _⟩ := hy.shape;have hbw := Below.refl w.heap.size w;refine EC.enter 187 Try.func6 rfl rfl rfl (EC.seq (EC.region (EL.as rfl rfl (EL.nil (EX.seq (EC.seq (EC.seq (EC.region (EL.mv rfl rfl ?_)))))))));refine EL.val (ln_59 rfl) rfl ?_
 by_cases hx12 : 12 < x.length
 ·
  refine EL.val (x_gtr (r := true) rfl rfl (decide_eq_true (by omega))) rfl ?_
  refine EL.mv rfl rfl (EL.skip rfl rfl rfl rfl (EL.skip rfl rfl rfl rfl (EL.skip rfl rfl rfl rfl (EL.pt rfl rfl rfl (EL.nil (EX.seq (EC.yes rfl (EC.seq (EC.region ?_)))))))));refine EL.call (cA0 cF12) rfl (known_any _) ?_
  rintro e w1 ⟨rfl, hc1⟩
  refine ⟨_, rfl, ?_⟩;replace hbw := bo_ hbw hc1;clear hc1;refine EL.as rfl rfl (EL.nil (EX.seq (EC.ret (EX.seq_ret ?_))))
  exact EX.done (res1 rfl rfl) ⟨rfl, hbw⟩
 ·
  refine EL.val (x_gtr (r := false) rfl rfl (decide_eq_false (by omega))) rfl ?_
  refine EL.mv rfl rfl (EL.mg rfl rfl rfl rfl (EL.valg rfl rfl (ln_60 rfl) rfl ?_))
  by_cases hy12 : 12 < y.length
  ·
   refine EL.valg rfl rfl (x_gtr (r := true) rfl rfl (decide_eq_true (by omega))) rfl ?_
   refine EL.pf rfl rfl rfl (EL.nil (EX.seq (EC.yes rfl (EC.seq (EC.region (EL.call (cA0 cF12) rfl (known_any _) ?_))))))
   rintro e w2 ⟨rfl, hc2⟩
   refine ⟨_, rfl, ?_⟩;replace hbw := bo_ hbw hc2;clear hc2;refine EL.as rfl rfl (EL.nil (EX.seq (EC.ret (EX.seq_ret ?_))))
   exact EX.done (res1 rfl rfl) ⟨rfl, hbw⟩
  ·
   refine EL.valg rfl rfl (x_gtr (r := false) rfl rfl (decide_eq_false (by omega))) rfl ?_
   refine EL.pf rfl rfl rfl (EL.nil (EX.seq (EC.no rfl (EC.skip (EX.seq (EC.seq (EC.region ?_)))))));have hsz := hbw.size;refine EL.newS bs_59_0 rfl ?_;intro g3 w3 q3 hb3 hg3 hl3;have bhbw_3 := Nat.le_trans hbw.size hg3;replace hbw := bo_ hbw hb3;clear hb3 hl3;refine EL.mv rfl rfl ?_;refine EL.copy lr_elem rfl rfl (base := w.heap.size) q3 (Nat.le_trans hsz hg3) (hx.below (hbw.mono hB)) (lrsC_one x) (by omega) (by omega) hbw.size rfl ?_
   intro v4 w4 hcx hb4;replace hbw := bo_ hbw hb4;clear hb4;obtain ⟨Ahcx, chcx, rfl, _⟩ := (Rd.of_own hcx).shape;have hsz := hbw.size;refine EL.newS bs_60_0 rfl ?_;intro g5 w5 q5 hb5 hg5 hl5;have bhbw_5 := Nat.le_trans hbw.size hg5;replace hcx := own_below hcx hb5 (Nat.le_refl _);replace hbw := bo_ hbw hb5;clear hb5 hl5;refine EL.mv rfl rfl ?_;refine EL.copy lt_elem rfl rfl (base := w.heap.size) q5 (Nat.le_trans hsz hg5) (hy.below (hbw.mono hB)) (ltsC_one y) (by omega) (by omega) hbw.size rfl ?_
   intro v6 w6 hcy hb6;replace hcx := own_below hcx hb6 (Nat.le_refl _);replace hbw := bo_ hbw hb6;clear hb6;obtain ⟨Ahcy, chcy, rfl, _⟩ := (Rd.of_own hcy).shape;refine EL.as rfl rfl (EL.as rfl rfl (EL.nil (EX.seq (EC.seq (EC.region (EL.mv rfl rfl (EL.mv rfl rfl (EL.mv rfl rfl ?_))))))));refine EL.call (cA3 cF26 rfl rfl rfl) rfl (Days_any (Rd.of_own hcx) (Rd.of_own hcy) (Nat.le_refl _) (by omega)) ?_
   rintro e w7 ⟨sl, us, rfl, hout, hsl, hc7⟩
   refine ⟨_, rfl, ?_⟩;have hout := fun he => (hout he).mono hbw.size
   replace hcx := own_below hcx hc7 (Nat.le_refl _);replace hcy := own_below hcy hc7 (Nat.le_refl _);replace hbw := bo_ hbw hc7;clear hc7;refine EL.mv rfl rfl (EL.val (x_extract (v := sl) rfl rfl) rfl (EL.val (x_extract (v := .int .i64 (chE x y days)) rfl rfl) rfl (EL.as rfl rfl (EL.as rfl rfl (EL.nil (EX.seq (EC.seq (EC.region (EL.mv rfl rfl ?_)))))))));refine EL.mv rfl rfl (EL.mv rfl rfl ?_);refine EL.call (cA3 cF27 rfl rfl rfl) rfl (Short_any (Rd.of_own hcx) (Rd.of_own hcy) (Nat.le_refl _) (by omega)) ?_
   rintro e w8 ⟨day, reach, sure, rfl, hsh, hsz_, hc8⟩
   refine ⟨_, rfl, ?_⟩;replace hcx := own_below hcx hc8 (Nat.le_refl _);replace hcy := own_below hcy hc8 (Nat.le_refl _);replace hout := fun he => (hout he).below hc8
   replace hbw := bo_ hbw hc8;clear hc8;refine EL.mv rfl rfl (EL.val (x_extract (v := .int .i64 day) rfl rfl) rfl (EL.val (x_extract (v := .int .i64 reach) rfl rfl) rfl (EL.val (x_extract (v := .bool sure) rfl rfl) rfl (EL.val (x_extract (v := .int .i64 (chE x y days)) rfl rfl) rfl (EL.as rfl rfl (EL.as rfl rfl (EL.as rfl rfl (EL.as rfl rfl (EL.nil ?_)))))))));refine EX.seq (EC.seq (EC.seq (EC.region (EL.as rfl rfl (EL.nil (EX.seq (EC.block ?_)))))));refine EC.loopD [6, 15, 54, 55, 56, 57, 58, 59, 60, 61, 62, 63, 64, 65, 66, 67, 68] (fun k : Nat => [(15, .int .i64 (k : Nat))]) (fun k W => k ≤ x.length ∧ W.ownsRow w.heap.size 69 4 (.slice Ahcx x.length chcx) x.length (lrsC x) ∧ W.ownsRow w.heap.size 71 3 (.slice Ahcy y.length chcy) y.length (ltsC y) ∧ (chE x y days = 0 → OwnLL W w.heap.size sl us (daysL x y days.toNat)) ∧ Below w.heap.size w W) (fun k => x.length - k) 0 ⟨Nat.zero_le _, hcx, hcy, hout, hbw⟩ ⟨rfl, trivial⟩ ?_
   clear hcx hcy hout hbw
   rintro k wk ⟨hk, hcx, hcy, hout, hbw⟩
   by_cases hltk : k < x.length
   ·
    obtain ⟨b, o, eA_, _, cc⟩ := lrs_cells x k hltk w B _ _ _ hx
    cases eA_
    obtain ⟨bo, oo, eB_, _, co⟩ := lrs_cells x k hltk _ _ _ _ _ (Rd.of_own hcx)
    cases eB_
    refine EC.seq (EC.seq (EC.region (EL.mv rfl rfl (EL.mv rfl rfl (EL.val (ln_59 rfl) rfl ?_)))));refine EL.val (x_lss (r := true) rfl rfl (decide_eq_true (by omega))) rfl ?_
    refine EL.nil (EX.seq (EC.yes rfl (EC.skip (EX.seq (EC.seq (EC.block (EC.seq ?_)))))));refine EC.regionQ (by kernel_rfl) (by kernel_rfl) ?_
    refine EQ.mv rfl rfl (EQ.mv rfl rfl ?_);refine EQ.val (fun _ hw => (ix_59 rfl rfl hltk)) rfl ?_
    refine EQ.val (fun _ hw => (ld_69 rfl (below_load hw co.c0) (below_load hw co.c1) (below_load hw co.c2) (below_load hw co.c3))) rfl ?_
    refine EQ.mv rfl rfl (EQ.mv rfl rfl ?_);refine EQ.val (fun _ hw => (ix_59 rfl rfl hltk)) rfl ?_
    refine EQ.val (fun _ hw => (ld_69 rfl (below_load hw (below_load hbw cc.c0)) (below_load hw (below_load hbw cc.c1)) (below_load hw (below_load hbw cc.c2)) (below_load hw (below_load hbw cc.c3)))) rfl ?_
    refine EQ.val (fun _ hw => (eqLR rfl rfl)) rfl ?_
    refine EQ.fin (fun w9 hw_ => ?_)
    replace hcx := own_below hcx hw_ (Nat.le_refl _);replace hcy := own_below hcy hw_ (Nat.le_refl _);replace hout := fun he => (hout he).below hw_
    replace hbw := bo_ hbw hw_;clear hw_;refine EX.seq (EC.no rfl (EC.skip (EX.blk (EX.seq (EC.region (EL.mv rfl rfl ?_))))));refine EL.val (x_add rfl rfl (c := ((k + 1 : Nat) : Int)) ((IntWalk.i64_in _ ⟨by first | omega | (simp only; omega), by first | omega | (simp only; omega)⟩).trans (by first | omega | (simp only; omega)))) rfl ?_
    refine EL.as rfl rfl (EL.nil ?_);refine EX.roundD (k + 1) ⟨rfl, trivial⟩ (by repeat first | with_reducible exact .refl _ | refine sp_ rfl ?_ | exact .refl _ | refine sd_ rfl ?_ | refine sn_ ?_) ⟨hltk, hcx, hcy, hout, hbw⟩ (by omega)
   ·
    obtain rfl : k = x.length := by omega
    refine EC.seq (EC.seq (EC.region (EL.mv rfl rfl (EL.mv rfl rfl (EL.val (ln_59 rfl) rfl ?_)))));refine EL.val (x_lss (r := false) rfl rfl (decide_eq_false (by omega))) rfl ?_
    refine EL.nil (EX.seq (EC.no rfl (EC.exit (EX.seq_exit (EX.seq_exit (EX.blk_here (EX.seq (EC.seq (EC.seq ?_)))))))));refine EC.region (EL.as rfl rfl (EL.nil (EX.seq (EC.block ?_))));refine EC.loopD [6, 16, 69, 70, 71, 72, 73, 74, 75, 76, 77, 78, 79, 80, 81, 82, 83] (fun k : Nat => [(16, .int .i64 (k : Nat))]) (fun k W => k ≤ y.length ∧ W.ownsRow w.heap.size 69 4 (.slice Ahcx x.length chcx) x.length (lrsC x) ∧ W.ownsRow w.heap.size 71 3 (.slice Ahcy y.length chcy) y.length (ltsC y) ∧ (chE x y days = 0 → OwnLL W w.heap.size sl us (daysL x y days.toNat)) ∧ Below w.heap.size w W) (fun k => y.length - k) 0 ⟨Nat.zero_le _, hcx, hcy, hout, hbw⟩ ⟨rfl, trivial⟩ ?_
    clear hcx hcy hout hbw
    rintro k wk ⟨hk, hcx, hcy, hout, hbw⟩
    by_cases hltk : k < y.length
    ·
     obtain ⟨b, o, eA_, _, cc⟩ := lts_cells y k hltk w B _ _ _ hy
     cases eA_
     obtain ⟨bo, oo, eB_, _, co⟩ := lts_cells y k hltk _ _ _ _ _ (Rd.of_own hcy)
     cases eB_
     refine EC.seq (EC.seq (EC.region (EL.mv rfl rfl (EL.mv rfl rfl (EL.val (ln_60 rfl) rfl ?_)))));refine EL.val (x_lss (r := true) rfl rfl (decide_eq_true (by omega))) rfl ?_
     refine EL.nil (EX.seq (EC.yes rfl (EC.skip (EX.seq (EC.seq (EC.block (EC.seq ?_)))))));refine EC.regionQ (by kernel_rfl) (by kernel_rfl) ?_
     refine EQ.mv rfl rfl (EQ.mv rfl rfl ?_);refine EQ.val (fun _ hw => (ix_60 rfl rfl hltk)) rfl ?_
     refine EQ.val (fun _ hw => (ld_71 rfl (below_load hw co.c0) (below_load hw co.c1) (below_load hw co.c2))) rfl ?_
     refine EQ.mv rfl rfl (EQ.mv rfl rfl ?_);refine EQ.val (fun _ hw => (ix_60 rfl rfl hltk)) rfl ?_
     refine EQ.val (fun _ hw => (ld_71 rfl (below_load hw (below_load hbw cc.c0)) (below_load hw (below_load hbw cc.c1)) (below_load hw (below_load hbw cc.c2)))) rfl ?_
     refine EQ.val (fun _ hw => (eqLT rfl rfl)) rfl ?_
     refine EQ.fin (fun w10 hw_ => ?_)
     replace hcx := own_below hcx hw_ (Nat.le_refl _);replace hcy := own_below hcy hw_ (Nat.le_refl _);replace hout := fun he => (hout he).below hw_
     replace hbw := bo_ hbw hw_;clear hw_;refine EX.seq (EC.no rfl (EC.skip (EX.blk (EX.seq (EC.region (EL.mv rfl rfl ?_))))));refine EL.val (x_add rfl rfl (c := ((k + 1 : Nat) : Int)) ((IntWalk.i64_in _ ⟨by first | omega | (simp only; omega), by first | omega | (simp only; omega)⟩).trans (by first | omega | (simp only; omega)))) rfl ?_
     refine EL.as rfl rfl (EL.nil ?_);refine EX.roundD (k + 1) ⟨rfl, trivial⟩ (by repeat first | with_reducible exact .refl _ | refine sp_ rfl ?_ | exact .refl _ | refine sd_ rfl ?_ | refine sn_ ?_) ⟨hltk, hcx, hcy, hout, hbw⟩ (by omega)
    ·
     obtain rfl : k = y.length := by omega
     refine EC.seq (EC.seq (EC.region (EL.mv rfl rfl (EL.mv rfl rfl (EL.val (ln_60 rfl) rfl ?_)))));refine EL.val (x_lss (r := false) rfl rfl (decide_eq_false (by omega))) rfl ?_
     refine EL.nil (EX.seq (EC.no rfl (EC.exit (EX.seq_exit (EX.seq_exit (EX.blk_here (EX.seq (EC.seq (EC.seq ?_)))))))));refine EC.region (EL.mv rfl rfl (EL.mv rfl rfl (EL.mv rfl rfl ?_)));refine EL.call (cA3 cF28 rfl rfl rfl) rfl (rChain_any (hx.below (hbw.mono hB)) (hy.below (hbw.mono hB)) (Nat.le_trans hB hbw.size) (by omega) (by omega)) ?_
     rintro e w11 ⟨rfl, hc11⟩
     refine ⟨_, rfl, ?_⟩;replace hcx := own_below hcx hc11 (Nat.le_refl _);replace hcy := own_below hcy hc11 (Nat.le_refl _);replace hout := fun he => (hout he).below hc11
     replace hbw := bo_ hbw hc11;clear hc11;refine EL.as rfl rfl (EL.nil (EX.seq (EC.seq (EC.region (EL.mv rfl rfl ?_)))))
     by_cases he : chE x y days = 0
     ·
      replace hout := hout he;have hch := chE_zero he;obtain ⟨N, rfl⟩ : ∃ N : Nat, days = N := ⟨days.toNat, (Int.toNat_of_nonneg hch.days.1).symm⟩;have hN := hch.days.2;have hxn := hch.n10;have hyl := hch.yl;change OwnLL _ _ sl us (daysL x y N) at hout;have hrd0 := hout.rd;rw [daysL_len] at hrd0;obtain ⟨As, cs, rfl, _⟩ := (Rd.of_own hrd0).shape;have hsi : ShortIs x y N day reach sure := hsh he;clear hrd0 hcx hcy;refine EL.val (x_neq (r := false) rfl rfl (decide_eq_false (by omega))) rfl ?_
      refine EL.nil (EX.seq (EC.no rfl (EC.skip (EX.seq (EC.seq (EC.seq (EC.region (EL.mv rfl rfl ?_))))))));refine EL.val (x_neq (r := false) rfl rfl (decide_eq_false (by omega))) rfl ?_
      refine EL.mv rfl rfl (EL.mg rfl rfl rfl rfl ?_);refine EL.valg rfl rfl (x_neq (r := false) rfl rfl (decide_eq_false (by omega))) rfl ?_
      refine EL.pf rfl rfl rfl (EL.mv rfl rfl (EL.mg rfl rfl rfl rfl (EL.valg rfl rfl (ln_61 rfl) rfl (EL.mg rfl rfl rfl rfl ?_))));refine EL.valg rfl rfl (x_neq (r := false) rfl rfl (decide_eq_false (by omega))) rfl ?_
      refine EL.pf rfl rfl rfl (EL.nil (EX.seq (EC.no rfl (EC.skip (EX.seq (EC.seq (EC.seq (EC.region (EL.as rfl rfl ?_)))))))));refine EL.nil (EX.seq (EC.block ?_));refine EC.loopD [6, 18, 19, 130, 131, 132, 133, 134, 135, 136, 137, 138, 139, 140, 141, 142, 143, 144, 145, 146, 147, 148, 149, 150, 151, 152, 153, 154, 155, 156, 157, 158, 159, 160, 161, 162] (fun dd : Nat => [(18, .int .i64 (dd : Nat))]) (fun dd W => dd ≤ N ∧ OwnLL W w.heap.size (.slice As N cs) us (daysL x y N) ∧ Below w.heap.size w W) (fun dd => N - dd) 0 ⟨Nat.zero_le _, hout, hbw⟩ ⟨rfl, trivial⟩ ?_
      clear hout hbw
      rintro dd wdd ⟨hkd, hout, hbw⟩
      by_cases hltdd : dd < N
      ·
       have hlD := daysL_len x y N;obtain ⟨bq, oq, eq_, _, cq⟩ := rd_val (Rd.of_own (hlD ▸ hout.rd)) (k := dd) (by rw [hout.len, hlD]; exact hltdd)
       subst eq_;have hrow := hout.row dd (by rw [hlD]; exact hltdd)
       rw [daysL_at hltdd, volL_len] at hrow;obtain ⟨gr, cr, er⟩ := own_at0 hrow (by omega)
       rw [er] at cq;clear hrow;refine EC.seq (EC.seq (EC.region (EL.mv rfl rfl (EL.mv rfl rfl ?_))));refine EL.val (x_lss (r := true) rfl rfl (decide_eq_true (by omega))) rfl ?_
       refine EL.nil (EX.seq (EC.yes rfl (EC.skip (EX.seq (EC.seq (EC.block (EC.seq (EC.seq (EC.region ?_)))))))));refine EL.mv rfl rfl (EL.mv rfl rfl (EL.val (ix_61 rfl rfl hltdd) rfl (EL.val (ld_73 rfl cq) rfl (EL.val (ln_73 rfl) rfl (EL.mv rfl rfl (EL.val (ln_59 rfl) rfl ?_))))));refine EL.val (x_neq (r := false) rfl rfl (decide_eq_false (by omega))) rfl ?_
       refine EL.nil (EX.seq (EC.no rfl (EC.skip (EX.seq (EC.seq (EC.region (EL.as rfl rfl (EL.nil (EX.seq ?_)))))))));refine EC.block ?_;refine EC.loopD [6, 19, 143, 144, 145, 146, 147, 148, 149, 150, 151, 152, 153, 154, 155, 156, 157, 158, 159, 160, 161, 162] (fun k : Nat => [(19, .int .i64 (k : Nat))]) (fun k W => k ≤ x.length ∧ OwnLL W w.heap.size (.slice (some ⟨bq, oq, none⟩) N cs) us (daysL x y N) ∧ Below w.heap.size w W) (fun k => x.length - k) 0 ⟨Nat.zero_le _, hout, hbw⟩ ⟨rfl, trivial⟩ ?_
       clear hout hbw cq
       rintro k wk ⟨hkx, hout, hbw⟩
       by_cases hltk : k < x.length
       ·
        have hlD := daysL_len x y N;obtain ⟨bq2, oq2, eq2_, _, cq⟩ := rd_val (Rd.of_own (hlD ▸ hout.rd)) (k := dd) (by rw [hout.len, hlD]; exact hltdd)
        injection eq2_ with eq2_
        injection eq2_ with eq3_ eq4_
        subst eq3_ eq4_;rw [er] at cq;have hrow := hout.row dd (by rw [daysL_len]; exact hltdd)
        rw [daysL_at hltdd, volL_len, er] at hrow;obtain ⟨bn, on, eb_, _, cn⟩ := bds_cells _ k (by rw [volL_len]; exact hltk) _ _ _ _ _ (Rd.of_own hrow)
        injection eb_ with eb_
        injection eb_ with eb1_ eb2_
        subst eb1_ eb2_;rw [show (volL x y (dd + 1)).getD k bd0 = volD x y k (dd + 1) from range_at _ hltk] at cn;clear hrow;refine EC.seq (EC.seq (EC.region (EL.mv rfl rfl (EL.mv rfl rfl (EL.val (ln_59 rfl) rfl ?_)))));refine EL.val (x_lss (r := true) rfl rfl (decide_eq_true (by omega))) rfl ?_
        refine EL.nil (EX.seq (EC.yes rfl (EC.skip (EX.seq (EC.seq (EC.block (EC.seq ?_)))))));refine EC.regionQ (by kernel_rfl) (by kernel_rfl) ?_
        refine EQ.mv rfl rfl (EQ.mv rfl rfl ?_);refine EQ.val (fun _ hw => (ix_61 rfl rfl hltdd)) rfl ?_
        refine EQ.val (fun _ hw => (ld_73 rfl (below_load hw cq))) rfl ?_
        refine EQ.mv rfl rfl ?_;refine EQ.val (fun _ hw => (ix_73 rfl rfl hltk)) rfl ?_
        refine EQ.val (fun _ hw => (ld_67 rfl (below_load hw cn.c0) (below_load hw cn.c1))) rfl ?_
        refine EQ.mv rfl rfl (EQ.mv rfl rfl (EQ.mv rfl rfl (EQ.mv rfl rfl ?_)));refine EQ.val (fun _ hw => (x_add rfl rfl (c := ((dd + 1 : Nat) : Int)) ((IntWalk.i64_in _ ⟨by first | omega | (simp only; omega), by first | omega | (simp only; omega)⟩).trans (by first | omega | (simp only; omega))))) rfl ?_
        refine EQ.call (fun _ _ _ ha => cA4 cF29 rfl rfl rfl rfl _ ha) rfl (fun W hw => (rVolume_any (d := dd + 1) (hx.below ((hbw.trans (hw.mono hbw.size)).mono hB)) (hy.below ((hbw.trans (hw.mono hbw.size)).mono hB)) (Nat.le_trans hB (Nat.le_trans hbw.size hw.size)) hch hltk (by omega)).mono fun e w' h => ⟨h.1, hw.trans (h.2.mono hw.size)⟩) ?_
        refine EQ.val (fun _ hw => (neq_67 (r := false) rfl rfl (decide_eq_false (fun h => h ⟨rfl, rfl⟩)))) rfl ?_
        refine EQ.fin (fun w12 hw_ => ?_)
        replace hout := hout.below hw_;replace hbw := bo_ hbw hw_;clear hw_;refine EX.seq (EC.no rfl (EC.skip (EX.blk (EX.seq (EC.region (EL.mv rfl rfl ?_))))));refine EL.val (x_add rfl rfl (c := ((k + 1 : Nat) : Int)) ((IntWalk.i64_in _ ⟨by first | omega | (simp only; omega), by first | omega | (simp only; omega)⟩).trans (by first | omega | (simp only; omega)))) rfl ?_
        refine EL.as rfl rfl (EL.nil ?_);refine EX.roundD (k + 1) ⟨rfl, trivial⟩ (by repeat first | with_reducible exact .refl _ | refine sp_ rfl ?_ | exact .refl _ | refine sd_ rfl ?_ | refine sn_ ?_) ⟨hltk, hout, hbw⟩ (by omega)
       ·
        obtain rfl : k = x.length := by omega
        refine EC.seq (EC.seq (EC.region (EL.mv rfl rfl (EL.mv rfl rfl (EL.val (ln_59 rfl) rfl ?_)))));refine EL.val (x_lss (r := false) rfl rfl (decide_eq_false (by omega))) rfl ?_
        refine EL.nil (EX.seq (EC.no rfl (EC.exit (EX.seq_exit (EX.seq_exit (EX.blk_here (EX.blk (EX.seq (EC.region ?_)))))))));refine EL.mv rfl rfl ?_;refine EL.val (x_add rfl rfl (c := ((dd + 1 : Nat) : Int)) ((IntWalk.i64_in _ ⟨by first | omega | (simp only; omega), by first | omega | (simp only; omega)⟩).trans (by first | omega | (simp only; omega)))) rfl ?_
        refine EL.as rfl rfl (EL.nil ?_);refine EX.roundD (dd + 1) ⟨rfl, trivial⟩ (by repeat first | with_reducible exact .refl _ | refine sp_ rfl ?_ | exact .refl _ | refine sd_ rfl ?_ | refine sn_ ?_) ⟨hltdd, hout, hbw⟩ (by omega)
      ·
       obtain rfl : dd = N := by omega
       refine EC.seq (EC.seq (EC.region (EL.mv rfl rfl (EL.mv rfl rfl ?_))));refine EL.val (x_lss (r := false) rfl rfl (decide_eq_false (by omega))) rfl ?_
       refine EL.nil (EX.seq (EC.no rfl (EC.exit (EX.seq_exit (EX.seq_exit (EX.blk_here (EX.seq (EC.seq (EC.region ?_)))))))));refine EL.mv rfl rfl (EL.mv rfl rfl (EL.mv rfl rfl (EL.call (cA3 cF30 rfl rfl rfl) rfl (rShort_any (hx.below (hbw.mono hB)) (hy.below (hbw.mono hB)) (Nat.le_trans hB hbw.size) hch) ?_)))
       rintro e w13 ⟨day2, reach2, sure2, rfl, hsi2, hc13⟩
       refine ⟨_, rfl, ?_⟩;obtain ⟨rfl, rfl, rfl⟩ := short_one hsi hsi2;replace hout := hout.below hc13;replace hbw := bo_ hbw hc13;clear hc13;refine EL.mv rfl rfl (EL.val (x_extract (v := .int .i64 day) rfl rfl) rfl (EL.val (x_extract (v := .int .i64 reach) rfl rfl) rfl (EL.val (x_extract (v := .bool sure) rfl rfl) rfl (EL.as rfl rfl (EL.as rfl rfl (EL.as rfl rfl (EL.nil (EX.seq (EC.seq ?_)))))))));refine EC.region (EL.mv rfl rfl (EL.mv rfl rfl (EL.val (x_eql (r := true) rfl rfl (decide_eq_true rfl)) rfl (EL.mv rfl rfl (EL.mg rfl rfl rfl rfl (EL.mg rfl rfl rfl rfl (EL.valg rfl rfl (x_eql (r := true) rfl rfl (decide_eq_true rfl)) rfl (EL.pt rfl rfl rfl (EL.mv rfl rfl ?_)))))))));refine EL.mg rfl rfl rfl rfl (EL.mg rfl rfl rfl rfl (EL.valg rfl rfl (x_eqlB (r := true) rfl rfl (decide_eq_true rfl)) rfl (EL.pt rfl rfl rfl (EL.mv rfl rfl (EL.callg rfl rfl (cA0 cF12) rfl (known_any _) ?_)))))
       rintro e w14 ⟨rfl, hc14⟩
       refine ⟨_, rfl, ?_⟩;replace hout := hout.below hc14;replace hbw := bo_ hbw hc14;clear hc14;refine EL.pt rfl rfl rfl (EL.as rfl rfl (EL.nil (EX.seq (EC.ret ?_))))
       exact EX.done (res1 rfl rfl) ⟨rfl, hbw⟩
     ·
      obtain rfl := hsl he;obtain ⟨rfl, rfl, rfl⟩ := hsz_ he;clear hout;refine EL.val (x_neq (r := true) rfl rfl (decide_eq_true (by omega))) rfl ?_
      refine EL.nil (EX.seq (EC.yes rfl (EC.seq (EC.region (EL.mv rfl rfl (EL.mv rfl rfl (EL.val (x_eql (r := true) rfl rfl (decide_eq_true rfl)) rfl (EL.mv rfl rfl (EL.mg rfl rfl rfl rfl ?_)))))))));refine EL.mg rfl rfl rfl rfl (EL.valg rfl rfl (x_eql (r := true) rfl rfl (decide_eq_true rfl)) rfl (EL.pt rfl rfl rfl (EL.mv rfl rfl (EL.mg rfl rfl rfl rfl (EL.valg rfl rfl (ln_61 rfl) rfl ?_)))));refine EL.valg rfl rfl (x_eql (r := true) rfl rfl (by decide)) rfl ?_
      refine EL.pt rfl rfl rfl (EL.mv rfl rfl (EL.mg rfl rfl rfl rfl ?_));refine EL.valg rfl rfl (x_eql (r := true) rfl rfl (by decide)) rfl ?_
      refine EL.pt rfl rfl rfl (EL.mv rfl rfl (EL.mg rfl rfl rfl rfl ?_));refine EL.valg rfl rfl (x_eql (r := true) rfl rfl (by decide)) rfl ?_
      refine EL.pt rfl rfl rfl (EL.mv rfl rfl (EL.mg rfl rfl rfl rfl (EL.valg rfl rfl (x_not rfl) rfl (EL.pt rfl rfl rfl (EL.mv rfl rfl (EL.callg rfl rfl (cA0 cF12) rfl (known_any _) ?_))))))
      rintro e w15 ⟨rfl, hc15⟩
      refine ⟨_, rfl, ?_⟩;replace hcx := own_below hcx hc15 (Nat.le_refl _);replace hcy := own_below hcy hc15 (Nat.le_refl _);replace hbw := bo_ hbw hc15;clear hc15;refine EL.pt rfl rfl rfl (EL.as rfl rfl (EL.nil (EX.seq (EC.ret (EX.seq_ret ?_)))))
      exact EX.done (res1 rfl rfl) ⟨rfl, hbw⟩
end Go.Proofs.Ytlbfnimilcnihaa
