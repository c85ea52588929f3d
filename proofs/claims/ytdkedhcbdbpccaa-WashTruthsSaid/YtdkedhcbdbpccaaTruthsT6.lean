/- X39: what WashTruthsProof needs of them (merged by trimpack.py). -/
import Derived.Test.YtdkedhcbdbpccaaTruthsT5
set_option linter.unusedVariables false
set_option linter.unusedSimpArgs false
namespace Go.Proofs.Ytdkedhcbdbpccaa
open Go Go.RowKit
theorem evs_num {l : List Ev} {k n c b o B : Nat} {w : World} {A : Option Addr} {v : Int} (e : A = some ⟨b, o, none⟩) (hr : Rd w B 2 (.slice A n c) n (evsC l)) (hk : k < l.length) (hv : (l.getD k ev0).number = v) : w.cell? ⟨b, o + k * 2 + 1, none⟩ = some (.int .i64 v) := by
 obtain ⟨b', o', e', _, _, h⟩ := evs_cells l k hk _ _ _ _ _ hr;rw [e] at e'
 cases e'
 rw [hv] at h
 exact h
theorem ints_num {l : List Int} {k n c b o B : Nat} {w : World} {A : Option Addr} (e : A = some ⟨b, o, none⟩) (hr : Rd w B 1 (.slice A n c) n (ints l)) (hk : k < l.length) : w.cell? ⟨b, o + k, none⟩ = some (.int .i64 (l.getD k 0)) := by
 obtain ⟨b', o', e', _, h⟩ := ints_cells l k hk _ _ _ _ _ hr;rw [e] at e'
 cases e'
 exact h
theorem x_neqB2 {n : Nat} {σ : Sg} {w : World} {dst : Option Tmp} {ty : TypeId} {pos : String} {af : Array Edge} {g : Option (Nat × Bool)} {x y : Operand} {a b r : Bool} (hx : evS σ x = some (.bool a)) (hy : evS σ y = some (.bool b)) (hc : decide (a ≠ b) = r) : Gives Try.prog n σ w ⟨dst, .binOp .neq 4 x y 4, ty, pos, af, g⟩ (.bool r) := fun _ ha => by
 subst hc
 simp only [execOp, ha.eval hx, ha.eval hy]
 cases a <;> cases b <;> kernel_rfl
theorem may_step {ru : Rules} {tr af : List Int} {c k : Nat} (b : Bool) (h : (mayW ru tr af c k && (decide (af.getD k 0 < 0) || (decide (tr.getD k 0 ≤ allowAt ru k c) && decide (apartAt ru k c ≤ af.getD k 0)))) = b) : b = mayW ru tr af c (k + 1) := h.symm
theorem trk_set {t : List Int} {m k j : Nat} {v : Int} (hl : t.length = m) (hk : k < m) : (t.set k v).getD j 0 = if j = k then v else t.getD j 0 := by
 by_cases e : j = k
 ·subst e
  rw [if_pos rfl, List.getD_eq_getElem?_getD, List.getElem?_set_self (by omega)]
  rfl
 ·rw [if_neg e, List.getD_eq_getElem?_getD, List.getElem?_set_ne (fun x => e x.symm), ← List.getD_eq_getElem?_getD]
theorem load_step {ru : Rules} {x : Ev} {n : Int} {tr af t1 a1 : List Int} {num : Nat} (hk1 : x.kind = 1) (ek : x.number = ((num : Nat) : Int)) (hn : num < 4) (hl1 : t1.length = 4) (hl2 : a1.length = 4) (ht : ∀ j, j < 4 → t1.getD j 0 = if j < 4 then max 0 (tr.getD j 0 - n) else tr.getD j 0) (ha : ∀ j, j < 4 → a1.getD j 0 = if j < 4 then (if x.kind = 1 ∧ 0 ≤ af.getD j 0 then af.getD j 0 + 1 else af.getD j 0) else af.getD j 0) : TruthStep ru x n tr af (t1.set num (ru.levels.getD num 0)) (a1.set num 0) := by
 refine ⟨by rw [List.length_set]; exact hl1, by rw [List.length_set]; exact hl2, fun j hj => ?_, fun j hj => ?_⟩
 ·rw [trk_set hl1 hn]
  by_cases e : j = num
  ·rw [if_pos e, if_pos ⟨hk1, by rw [ek, e]⟩, e]
  ·rw [if_neg e, if_neg (fun h => e (by have := h.2; rw [ek] at this; omega)), ht j hj, if_pos hj]
 ·rw [trk_set hl2 hn, if_pos hk1]
  by_cases e : j = num
  ·rw [if_pos e, if_pos (by rw [ek, e])]
  ·rw [if_neg e, if_neg (fun h => e (by rw [ek] at h; omega)), ha j hj, if_pos hj]
   by_cases h0 : 0 ≤ af.getD j 0
   ·rw [if_pos ⟨hk1, h0⟩, if_pos h0]
   ·rw [if_neg (fun h => h0 h.2), if_neg h0]
theorem ints_at {t : List Int} {k m : Nat} (hl : t.length = m) (hk : k < m) : (ints t)[0 + k]? = some (.int .i64 (t.getD k 0)) := by
 rw [Nat.zero_add]
 simp [ints, hl, hk]
theorem spl_ints {t : List Int} {k m : Nat} {v : Int} (hl : t.length = m) (hk : k < m) : spl (ints t) (0 + k) [.int .i64 v] = ints (t.set k v) := by
 rw [Nat.zero_add, spl_one _ _ _ (by rw [ints_len, hl]; exact hk)]
 simp [ints, List.map_set]
theorem set_step {t : List Int} {k m : Nat} {v : Int} {f g : Nat → Int} (hl : t.length = m) (hk : k < m) (h : ∀ j, j < m → t.getD j 0 = if j < k then f j else g j) (hv : v = f k) : ∀ j, j < m → (t.set k v).getD j 0 = if j < k + 1 then f j else g j := fun j hj => by
 by_cases e : j = k
 ·subst e
  rw [if_pos (by omega), List.getD_eq_getElem?_getD, List.getElem?_set_self (by omega)]
  exact hv
 ·rw [List.getD_eq_getElem?_getD, List.getElem?_set_ne (fun x => e x.symm), ← List.getD_eq_getElem?_getD, h j hj]
  by_cases e2 : j < k
  ·rw [if_pos e2, if_pos (by omega)]
  ·rw [if_neg e2, if_neg (by omega)]
theorem stay_step {t : List Int} {k m : Nat} {f g : Nat → Int} (hk : k < m) (h : ∀ j, j < m → t.getD j 0 = if j < k then f j else g j) (hv : t.getD k 0 = f k) : ∀ j, j < m → t.getD j 0 = if j < k + 1 then f j else g j := fun j hj => by
 by_cases e : j = k
 ·subst e
  rw [if_pos (by omega)]
  exact hv
 ·rw [h j hj]
  by_cases e2 : j < k
  ·rw [if_pos e2, if_pos (by omega)]
  ·rw [if_neg e2, if_neg (by omega)]
theorem by_ok {r : Rules} (h : RulesOk r) (x : Ev) : 0 ≤ (byOf r x).lo ∧ (byOf r x).lo ≤ (byOf r x).hi ∧ (byOf r x).hi ≤ 1000000 := by
 unfold byOf
 split
 ·have h2 := h.kd x.number.toNat
  unfold kdB at h2
  simp only [Bool.and_eq_true, bdB_iff] at h2
  exact h2.1
 ·exact h.fade
theorem nw_ok {a b : Int} {way : Nat} (h : a ≤ b) (hw : way < 3) : a ≤ [a, b, a].getD way 0 ∧ [a, b, a].getD way 0 ≤ b ∧ (way = 0 → [a, b, a].getD way 0 = a) ∧ (way = 1 → [a, b, a].getD way 0 = b) := by
 match way, hw with
 | 0, _ => exact ⟨Int.le_refl _, h, fun _ => rfl, fun h => by omega⟩
 | 1, _ => exact ⟨h, Int.le_refl _, fun h => by omega, fun _ => rfl⟩
 | 2, _ => exact ⟨Int.le_refl _, h, fun h => by omega, fun h => by omega⟩
theorem x_idx3 {n : Nat} {σ : Sg} {w : World} {dst : Option Tmp} {ty : TypeId} {pos : String} {af : Array Edge} {g : Option (Nat × Bool)} {x y : Operand} {a b c : Int} {k : Nat} (hx : evS σ x = some (.agg #[.int .i64 a, .int .i64 b, .int .i64 c])) (hy : evS σ y = some (.int .i64 (k : Nat))) (hk : k < 3) : Gives Try.prog n σ w ⟨dst, .index 94 x y, ty, pos, af, g⟩ (.int .i64 ([a, b, c].getD k 0)) := fun e he => by
 obtain ⟨ti, h1, h2⟩ : ∃ ti, Try.prog.info? 3 = some ti ∧ ti.size = 1 := by
  have h := ir_info
  cases e : Try.prog.info? 3 with
  | none => simp [e] at h
  | some i => exact ⟨i, rfl, by simp [e] at h; exact h.2.1⟩
 simp only [execOp, he.eval hx, he.eval hy]
 match k, hk with
 | 0, _ => simp [go_sem, Instr.index, asIntOf, part, isAgg, sizeOf, typeInfo, Sem.run_bind, run_underlying Try.underlying94, run_underlying Try.underlying3, h1, h2]
 | 1, _ => simp [go_sem, Instr.index, asIntOf, part, isAgg, sizeOf, typeInfo, Sem.run_bind, run_underlying Try.underlying94, run_underlying Try.underlying3, h1, h2]
 | 2, _ => simp [go_sem, Instr.index, asIntOf, part, isAgg, sizeOf, typeInfo, Sem.run_bind, run_underlying Try.underlying94, run_underlying Try.underlying3, h1, h2]
theorem mono_ev {i : Nat} {l : List Ev} : Mono fun r w => ∃ v, r i = v ∧ Rd w w.heap.size 2 v l.length (evsC l) := fun _ _ _ hb ⟨v, h1, h2⟩ => ⟨v, h1, (h2.below hb).more hb.size⟩
theorem tup2 {a b c d : Value} (h : Value.tuple #[a, b] = .tuple #[c, d]) : a = c := by
 injection h with h
 have h := congrArg Array.toList h
 simp at h
 exact h.1
theorem Residues_to {ru : Rules} {ua up : List Value} {vl va vp vk : Value} {w : World} {B : Nat} (hr : RdRules w B vl va vp vk ru ua up) (hB : B ≤ w.heap.size) (hs : Short ru) (h4 : ru.levels.length = 4) {l : List Ev} (hz : refE ru l = 0) {v : Value} (hl : Rd w B 2 v l.length (evsC l)) (hn : l.length ≤ 1048576) :
  Calls Try.prog 33 #[rulesV vl va vp vk ru, v] w fun e w' => (∃ A c, e = .returned (.tuple #[.slice A 4 c, .int .i64 0]) ∧ w'.ownsRow w.heap.size 24 2 (.slice A 4 c) 4 (bdsC (resK (afterT ru l) 4))) ∧ Below w.heap.size w w' := (Residues_any hr hB hs hl hn).mono fun e w' ⟨⟨u, h1, h2⟩, hb⟩ => by
 have e1 : resE ru l = (resK (afterT ru l) 4) := by rw [resE, if_pos hz, h4]
 have e2 : (resK (afterT ru l) 4).length = 4 := by simp [resK]
 rw [e1, e2] at h2;rw [hz] at h1;obtain ⟨A, c, rfl, _⟩ := (Rd.of_own h2).shape
 exact ⟨⟨A, c, h1, h2⟩, hb⟩
theorem May_to {ru : Rules} {ua up : List Value} {vl va vp vk : Value} {w : World} {B : Nat} (hr : RdRules w B vl va vp vk ru ua up) (hB : B ≤ w.heap.size) (hs : Short ru) (h4 : ru.levels.length = 4) {l : List Ev} (hz : refE ru l = 0) {v : Value} (hl : Rd w B 2 v l.length (evsC l)) (hn : l.length ≤ 1048576) {cn : Nat} (hc : cn < 4) :
  Calls Try.prog 34 #[rulesV vl va vp vk ru, v, .int .i64 (cn : Nat)] w fun e w' => e = .returned (.tuple #[.bool (mayT ru (afterT ru l) cn 4).1, .bool (mayT ru (afterT ru l) cn 4).2, .int .i64 0]) ∧ Below w.heap.size w w' := (May_any hr hB hs hl hn _).mono fun e w' ⟨h1, hb⟩ => by
 rw [mayE, if_pos hz, if_pos (inB_iff.2 (by omega)), Int.toNat_natCast, h4] at h1
 exact ⟨h1, hb⟩
def LH (t : List Tr) : Prop := ∀ y ∈ t, y.lo ≤ y.hi
theorem lh_step {r : Rules} (hr : RulesOk r) {t : List Tr} (h : LH t) (x : Ev) : LH (stepT r t x) := by
 unfold stepT
 split
 ·intro y hy
  obtain ⟨z, hz, rfl⟩ := List.mem_map.1 hy;have h1 := h z hz;have h2 := hr.kd x.number.toNat
  unfold kdB at h2
  simp only [Bool.and_eq_true, bdB_iff] at h2
  simp only [redT]
  omega
 ·intro y hy
  rcases List.mem_or_eq_of_mem_set hy with hy | rfl
  ·obtain ⟨z, hz, rfl⟩ := List.mem_map.1 hy
   have h1 := h z hz;have h2 := hr.fade
   simp only [fadeT]
   omega
  ·exact Int.le_refl _
theorem lh_fold {r : Rules} (hr : RulesOk r) : ∀ (l : List Ev) (t : List Tr), LH t → LH (l.foldl (stepT r) t)
 | [], _, h => h
 | x :: l, t, h => lh_fold hr l _ (lh_step hr h x)
theorem lh_after {r : Rules} (hr : RulesOk r) (l : List Ev) : LH (afterT r l) := lh_fold hr l _ fun y hy => by
 rw [List.eq_of_mem_replicate hy]
 exact Int.le_refl _
theorem may_sub {r : Rules} {t : List Tr} (h : LH t) (c : Nat) : ∀ m, (mayT r t c m).1 = true → (mayT r t c m).2 = true
 | 0, _ => rfl
 | k + 1, hm => by
  have hle : (t.getD k tr0).lo ≤ (t.getD k tr0).hi := by
   by_cases hk : k < t.length
   ·exact h _ (getD_mem hk tr0)
   ·rw [List.getD_eq_getElem?_getD, List.getElem?_eq_none (Nat.le_of_not_lt hk)]
    exact Int.le_refl _
  unfold mayT at hm ⊢
  simp only [Bool.and_eq_true, Bool.not_eq_true'] at hm ⊢
  refine ⟨may_sub h c k hm.1, ?_⟩;have h2 := hm.2
  unfold forbT at h2 ⊢
  split
  ·rename_i hc
   rw [if_pos hc] at h2
   simp only [Bool.or_eq_false_iff, decide_eq_false_iff_not] at h2 ⊢
   omega
  ·rfl
set_option maxRecDepth 100000 in
set_option maxHeartbeats 2000000 in
theorem truths_law {x : Sml} (hok : SmlOk x) {vks ves vpk : Value} {w : World} {B : Nat} (hkr : Rd w B 3 vks x.kinds.length (k3s x.kinds)) (her : Rd w B 2 ves x.events.length (e2s x.events)) (hB : B ≤ w.heap.size) {pk : List Int} (hpr : Rd w B 1 vpk pk.length (u8s pk)) (hpb : ∀ i, i < pk.length → byte (pk.getD i 0)) (hpl : pk.length ≤ maxLen) {cg : Int} (hcg : byte cg) :
  Calls Try.prog 7 #[.agg (smC x.b vks ves).toArray, vpk, .int .u8 cg] w fun e w' => e = .returned (.bool true) ∧ Below w.heap.size w w' := by
 obtain ⟨Apk, cpk, rfl, _⟩ := hpr.shape;have hbw := Below.refl w.heap.size w;obtain ⟨cn, hcn, hc4⟩ : ∃ cn : Nat, cg.tmod 4 = ((cn : Nat) : Int) ∧ cn < 4 := ⟨(cg.tmod 4).toNat, by have := byte_rem hcg (m := 4) (by omega); omega, by have := byte_rem hcg (m := 4) (by omega); omega⟩
 refine EC.enter 304 Try.func7 rfl rfl rfl (EC.seq (EC.region (EL.newP (x_boxA rfl) rfl ?_)));intro g1 w1 q1 hb1 hg1 hl1;have bhbw_1 := Nat.le_trans hbw.size hg1;replace hbw := bo_ hbw hb1;clear hb1 hg1 hl1;refine EL.as rfl rfl (EL.nil (EX.seq (EC.seq (EC.region (EL.val (x_loadA rfl (q1.range (PartAt.whole _)) Try.underlying78 rfl (sz_78.trans (congrArg some (smC_len _ _ _).symm))) rfl (EL.call (cA1 cF29 rfl) rfl (smRules_any hok (hkr.below (hbw.mono hB)) (Nat.le_trans hB hbw.size)) ?_))))))
 rintro e w2 ⟨⟨vl, va, vp, vk, ua, up, rfl, hR⟩, hc2⟩
 refine ⟨_, rfl, ?_⟩;replace q1 := q1.bl hc2;replace hbw := bo_ hbw hc2;clear hc2;obtain ⟨ru, hru⟩ : ∃ ru, ru = smRules x := ⟨_, rfl⟩;have hrb := sm_rules hok;have hs := sm_short hok;have h4 : (smRules x).levels.length = 4 := rfl;have hhl := sm_hist hok;have hz := sm_ref hok;have hro := rules_ok hrb;rw [← hru] at hR hrb hs h4 hhl hz hro ⊢;obtain ⟨Al, cl, rfl, _⟩ := hR.levels.shape;obtain ⟨Aa, ca, rfl, _⟩ := hR.allow.rd.shape;obtain ⟨Ap, cp, rfl, _⟩ := hR.apart.rd.shape;obtain ⟨Ak, ck, rfl, _⟩ := hR.kinds.shape
 unfold rulesV
 have hbo := Below.refl w2.heap.size w2;have hbo0 := hbw.size;refine EL.newP al_28 rfl ?_;intro g3 w3 q3 hb3 hg3 hl3;have n1_3 := q1.na hg3;have bhbw_3 := Nat.le_trans hbw.size hg3;have bhbo_3 := Nat.le_trans hbo.size hg3;replace q1 := q1.bl hb3;replace hbw := bo_ hbw hb3;replace hbo := bo_ hbo hb3;clear hb3 hg3 hl3;refine EL.store rfl rfl q3 sz_28 rfl rfl rfl rfl ?_;intro w4 hq4 hg4;replace q1 := q1.gr hg4 n1_3;replace hbw := below_store hbw hg4 bhbw_3;replace hbo := below_store hbo hg4 bhbo_3;replace q3 := hq4;clear hg4 hq4;refine EL.nil (EX.seq (EC.seq (EC.region (EL.val (x_loadA rfl (q1.range (PartAt.whole _)) Try.underlying78 rfl (sz_78.trans (congrArg some (smC_len _ _ _).symm))) rfl (EL.val (ld_28 rfl (q3.at (j := 0) rfl) (q3.at (j := 1) rfl) (q3.at (j := 2) rfl) (q3.at (j := 3) rfl) (q3.at (j := 4) rfl) (q3.at (j := 5) rfl)) rfl ?_)))));refine EL.call (cA2 cF30 rfl rfl) rfl (history_any hok (her.below (hbw.mono hB)) (Nat.le_trans hB hbw.size) (by have := hro.k4; omega)) ?_
 rintro e w5 ⟨⟨vx, rfl, hx⟩, hc5⟩
 refine ⟨_, rfl, ?_⟩;replace hx := own_less hx hbw.size;replace q1 := q1.bl hc5;replace q3 := q3.bl hc5;replace hbw := bo_ hbw hc5;replace hbo := bo_ hbo hc5;clear hc5
 generalize smHist ru.kinds.length x.events = l at hhl hz hx
 obtain ⟨hl30, hlv⟩ := hhl;obtain ⟨Ax, cx, rfl, _⟩ := (Rd.of_own hx).shape;refine EL.as rfl rfl (EL.nil (EX.seq (EC.seq ?_)));have lt_1 := q1.lt;have lt_3 := q3.lt;refine EC.regionP [[], [], [1], [0, 1, 2], [0, 1, 2, 3], [0, 1, 2, 3, 4], [0, 1, 2, 3, 4], [0, 1, 2, 3, 4, 5], [0, 1, 2, 3, 4, 5, 6, 7]] 9 [] (phi (fun i_ r => match i_ with | 0 => r 0 = .agg #[.slice Al ru.levels.length cl, .int .i64 ru.fade.lo, .int .i64 ru.fade.hi, .slice Aa ru.allow.length ca, .slice Ap ru.apart.length cp, .slice Ak ru.kinds.length ck] | 1 => r 1 = .slice Ax l.length cx | 6 => r 6 = .int .i64 0 | 8 => r 8 = .int .i64 0 | _ => True) [(2, fun r w_ => ∃ v, r 2 = v ∧ Rd w_ w_.heap.size 2 v l.length (evsC l)), (3, fun r w_ => ∃ (A : Option Addr) (c : Nat), r 3 = .tuple #[.slice A 4 c, .int .i64 0] ∧ w_.ownsRow 0 24 2 (.slice A 4 c) 4 (bdsC (resK (afterT ru l) 4))), (4, fun r w_ => ∃ (A : Option Addr) (c : Nat), r 3 = .tuple #[.slice A 4 c, .int .i64 0] ∧ r 4 = .tuple #[.slice A 4 c, .int .i64 0]), (5, fun r w_ => ∃ (A : Option Addr) (c : Nat), r 3 = .tuple #[.slice A 4 c, .int .i64 0] ∧ r 5 = .slice A 4 c), (7, fun r w_ => ∃ (A : Option Addr) (c : Nat), r 3 = .tuple #[.slice A 4 c, .int .i64 0] ∧ r 7 = .slice A 4 c)]) (by kernel_rfl) rfl rfl (phi_cons mono_ev (phi_cons (fun _ _ _ hb ⟨A, c, h1, h2⟩ => ⟨A, c, h1, own_below h2 hb (Nat.le_refl _)⟩) (phi_cons (fun _ _ _ _ h => h) (phi_cons (fun _ _ _ _ h => h) (phi_cons (fun _ _ _ _ h => h) (phi_nil)))))) (fun i_ hi_ => ?_) ?_
 ·match i_, hi_ with
  | 0, _ =>
   intro val w1 a hb ha hd;have ha := ha.s0 (d := 7) rfl
   exact hs_val ha rfl rfl (ld_28 rfl ((q3.below hb q3.lt).at (j := 0) rfl) ((q3.below hb q3.lt).at (j := 1) rfl) ((q3.below hb q3.lt).at (j := 2) rfl) ((q3.below hb q3.lt).at (j := 3) rfl) ((q3.below hb q3.lt).at (j := 4) rfl) ((q3.below hb q3.lt).at (j := 5) rfl)) rfl rfl
  | 1, _ =>
   intro val w1 a hb ha hd;have ha := ha.s0 (d := 8) rfl
   exact hs_val ha rfl rfl (x_move rfl) rfl rfl
  | 2, _ =>
   intro val w1 a hb ha hd;have e1 : val 1 = _ := hd 1 (memB_mem.1 rfl);have ha := ha.s1 (d := 31) rfl e1;refine hs_call ha rfl rfl (cA1 cF15 rfl) (events_any (Rd.of_own (own_below hx hb (Nat.le_refl _))) (Nat.le_refl _) (by omega)) rfl ?_
   rintro e w' ⟨⟨v2, rfl, hJ⟩, hb'⟩
   exact ⟨_, rfl, hb', ⟨v2, rfl, Rd.of_own hJ⟩⟩
  | 3, _ =>
   intro val w1 a hb ha hd;have e0 : val 0 = _ := hd 0 (memB_mem.1 rfl);obtain ⟨v2_, e2, hJ2_⟩ := hd 2 (memB_mem.1 rfl);have ha := ha.s2 (d := 32) (e := 30) rfl e2 rfl e0;refine hs_call ha rfl rfl (cA2 cF33 rfl rfl) (Residues_to ((hR.below (hbo.trans (hb.mono hbo.size))).more (Nat.le_trans hbo.size hb.size)) (Nat.le_refl _) hs h4 hz hJ2_ (by omega)) rfl ?_
   rintro e w' ⟨⟨A, c, rfl, ho⟩, hb'⟩
   exact ⟨_, rfl, hb', ⟨A, c, rfl, own_less ho (Nat.zero_le _)⟩⟩
  | 4, _ =>
   intro val w1 a hb ha hd;obtain ⟨A8, c8, e3, hb8⟩ := hd 3 (memB_mem.1 rfl);have ha := ha.s1 (d := 33) rfl e3
   exact hs_val ha rfl rfl (x_move rfl) ⟨_, _, e3, rfl⟩ rfl
  | 5, _ =>
   intro val w1 a hb ha hd;obtain ⟨A4_, c4_, x4_, e4⟩ := hd 4 (memB_mem.1 rfl);have ha := ha.s1 (d := 29) rfl e4
   exact hs_val ha rfl rfl (x_extract rfl rfl) ⟨_, _, x4_, rfl⟩ rfl
  | 6, _ =>
   intro val w1 a hb ha hd;obtain ⟨A4_, c4_, x4_, e4⟩ := hd 4 (memB_mem.1 rfl);have ha := ha.s1 (d := 29) rfl e4
   exact hs_val ha rfl rfl (x_extract rfl rfl) rfl rfl
  | 7, _ =>
   intro val w1 a hb ha hd;obtain ⟨A5_, c5_, x5_, e5⟩ := hd 5 (memB_mem.1 rfl);have ha := ha.s1 (d := 34) rfl e5
   exact hs_val ha rfl rfl (x_assign rfl) ⟨_, _, x5_, rfl⟩ rfl
  | 8, _ =>
   intro val w1 a hb ha hd;have e6 : val 6 = _ := hd 6 (memB_mem.1 rfl);have ha := ha.s1 (d := 35) rfl e6
   exact hs_val ha rfl rfl (x_assign rfl) rfl rfl
  | k + 9, h => exact absurd h (by omega)
 ·intro val wR3 hb halc hd
  have e0 : val 0 = _ := hd 0 (by omega)
  have e1 : val 1 = _ := hd 1 (by omega)
  obtain ⟨v2_, e2, hJ2_⟩ := hd 2 (by omega)
  obtain ⟨A8, c8, e3, hb8⟩ := hd 3 (by omega)
  obtain ⟨A4_, c4_, x4_, e4⟩ := hd 4 (by omega)
  obtain ⟨A5_, c5_, x5_, e5⟩ := hd 5 (by omega)
  have e6 : val 6 = _ := hd 6 (by omega)
  obtain ⟨A7_, c7_, x7_, e7⟩ := hd 7 (by omega)
  have e8 : val 8 = _ := hd 8 (by omega)
  have y4_ := tup2 (e3.symm.trans x4_);rw [← y4_] at e4;have y5_ := tup2 (e3.symm.trans x5_);rw [← y5_] at e5;have y7_ := tup2 (e3.symm.trans x7_);rw [← y7_] at e7;refine EL.ends (cs := [_, _, _, _, _, _, _, _, _]) ⟨e0, e1, e2, e3, e4, e5, e6, e7, e8, trivial⟩ rfl ?_;replace q1 := q1.bl hb;replace q3 := q3.bl hb;replace hx := own_below hx hb (Nat.le_refl _);replace hbw := bo_ hbw hb;replace hbo := bo_ hbo hb;clear hb;clear hJ2_;refine EL.nil (EX.seq (EC.seq (EC.seq (EC.region (EL.mv rfl rfl (EL.val (x_neq (r := false) rfl rfl rfl) rfl (EL.mv rfl rfl (EL.mg rfl rfl rfl rfl (EL.valg rfl rfl (ln_60 rfl) rfl ?_)))))))));refine EL.valg rfl rfl (x_neq (r := false) rfl rfl rfl) rfl (EL.pf rfl rfl rfl (EL.nil (EX.seq (EC.no rfl (EC.skip (EX.seq (EC.seq (EC.region (EL.mv rfl rfl ?_)))))))));refine EL.val (cv_5_3 rfl (wrap_byte hcg)) rfl ?_;refine EL.val (x_rem rfl rfl (by decide) hcn) rfl ?_
  refine EL.as rfl rfl (EL.nil (EX.seq (EC.seq ?_)));have lt_1 := q1.lt;have lt_3 := q3.lt;refine EC.regionP [[], [], [1], [], [0, 1, 2, 3], [0, 1, 2, 3, 4], [0, 1, 2, 3, 4, 5], [0, 1, 2, 3, 4, 5], [0, 1, 2, 3, 4, 5], [0, 1, 2, 3, 4, 5, 6], [0, 1, 2, 3, 4, 5, 6, 7, 9], [0, 1, 2, 3, 4, 5, 6, 7, 8, 9, 10]] 12 [] (phi (fun i_ r => match i_ with | 0 => r 0 = .agg #[.slice Al ru.levels.length cl, .int .i64 ru.fade.lo, .int .i64 ru.fade.hi, .slice Aa ru.allow.length ca, .slice Ap ru.apart.length cp, .slice Ak ru.kinds.length ck] | 1 => r 1 = .slice Ax l.length cx | 3 => r 3 = .int .i64 (cn : Nat) | 4 => r 4 = .tuple #[.bool (mayT ru (afterT ru l) cn 4).1, .bool (mayT ru (afterT ru l) cn 4).2, .int .i64 0] | 5 => r 5 = .tuple #[.bool (mayT ru (afterT ru l) cn 4).1, .bool (mayT ru (afterT ru l) cn 4).2, .int .i64 0] | 6 => r 6 = .bool (mayT ru (afterT ru l) cn 4).1 | 7 => r 7 = .bool (mayT ru (afterT ru l) cn 4).2 | 8 => r 8 = .int .i64 0 | 9 => r 9 = .bool (mayT ru (afterT ru l) cn 4).1 | 10 => r 10 = .bool (mayT ru (afterT ru l) cn 4).2 | 11 => r 11 = .int .i64 0 | _ => True) [(2, fun r w_ => ∃ v, r 2 = v ∧ Rd w_ w_.heap.size 2 v l.length (evsC l))]) (by kernel_rfl) rfl rfl (phi_cons mono_ev (phi_nil)) (fun i_ hi_ => ?_) ?_
  ·match i_, hi_ with
   | 0, _ =>
    intro val w1 a hb ha hd;have ha := ha.s0 (d := 7) rfl
    exact hs_val ha rfl rfl (ld_28 rfl ((q3.below hb q3.lt).at (j := 0) rfl) ((q3.below hb q3.lt).at (j := 1) rfl) ((q3.below hb q3.lt).at (j := 2) rfl) ((q3.below hb q3.lt).at (j := 3) rfl) ((q3.below hb q3.lt).at (j := 4) rfl) ((q3.below hb q3.lt).at (j := 5) rfl)) rfl rfl
   | 1, _ =>
    intro val w1 a hb ha hd;have ha := ha.s0 (d := 8) rfl
    exact hs_val ha rfl rfl (x_move rfl) rfl rfl
   | 2, _ =>
    intro val w1 a hb ha hd;have e1 : val 1 = _ := hd 1 (memB_mem.1 rfl);have ha := ha.s1 (d := 48) rfl e1;refine hs_call ha rfl rfl (cA1 cF15 rfl) (events_any (Rd.of_own (own_below hx hb (Nat.le_refl _))) (Nat.le_refl _) (by omega)) rfl ?_
    rintro e w' ⟨⟨v2, rfl, hJ⟩, hb'⟩
    exact ⟨_, rfl, hb', ⟨v2, rfl, Rd.of_own hJ⟩⟩
   | 3, _ =>
    intro val w1 a hb ha hd;have ha := ha.s0 (d := 11) rfl
    exact hs_val ha rfl rfl (x_move rfl) rfl rfl
   | 4, _ =>
    intro val w1 a hb ha hd;have e0 : val 0 = _ := hd 0 (memB_mem.1 rfl);obtain ⟨v2_, e2, hJ2_⟩ := hd 2 (memB_mem.1 rfl);have e3 : val 3 = _ := hd 3 (memB_mem.1 rfl);have ha := ha.sub (Sub.ins (d := 50) (Sub.ins (d := 49) (Sub.ins (d := 47) (Sub.nil _) (dep_get rfl e0)) (dep_get rfl e2)) (dep_get rfl e3));refine hs_call ha rfl rfl (cA3 cF34 rfl rfl rfl) (May_to ((hR.below (hbo.trans (hb.mono hbo.size))).more (Nat.le_trans hbo.size hb.size)) (Nat.le_refl _) hs h4 hz hJ2_ (by omega) hc4) rfl ?_
    rintro e w' ⟨rfl, hb'⟩
    exact ⟨_, rfl, hb', rfl⟩
   | 5, _ =>
    intro val w1 a hb ha hd;have e4 : val 4 = _ := hd 4 (memB_mem.1 rfl);have ha := ha.s1 (d := 51) rfl e4
    exact hs_val ha rfl rfl (x_move rfl) rfl rfl
   | 6, _ =>
    intro val w1 a hb ha hd;have e5 : val 5 = _ := hd 5 (memB_mem.1 rfl);have ha := ha.s1 (d := 46) rfl e5
    exact hs_val ha rfl rfl (x_extract rfl rfl) rfl rfl
   | 7, _ =>
    intro val w1 a hb ha hd;have e5 : val 5 = _ := hd 5 (memB_mem.1 rfl);have ha := ha.s1 (d := 46) rfl e5
    exact hs_val ha rfl rfl (x_extract rfl rfl) rfl rfl
   | 8, _ =>
    intro val w1 a hb ha hd;have e5 : val 5 = _ := hd 5 (memB_mem.1 rfl);have ha := ha.s1 (d := 46) rfl e5
    exact hs_val ha rfl rfl (x_extract rfl rfl) rfl rfl
   | 9, _ =>
    intro val w1 a hb ha hd;have e6 : val 6 = _ := hd 6 (memB_mem.1 rfl);have ha := ha.s1 (d := 52) rfl e6
    exact hs_val ha rfl rfl (x_assign rfl) rfl rfl
   | 10, _ =>
    intro val w1 a hb ha hd;have e7 : val 7 = _ := hd 7 (memB_mem.1 rfl);have ha := ha.s1 (d := 53) rfl e7
    exact hs_val ha rfl rfl (x_assign rfl) rfl rfl
   | 11, _ =>
    intro val w1 a hb ha hd;have e8 : val 8 = _ := hd 8 (memB_mem.1 rfl);have ha := ha.s1 (d := 54) rfl e8
    exact hs_val ha rfl rfl (x_assign rfl) rfl rfl
   | k + 12, h => exact absurd h (by omega)
  ·intro val wR7 hb halc hd
   have e0 : val 0 = _ := hd 0 (by omega)
   have e1 : val 1 = _ := hd 1 (by omega)
   obtain ⟨v2_, e2, hJ2_⟩ := hd 2 (by omega)
   have e3 : val 3 = _ := hd 3 (by omega)
   have e4 : val 4 = _ := hd 4 (by omega)
   have e5 : val 5 = _ := hd 5 (by omega)
   have e6 : val 6 = _ := hd 6 (by omega)
   have e7 : val 7 = _ := hd 7 (by omega)
   have e8 : val 8 = _ := hd 8 (by omega)
   have e9 : val 9 = _ := hd 9 (by omega)
   have e10 : val 10 = _ := hd 10 (by omega)
   have e11 : val 11 = _ := hd 11 (by omega)
   refine EL.ends (cs := [_, _, _, _, _, _, _, _, _, _, _, _]) ⟨e0, e1, e2, e3, e4, e5, e6, e7, e8, e9, e10, e11, trivial⟩ rfl ?_;replace q1 := q1.bl hb;replace q3 := q3.bl hb;replace hx := own_below hx hb (Nat.le_refl _);replace hb8 := own_below hb8 hb (Nat.le_refl _);replace hbw := bo_ hbw hb;replace hbo := bo_ hbo hb;clear hb;clear hJ2_;refine EL.nil (EX.seq ?_);have hsub := may_sub (r := ru) (t := afterT ru l) (lh_after hro l) cn 4;refine EC.cutD [6, 55, 56, 57, 58, 59, 60, 61, 62, 63] (fun _ : Unit => []) (fun _ W => wR7 = W) ?_ ?_
   ·
    generalize (mayT ru (afterT ru l) cn 4) = mm at hsub ⊢
    obtain ⟨su, po⟩ := mm
    dsimp only at hsub
    cases su
    ·
     refine EC.seq (EC.region (EL.mv rfl rfl (EL.val (x_neq (r := false) rfl rfl rfl) rfl (EL.mv rfl rfl (EL.mg rfl rfl rfl rfl (EL.mg rfl rfl rfl rfl (EL.skip rfl rfl rfl rfl (EL.skip rfl rfl rfl rfl (EL.valg rfl rfl (x_pick_f rfl rfl) rfl ?_)))))))));refine EL.pf rfl rfl rfl (EL.nil (EX.seq (EC.no rfl (EC.skip ?_))))
     exact EX.cutE () trivial (by repeat first | with_reducible exact (Sub.refl _).del _ | refine sp_ rfl ?_ | exact (Sub.refl _).del _ | refine sd_ rfl ?_ | refine sn_ ?_) rfl
    ·
     obtain rfl := hsub rfl;refine EC.seq (EC.region (EL.mv rfl rfl (EL.val (x_neq (r := false) rfl rfl rfl) rfl (EL.mv rfl rfl (EL.mg rfl rfl rfl rfl (EL.mg rfl rfl rfl rfl (EL.mg rfl rfl rfl rfl (EL.valg rfl rfl (x_not rfl) rfl (EL.valg rfl rfl (x_pick_t rfl rfl) rfl ?_)))))))));refine EL.pf rfl rfl rfl (EL.nil (EX.seq (EC.no rfl (EC.skip ?_))))
     exact EX.cutE () trivial (by repeat first | with_reducible exact (Sub.refl _).del _ | refine sp_ rfl ?_ | exact (Sub.refl _).del _ | refine sd_ rfl ?_ | refine sn_ ?_) rfl
   ·
    rintro _ _ rfl
    refine EC.seq (EC.seq (EC.region (EL.as rfl rfl (EL.nil (EX.seq (EC.block ?_))))));have hbl := Below.refl wR7.heap.size wR7;refine EC.loopD [6, 15, 16, 17, 18, 19, 20, 21, 22, 23, 64, 65, 66, 67, 68, 69, 70, 71, 72, 73, 74, 75, 76, 77, 78, 79, 80, 81, 82, 83, 84, 85, 86, 87, 88, 89, 90, 91, 92, 93, 94, 95, 96, 97, 98, 99, 100, 101, 102, 103, 104, 105, 106, 107, 108, 109, 110, 111, 112, 113, 114, 115, 116, 117, 118, 119, 120, 121, 122, 123, 124, 125, 126, 127, 128, 129, 130, 131, 132, 133, 134, 135, 136, 137, 138, 139, 140, 141, 142, 143, 144, 145, 146, 147, 148, 149, 150, 151, 152, 153, 154, 155, 156, 157, 158, 159, 160, 161, 162, 163, 164, 165, 166, 167, 168, 169, 170, 171, 172, 173, 174, 175, 176, 177, 178, 179, 180, 181, 182, 183, 184, 185, 186, 187, 188, 189, 190, 191, 192, 193, 194, 195, 196, 197, 198, 199, 200, 201, 202, 203, 204, 205, 206, 207, 208, 209, 210, 211, 212, 213, 214, 215, 216, 217, 218, 219, 220, 221, 222, 223, 224, 225, 226, 227, 228, 229, 230, 231, 232, 233, 234, 235, 236, 237, 238, 239, 240, 241, 242, 243, 244, 245, 246, 247, 248, 249, 250, 251, 252, 253, 254, 255, 256, 257, 258, 259, 260, 261, 262, 263, 264, 265, 266, 267, 268, 269, 270, 271, 272, 273, 274, 275, 276, 277, 278, 279, 280, 281, 282, 283, 284, 285, 286, 287, 288, 289, 290, 291, 292, 293, 294, 295, 296, 297, 298, 299, 300, 301, 302] (fun x_ : Nat => [(15, .int .i64 (x_ : Nat))]) (fun x_ W => x_ ≤ 3 ∧ Below wR7.heap.size wR7 W) (fun x_ => 3 - x_) 0 ⟨Nat.zero_le _, hbl⟩ ⟨rfl, trivial⟩ ?_
    clear hbl
    rintro way wx ⟨hw3, hbl⟩
    replace q1 := q1.bl hbl;replace q3 := q3.bl hbl;replace hx := own_below hx hbl (Nat.le_refl _);replace hb8 := own_below hb8 hbl (Nat.le_refl _);replace hbw := hbw.trans (hbl.mono hbw.size);replace hbo := hbo.trans (hbl.mono hbo.size);have hbx := Below.refl wx.heap.size wx;have q1x := q1;have q3x := q3;have hxx := hx;have hb8x := hb8;have hbwx := hbw;have hbox := hbo;have hblx := hbl
    by_cases hlw : way < 3
    ·
     refine EC.seq (EC.seq (EC.region (EL.mv rfl rfl ?_)));refine EL.val (x_lss rfl rfl (decide_eq_true (show (((way : Nat) : Int) < ((3 : Nat) : Int)) by omega))) rfl ?_
     refine EL.nil (EX.seq (EC.yes rfl (EC.skip (EX.seq (EC.seq (EC.block (EC.seq (EC.region (EL.val (bd_93_) rfl ?_)))))))));refine EL.val (bd_93_0_1_2_3 rfl rfl rfl rfl) rfl (EL.newP al_93 rfl ?_);intro g6 w6 q6 hb6 hg6 hl6;have n1_6 := q1.na hg6;have n3_6 := q3.na hg6;have bhbw_6 := Nat.le_trans hbw.size hg6;have bhbo_6 := Nat.le_trans hbo.size hg6;have bhbl_6 := Nat.le_trans hbl.size hg6;have bhbx_6 := Nat.le_trans hbx.size hg6;replace q1 := q1.bl hb6;replace q3 := q3.bl hb6;replace hx := own_below hx hb6 (Nat.le_refl _);replace hb8 := own_below hb8 hb6 (Nat.le_refl _);replace hbw := bo_ hbw hb6;replace hbo := bo_ hbo hb6;replace hbl := bo_ hbl hb6;replace hbx := bo_ hbx hb6;clear hb6 hg6 hl6;refine EL.newP al_93 rfl ?_;intro g7 w7 q7 hb7 hg7 hl7;have n1_7 := q1.na hg7;have n3_7 := q3.na hg7;have n6_7 := q6.na hg7;have bhbw_7 := Nat.le_trans hbw.size hg7;have bhbo_7 := Nat.le_trans hbo.size hg7;have bhbl_7 := Nat.le_trans hbl.size hg7;have bhbx_7 := Nat.le_trans hbx.size hg7;replace q1 := q1.bl hb7;replace q3 := q3.bl hb7;replace q6 := q6.bl hb7;replace hx := own_below hx hb7 (Nat.le_refl _);replace hb8 := own_below hb8 hb7 (Nat.le_refl _);replace hbw := bo_ hbw hb7;replace hbo := bo_ hbo hb7;replace hbl := bo_ hbl hb7;replace hbx := bo_ hbx hb7;clear hb7 hg7 hl7;refine EL.store rfl rfl q6 sz_93 rfl rfl rfl rfl ?_;intro w8 hq8 hg8;replace q1 := q1.gr hg8 n1_6;replace q3 := q3.gr hg8 n3_6;replace q7 := q7.gr hg8 n6_7.symm;replace hx := own_type hx q6 rfl hg8;replace hb8 := own_type hb8 q6 rfl hg8;replace hbw := below_store hbw hg8 bhbw_6;replace hbo := below_store hbo hg8 bhbo_6;replace hbl := below_store hbl hg8 bhbl_6;replace hbx := below_store hbx hg8 bhbx_6;replace q6 := hq8;clear hg8 hq8;refine EL.store rfl rfl q7 sz_93 rfl rfl rfl rfl ?_;intro w9 hq9 hg9;replace q1 := q1.gr hg9 n1_7;replace q3 := q3.gr hg9 n3_7;replace q6 := q6.gr hg9 n6_7;replace hx := own_type hx q7 rfl hg9;replace hb8 := own_type hb8 q7 rfl hg9;replace hbw := below_store hbw hg9 bhbw_7;replace hbo := below_store hbo hg9 bhbo_7;replace hbl := below_store hbl hg9 bhbl_7;replace hbx := below_store hbx hg9 bhbx_7;replace q7 := hq9;clear hg9 hq9;refine EL.nil (EX.seq (EC.seq (EC.seq (EC.region (EL.as rfl rfl (EL.nil (EX.seq (EC.block ?_))))))));refine EC.loopD [18, 19, 20, 21, 70, 71, 72, 73, 74, 75, 76, 77, 78, 79, 80, 81, 82, 83, 84, 85, 86, 87, 88, 89, 90, 91, 92, 93, 94, 95, 96, 97, 98, 99, 100, 101, 102, 103, 104, 105, 106, 107, 108, 109, 110, 111, 112, 113, 114, 115, 116, 117, 118, 119, 120, 121, 122, 123, 124, 125, 126, 127, 128, 129, 130, 131, 132, 133, 134, 135, 136, 137, 138, 139, 140, 141, 142, 143, 144, 145, 146, 147, 148, 149, 150, 151, 152, 153, 154, 155, 156, 157, 158, 159, 160, 161, 162, 163, 164, 165, 166, 167, 168, 169, 170, 171, 172, 173, 174, 175, 176, 177, 178, 179, 180, 181, 182, 183] (fun x_ : Nat × List Int × List Int => [(18, .int .i64 (x_.1 : Nat))]) (fun x_ W => x_.1 ≤ l.length ∧ TruthAt x_.1 way (afterT ru (l.take x_.1)) x_.2.1 x_.2.2 ∧ Blk W g6 93 (ints x_.2.1).toArray ∧ Blk W g7 93 (ints x_.2.2).toArray ∧ Below wx.heap.size wx W) (fun x_ => l.length - x_.1) (0, [0, 0, 0, 0], [-1, -1, -1, -1]) ⟨Nat.zero_le _, truth_start way, q6, q7, hbx⟩ ⟨rfl, trivial⟩ ?_
     clear q6 q7 hbx q1 q3 hx hb8 hbw hbo hbl
     rintro ⟨i, tr, af⟩ wy ⟨hi, hT, q6, q7, hbx⟩
     dsimp only at hi hT q6 q7
     have q1 := q1x.below hbx q1x.lt;have q3 := q3x.below hbx q3x.lt;have hx := own_below hxx hbx (Nat.le_refl _);have hb8 := own_below hb8x hbx (Nat.le_refl _);have hbw := hbwx.trans (hbx.mono hbwx.size);have hbo := hbox.trans (hbx.mono hbox.size);have hbl := hblx.trans (hbx.mono hblx.size)
     by_cases hlt : i < l.length
     ·
      refine EC.seq (EC.seq (EC.region (EL.mv rfl rfl (EL.mv rfl rfl (EL.val (ln_29 rfl) rfl ?_)))));refine EL.val (x_lss rfl rfl (decide_eq_true (show (((i : Nat) : Int) < ((l.length : Nat) : Int)) by omega))) rfl ?_
      refine EL.nil (EX.seq (EC.yes rfl (EC.skip (EX.seq (EC.seq (EC.block (EC.seq (EC.region (EL.val (fa_28_1 rfl) rfl ?_)))))))));refine EL.val (ld_24 rfl (q3.at (j := 1) rfl) (q3.at (j := 2) rfl)) rfl (EL.newP al_24 rfl ?_);intro g10 w10 q10 hb10 hg10 hl10;have n1_10 := q1.na hg10;have n3_10 := q3.na hg10;have n6_10 := q6.na hg10;have n7_10 := q7.na hg10;have bhbw_10 := Nat.le_trans hbw.size hg10;have bhbo_10 := Nat.le_trans hbo.size hg10;have bhbl_10 := Nat.le_trans hbl.size hg10;have bhbx_10 := Nat.le_trans hbx.size hg10;replace q1 := q1.bl hb10;replace q3 := q3.bl hb10;replace q6 := q6.bl hb10;replace q7 := q7.bl hb10;replace hx := own_below hx hb10 (Nat.le_refl _);replace hbw := bo_ hbw hb10;replace hbo := bo_ hbo hb10;replace hbl := bo_ hbl hb10;replace hbx := bo_ hbx hb10;clear hb10 hg10 hl10;refine EL.store rfl rfl q10 sz_24 rfl rfl rfl rfl ?_;intro w11 hq11 hg11;replace q1 := q1.gr hg11 n1_10;replace q3 := q3.gr hg11 n3_10;replace q6 := q6.gr hg11 n6_10;replace q7 := q7.gr hg11 n7_10;replace hx := own_type hx q10 rfl hg11;replace hbw := below_store hbw hg11 bhbw_10;replace hbo := below_store hbo hg11 bhbo_10;replace hbl := below_store hbl hg11 bhbl_10;replace hbx := below_store hbx hg11 bhbx_10;replace q10 := hq11;clear hg11 hq11;refine EL.nil (EX.seq ?_);refine EC.cutD [78, 79, 80, 81, 82, 83, 84, 85, 86, 87, 88, 89, 90, 91, 92, 93] (fun _ : Unit => []) (fun _ W => Blk W g6 93 (ints tr).toArray ∧ Blk W g7 93 (ints af).toArray ∧ Blk W g10 24 #[.int .i64 (byOf ru (l.getD i ev0)).lo, .int .i64 (byOf ru (l.getD i ev0)).hi] ∧ Below wx.heap.size wx W) ?_ ?_
      ·
       obtain ⟨bx, ox, ebx, _, y0, y1⟩ := evs_cells l i hlt _ _ _ _ _ (Rd.of_own hx);refine EC.seq (EC.region (EL.mv rfl rfl (EL.mv rfl rfl ?_)));refine EL.val (ix_29 (by show some (Value.slice Ax _ _) = _; rw [ebx]) rfl hlt) rfl ?_
       refine EL.val (fa_50_0 rfl) rfl (EL.val (ld_48 rfl y0) rfl ?_)
       rcases ev_at hlv hlt with ⟨hk2, k, ek, hk⟩ | ⟨hk1, k, ek, hk⟩
       ·
        have hby : byOf ru (l.getD i ev0) = (ru.kinds.getD k kd0).power := by unfold byOf; rw [if_pos hk2, ek, Int.toNat_natCast]
        refine EL.val (x_eql (r := true) rfl rfl (decide_eq_true hk2)) rfl (EL.nil (EX.seq (EC.yes rfl ?_)));obtain ⟨bk, ok, eAk, _, hkd⟩ := kds_cells ru.kinds k hk w11 _ _ _ _ (hR.below hbo).kinds;rw [ek] at y1;have lt_1 := q1.lt;have lt_3 := q3.lt;have lt_6 := q6.lt;have lt_7 := q7.lt;have lt_10 := q10.lt;refine EC.regionP [[], [0], [], [], [2, 3], [2, 3, 4], [2, 3, 4, 5], [0, 1, 2, 3, 4, 5, 6], [0, 1, 2, 3, 4, 5, 6, 7], [0, 1, 2, 3, 4, 5, 6, 7, 8], [0, 1, 2, 3, 4, 5, 6, 7, 8, 9]] 10 [] (phi (fun i_ r => match i_ with | 0 => r 0 = .pointer (some ⟨g3, 5, none⟩) | 1 => r 1 = .slice Ak ru.kinds.length ck | 2 => r 2 = .slice Ax l.length cx | 3 => r 3 = .int .i64 (i : Nat) | 4 => r 4 = .pointer (some ⟨bx, ox + i * 2, none⟩) | 5 => r 5 = .pointer (some ⟨bx, ox + i * 2 + 1, none⟩) | 6 => r 6 = .int .i64 (k : Nat) | 7 => r 7 = .pointer (some ⟨bk, ok + k * 5, none⟩) | 8 => r 8 = .pointer (some ⟨bk, ok + k * 5, none⟩) | 9 => r 9 = .agg #[.int .i64 (ru.kinds.getD k kd0).power.lo, .int .i64 (ru.kinds.getD k kd0).power.hi] | _ => True) []) (by kernel_rfl) rfl rfl (phi_nil) (fun i_ hi_ => ?_) ?_
        ·match i_, hi_ with
         | 0, _ =>
          intro val w1 a hb ha hd;have ha := ha.s0 (d := 7) rfl
          exact hs_val ha rfl rfl (fa_28_4 rfl) rfl rfl
         | 1, _ =>
          intro val w1 a hb ha hd;have e0 : val 0 = _ := hd 0 (memB_mem.1 rfl);have ha := ha.s1 (d := 84) rfl e0
          exact hs_val ha rfl rfl (ld_26 rfl ((q3.below hb q3.lt).at (j := 5) rfl)) rfl rfl
         | 2, _ =>
          intro val w1 a hb ha hd;have ha := ha.s0 (d := 8) rfl
          exact hs_val ha rfl rfl (x_move rfl) rfl rfl
         | 3, _ =>
          intro val w1 a hb ha hd;have ha := ha.s0 (d := 18) rfl
          exact hs_val ha rfl rfl (x_move rfl) rfl rfl
         | 4, _ =>
          intro val w1 a hb ha hd;have e2 : val 2 = _ := hd 2 (memB_mem.1 rfl);have e3 : val 3 = _ := hd 3 (memB_mem.1 rfl);have ha := ha.s2 (d := 87) (e := 86) rfl e3 rfl e2
          exact hs_val ha rfl rfl (ix_29 (by show some (Value.slice Ax _ _) = _; rw [ebx]) rfl hlt) rfl rfl
         | 5, _ =>
          intro val w1 a hb ha hd;have e4 : val 4 = _ := hd 4 (memB_mem.1 rfl);have ha := ha.s1 (d := 88) rfl e4
          exact hs_val ha rfl rfl (fa_50_1 rfl) rfl rfl
         | 6, _ =>
          intro val w1 a hb ha hd;have e5 : val 5 = _ := hd 5 (memB_mem.1 rfl);have ha := ha.s1 (d := 89) rfl e5
          exact hs_val ha rfl rfl (ld_3 rfl (below_load hb y1)) rfl rfl
         | 7, _ =>
          intro val w1 a hb ha hd;have e1 : val 1 = _ := hd 1 (memB_mem.1 rfl);have e6 : val 6 = _ := hd 6 (memB_mem.1 rfl);have ha := ha.s2 (d := 90) (e := 85) rfl e6 rfl e1
          exact hs_val ha rfl rfl (ix_26 (by show some (Value.slice Ak _ _) = _; rw [eAk]) rfl hk) rfl rfl
         | 8, _ =>
          intro val w1 a hb ha hd;have e7 : val 7 = _ := hd 7 (memB_mem.1 rfl);have ha := ha.s1 (d := 91) rfl e7
          exact hs_val ha rfl rfl (fa_52_0 rfl) rfl rfl
         | 9, _ =>
          intro val w1 a hb ha hd;have e8 : val 8 = _ := hd 8 (memB_mem.1 rfl);have ha := ha.s1 (d := 92) rfl e8
          exact hs_val ha rfl rfl (ld_24 rfl (below_load hb hkd.c0) (below_load hb hkd.c1)) rfl rfl
         | k + 10, h => exact absurd h (by omega)
        ·intro val wR19 hb halc hd
         have e0 : val 0 = _ := hd 0 (by omega)
         have e1 : val 1 = _ := hd 1 (by omega)
         have e2 : val 2 = _ := hd 2 (by omega)
         have e3 : val 3 = _ := hd 3 (by omega)
         have e4 : val 4 = _ := hd 4 (by omega)
         have e5 : val 5 = _ := hd 5 (by omega)
         have e6 : val 6 = _ := hd 6 (by omega)
         have e7 : val 7 = _ := hd 7 (by omega)
         have e8 : val 8 = _ := hd 8 (by omega)
         have e9 : val 9 = _ := hd 9 (by omega)
         refine EL.ends (cs := [_, _, _, _, _, _, _, _, _, _]) ⟨e0, e1, e2, e3, e4, e5, e6, e7, e8, e9, trivial⟩ rfl ?_;replace q1 := q1.bl hb;replace q3 := q3.bl hb;replace q6 := q6.bl hb;replace q7 := q7.bl hb;replace q10 := q10.bl hb;replace hx := own_below hx hb (Nat.le_refl _);replace hbw := bo_ hbw hb;replace hbo := bo_ hbo hb;replace hbl := bo_ hbl hb;replace hbx := bo_ hbx hb;clear hb;refine EL.store rfl rfl q10 sz_24 rfl rfl rfl rfl ?_;intro w12 hq12 hg12;replace q1 := q1.gr hg12 n1_10;replace q3 := q3.gr hg12 n3_10;replace q6 := q6.gr hg12 n6_10;replace q7 := q7.gr hg12 n7_10;replace hx := own_type hx q10 rfl hg12;replace hbw := below_store hbw hg12 bhbw_10;replace hbo := below_store hbo hg12 bhbo_10;replace hbl := below_store hbl hg12 bhbl_10;replace hbx := below_store hbx hg12 bhbx_10;replace q10 := hq12;clear hg12 hq12;refine EL.nil ?_
         exact EX.cutE () trivial (by repeat first | with_reducible exact (Sub.refl _).del _ | refine sp_ rfl ?_ | exact (Sub.refl _).del _ | refine sd_ rfl ?_ | refine sn_ ?_) ⟨q6, q7, (by rw [hby]; exact q10), hbx⟩
       ·
        have hby : byOf ru (l.getD i ev0) = ru.fade := by unfold byOf; rw [if_neg (by rw [hk1]; decide)]
        refine EL.val (x_eql (r := false) rfl rfl (decide_eq_false (by rw [hk1]; decide))) rfl ?_
        refine EL.nil (EX.seq (EC.no rfl (EC.skip ?_)))
        exact EX.cutE () trivial (by repeat first | with_reducible exact (Sub.refl _).del _ | refine sp_ rfl ?_ | exact (Sub.refl _).del _ | refine sd_ rfl ?_ | refine sn_ ?_) ⟨q6, q7, (by rw [hby]; exact q10), hbx⟩
      ·
       clear q6 q7 q10 hbx q1 q3 hx hb8 hbw hbo hbl
       rintro _ W18 ⟨q6, q7, q10, hbx⟩
       have q1 := q1x.below hbx q1x.lt;have q3 := q3x.below hbx q3x.lt;have hx := own_below hxx hbx (Nat.le_refl _);have hb8 := own_below hb8x hbx (Nat.le_refl _);have hbw := hbwx.trans (hbx.mono hbwx.size);have hbo := hbox.trans (hbx.mono hbox.size);have hbl := hblx.trans (hbx.mono hblx.size);refine EC.seq (EC.region (EL.val (fa_24_0 rfl) rfl (EL.val (ld_3 rfl (q10.at (j := 0) rfl)) rfl (EL.val (fa_24_1 rfl) rfl (EL.val (ld_3 rfl (q10.at (j := 1) rfl)) rfl (EL.val (fa_24_0 rfl) rfl (EL.val (ld_3 rfl (q10.at (j := 0) rfl)) rfl (EL.val (bd_94_0_1_2 rfl rfl rfl) rfl (EL.mv rfl rfl ?_)))))))));refine EL.val (x_idx3 rfl rfl hlw) rfl (EL.as rfl rfl (EL.nil (EX.seq ?_)));have hbd : 0 ≤ (byOf ru (l.getD i ev0)).lo ∧ (byOf ru (l.getD i ev0)).lo ≤ (byOf ru (l.getD i ev0)).hi ∧ (byOf ru (l.getD i ev0)).hi ≤ 1000000 := by_ok hro _;refine EC.cutD [20, 103, 104, 105, 106, 107, 108, 109, 110, 111, 112, 113, 114, 115, 116, 117, 118, 119, 120, 121, 122, 123, 124, 125, 126, 127] (fun n : Int => [(20, .int .i64 n)]) (fun n W => ((byOf ru (l.getD i ev0)).lo ≤ n ∧ n ≤ (byOf ru (l.getD i ev0)).hi ∧ (way = 0 → n = (byOf ru (l.getD i ev0)).lo) ∧ (way = 1 → n = (byOf ru (l.getD i ev0)).hi)) ∧ Blk W g6 93 (ints tr).toArray ∧ Blk W g7 93 (ints af).toArray ∧ Below wx.heap.size wx W) ?_ ?_
       ·
        refine EC.seq (EC.region (EL.mv rfl rfl ?_))
        by_cases hw2 : way = 2
        ·
         refine EL.val (x_eql (r := true) rfl rfl (decide_eq_true (by omega))) rfl ?_
         refine EL.mv rfl rfl (EL.mg rfl rfl rfl rfl (EL.valg rfl rfl (ln_79 rfl) rfl ?_))
         by_cases hpk : 0 < pk.length
         ·
          refine EL.valg rfl rfl (x_gtr (r := true) rfl rfl (decide_eq_true (by omega))) rfl ?_
          refine EL.pt rfl rfl rfl (EL.nil (EX.seq (EC.yes rfl ?_)));have hml := Nat.mod_lt i hpk;obtain ⟨bp, op, ebp, _, p0⟩ := u8s_cells pk _ hml W18 B _ _ _ (hpr.below (hbw.mono hB));have hpy := hpb _ hml;have htm := byte_rem hpy (m := (byOf ru (l.getD i ev0)).hi - (byOf ru (l.getD i ev0)).lo + 1) (by omega)
          have lt_1 := q1.lt;have lt_3 := q3.lt;have lt_6 := q6.lt;have lt_7 := q7.lt;have lt_10 := q10.lt;refine EC.regionP [[], [0], [], [], [], [4], [3, 4, 5], [2, 3, 4, 5, 6], [2, 3, 4, 5, 6, 7], [2, 3, 4, 5, 6, 7, 8], [], [10], [], [12], [10, 11, 12, 13], [10, 11, 12, 13, 14], [2, 3, 4, 5, 6, 7, 8, 9, 10, 11, 12, 13, 14, 15], [0, 1, 2, 3, 4, 5, 6, 7, 8, 9, 10, 11, 12, 13, 14, 15, 16], [0, 1, 2, 3, 4, 5, 6, 7, 8, 9, 10, 11, 12, 13, 14, 15, 16, 17]] 19 [] (phi (fun i_ r => match i_ with | 0 => r 0 = .pointer (some ⟨g10, 0, none⟩) | 1 => r 1 = .int .i64 (byOf ru (l.getD i ev0)).lo | 2 => r 2 = .slice Apk pk.length cpk | 3 => r 3 = .int .i64 (i : Nat) | 4 => r 4 = .slice Apk pk.length cpk | 5 => r 5 = .int .i64 (pk.length : Nat) | 6 => r 6 = .int .i64 ((i % pk.length) : Nat) | 7 => r 7 = .pointer (some ⟨bp, op + i % pk.length, none⟩) | 8 => r 8 = .int .u8 (pk.getD (i % pk.length) 0) | 9 => r 9 = .int .i64 (pk.getD (i % pk.length) 0) | 10 => r 10 = .pointer (some ⟨g10, 1, none⟩) | 11 => r 11 = .int .i64 (byOf ru (l.getD i ev0)).hi | 12 => r 12 = .pointer (some ⟨g10, 0, none⟩) | 13 => r 13 = .int .i64 (byOf ru (l.getD i ev0)).lo | 14 => r 14 = .int .i64 ((byOf ru (l.getD i ev0)).hi - (byOf ru (l.getD i ev0)).lo) | 15 => r 15 = .int .i64 ((byOf ru (l.getD i ev0)).hi - (byOf ru (l.getD i ev0)).lo + 1) | 16 => r 16 = .int .i64 ((pk.getD (i % pk.length) 0).tmod ((byOf ru (l.getD i ev0)).hi - (byOf ru (l.getD i ev0)).lo + 1)) | 17 => r 17 = .int .i64 ((byOf ru (l.getD i ev0)).lo + ((pk.getD (i % pk.length) 0).tmod ((byOf ru (l.getD i ev0)).hi - (byOf ru (l.getD i ev0)).lo + 1))) | 18 => r 18 = .int .i64 ((byOf ru (l.getD i ev0)).lo + ((pk.getD (i % pk.length) 0).tmod ((byOf ru (l.getD i ev0)).hi - (byOf ru (l.getD i ev0)).lo + 1))) | _ => True) []) (by kernel_rfl) rfl rfl (phi_nil) (fun i_ hi_ => ?_) ?_
          ·match i_, hi_ with
           | 0, _ =>
            intro val w1 a hb ha hd;have ha := ha.s0 (d := 19) rfl
            exact hs_val ha rfl rfl (fa_24_0 rfl) rfl rfl
           | 1, _ =>
            intro val w1 a hb ha hd;have e0 : val 0 = _ := hd 0 (memB_mem.1 rfl);have ha := ha.s1 (d := 110) rfl e0
            exact hs_val ha rfl rfl (ld_3 rfl ((q10.below hb q10.lt).at (j := 0) rfl)) rfl rfl
           | 2, _ =>
            intro val w1 a hb ha hd;have ha := ha.s0 (d := 1) rfl
            exact hs_val ha rfl rfl (x_move rfl) rfl rfl
           | 3, _ =>
            intro val w1 a hb ha hd;have ha := ha.s0 (d := 18) rfl
            exact hs_val ha rfl rfl (x_move rfl) rfl rfl
           | 4, _ =>
            intro val w1 a hb ha hd;have ha := ha.s0 (d := 1) rfl
            exact hs_val ha rfl rfl (x_move rfl) rfl rfl
           | 5, _ =>
            intro val w1 a hb ha hd;have e4 : val 4 = _ := hd 4 (memB_mem.1 rfl);have ha := ha.s1 (d := 114) rfl e4
            exact hs_val ha rfl rfl (ln_79 rfl) rfl rfl
           | 6, _ =>
            intro val w1 a hb ha hd;have e3 : val 3 = _ := hd 3 (memB_mem.1 rfl);have e5 : val 5 = _ := hd 5 (memB_mem.1 rfl);have ha := ha.s2 (d := 115) (e := 113) rfl e5 rfl e3
            exact hs_val ha rfl rfl (x_rem rfl rfl (by omega) (Int.ofNat_tmod i pk.length).symm) rfl rfl
           | 7, _ =>
            intro val w1 a hb ha hd;have e2 : val 2 = _ := hd 2 (memB_mem.1 rfl);have e6 : val 6 = _ := hd 6 (memB_mem.1 rfl);have ha := ha.s2 (d := 116) (e := 112) rfl e6 rfl e2
            exact hs_val ha rfl rfl (ix_79 (by show some (Value.slice Apk _ _) = _; rw [ebp]) rfl hml) rfl rfl
           | 8, _ =>
            intro val w1 a hb ha hd;have e7 : val 7 = _ := hd 7 (memB_mem.1 rfl);have ha := ha.s1 (d := 117) rfl e7
            exact hs_val ha rfl rfl (ld_5 rfl (below_load hb p0)) rfl rfl
           | 9, _ =>
            intro val w1 a hb ha hd;have e8 : val 8 = _ := hd 8 (memB_mem.1 rfl);have ha := ha.s1 (d := 118) rfl e8
            exact hs_val ha rfl rfl (cv_5_3 rfl (wrap_byte hpy)) rfl rfl
           | 10, _ =>
            intro val w1 a hb ha hd;have ha := ha.s0 (d := 19) rfl
            exact hs_val ha rfl rfl (fa_24_1 rfl) rfl rfl
           | 11, _ =>
            intro val w1 a hb ha hd;have e10 : val 10 = _ := hd 10 (memB_mem.1 rfl);have ha := ha.s1 (d := 120) rfl e10
            exact hs_val ha rfl rfl (ld_3 rfl ((q10.below hb q10.lt).at (j := 1) rfl)) rfl rfl
           | 12, _ =>
            intro val w1 a hb ha hd;have ha := ha.s0 (d := 19) rfl
            exact hs_val ha rfl rfl (fa_24_0 rfl) rfl rfl
           | 13, _ =>
            intro val w1 a hb ha hd;have e12 : val 12 = _ := hd 12 (memB_mem.1 rfl);have ha := ha.s1 (d := 122) rfl e12
            exact hs_val ha rfl rfl (ld_3 rfl ((q10.below hb q10.lt).at (j := 0) rfl)) rfl rfl
           | 14, _ =>
            intro val w1 a hb ha hd;have e11 : val 11 = _ := hd 11 (memB_mem.1 rfl);have e13 : val 13 = _ := hd 13 (memB_mem.1 rfl);have ha := ha.s2 (d := 123) (e := 121) rfl e13 rfl e11
            exact hs_val ha rfl rfl (x_sub rfl rfl (IntWalk.i64_in _ ⟨by omega, by omega⟩)) rfl rfl
           | 15, _ =>
            intro val w1 a hb ha hd;have e14 : val 14 = _ := hd 14 (memB_mem.1 rfl);have ha := ha.s1 (d := 124) rfl e14
            exact hs_val ha rfl rfl (x_add rfl rfl (IntWalk.i64_in _ ⟨by omega, by omega⟩)) rfl rfl
           | 16, _ =>
            intro val w1 a hb ha hd;have e9 : val 9 = _ := hd 9 (memB_mem.1 rfl);have e15 : val 15 = _ := hd 15 (memB_mem.1 rfl);have ha := ha.s2 (d := 125) (e := 119) rfl e15 rfl e9
            exact hs_val ha rfl rfl (x_rem rfl rfl (by omega) rfl) rfl rfl
           | 17, _ =>
            intro val w1 a hb ha hd;have e1 : val 1 = _ := hd 1 (memB_mem.1 rfl);have e16 : val 16 = _ := hd 16 (memB_mem.1 rfl);have ha := ha.s2 (d := 126) (e := 111) rfl e16 rfl e1
            exact hs_val ha rfl rfl (x_add rfl rfl (IntWalk.i64_in _ ⟨by omega, by omega⟩)) rfl rfl
           | 18, _ =>
            intro val w1 a hb ha hd;have e17 : val 17 = _ := hd 17 (memB_mem.1 rfl);have ha := ha.s1 (d := 127) rfl e17
            exact hs_val ha rfl rfl (x_assign rfl) rfl rfl
           | k + 19, h => exact absurd h (by omega)
          ·intro val wR22 hb halc hd
           have e0 : val 0 = _ := hd 0 (by omega)
           have e1 : val 1 = _ := hd 1 (by omega)
           have e2 : val 2 = _ := hd 2 (by omega)
           have e3 : val 3 = _ := hd 3 (by omega)
           have e4 : val 4 = _ := hd 4 (by omega)
           have e5 : val 5 = _ := hd 5 (by omega)
           have e6 : val 6 = _ := hd 6 (by omega)
           have e7 : val 7 = _ := hd 7 (by omega)
           have e8 : val 8 = _ := hd 8 (by omega)
           have e9 : val 9 = _ := hd 9 (by omega)
           have e10 : val 10 = _ := hd 10 (by omega)
           have e11 : val 11 = _ := hd 11 (by omega)
           have e12 : val 12 = _ := hd 12 (by omega)
           have e13 : val 13 = _ := hd 13 (by omega)
           have e14 : val 14 = _ := hd 14 (by omega)
           have e15 : val 15 = _ := hd 15 (by omega)
           have e16 : val 16 = _ := hd 16 (by omega)
           have e17 : val 17 = _ := hd 17 (by omega)
           have e18 : val 18 = _ := hd 18 (by omega)
           refine EL.ends (cs := [_, _, _, _, _, _, _, _, _, _, _, _, _, _, _, _, _, _, _]) ⟨e0, e1, e2, e3, e4, e5, e6, e7, e8, e9, e10, e11, e12, e13, e14, e15, e16, e17, e18, trivial⟩ rfl ?_;replace q1 := q1.bl hb;replace q3 := q3.bl hb;replace q6 := q6.bl hb;replace q7 := q7.bl hb;replace q10 := q10.bl hb;replace hx := own_below hx hb (Nat.le_refl _);replace hbw := bo_ hbw hb;replace hbo := bo_ hbo hb;replace hbl := bo_ hbl hb;replace hbx := bo_ hbx hb;clear hb;refine EL.nil ?_
           exact EX.cutE ((byOf ru (l.getD i ev0)).lo + ((pk.getD (i % pk.length) 0).tmod ((byOf ru (l.getD i ev0)).hi - (byOf ru (l.getD i ev0)).lo + 1))) ⟨rfl, trivial⟩ (by repeat first | with_reducible exact (Sub.refl _).del _ | refine sp_ rfl ?_ | exact (Sub.refl _).del _ | refine sd_ rfl ?_ | refine sn_ ?_) ⟨⟨by omega, by omega, fun h => by omega, fun h => by omega⟩, q6, q7, hbx⟩
         ·
          refine EL.valg rfl rfl (x_gtr (r := false) rfl rfl (decide_eq_false (by omega))) rfl ?_
          refine EL.pt rfl rfl rfl (EL.nil (EX.seq (EC.no rfl (EC.skip ?_))))
          exact EX.cutE ([(byOf ru (l.getD i ev0)).lo, (byOf ru (l.getD i ev0)).hi, (byOf ru (l.getD i ev0)).lo].getD way 0) ⟨rfl, trivial⟩ (by repeat first | with_reducible exact (Sub.refl _).del _ | refine sp_ rfl ?_ | exact (Sub.refl _).del _ | refine sd_ rfl ?_ | refine sn_ ?_) ⟨nw_ok hbd.2.1 hlw, q6, q7, hbx⟩
        ·
         refine EL.val (x_eql (r := false) rfl rfl (decide_eq_false (by omega))) rfl ?_
         refine EL.mv rfl rfl (EL.skip rfl rfl rfl rfl (EL.skip rfl rfl rfl rfl (EL.skip rfl rfl rfl rfl (EL.pf rfl rfl rfl (EL.nil (EX.seq (EC.no rfl (EC.skip ?_))))))))
         exact EX.cutE ([(byOf ru (l.getD i ev0)).lo, (byOf ru (l.getD i ev0)).hi, (byOf ru (l.getD i ev0)).lo].getD way 0) ⟨rfl, trivial⟩ (by repeat first | with_reducible exact (Sub.refl _).del _ | refine sp_ rfl ?_ | exact (Sub.refl _).del _ | refine sd_ rfl ?_ | refine sn_ ?_) ⟨nw_ok hbd.2.1 hlw, q6, q7, hbx⟩
       ·
        clear q6 q7 q10 hbx q1 q3 hx hb8 hbw hbo hbl
        rintro n W21 ⟨hn, q6, q7, hbx⟩
        have q1 := q1x.below hbx q1x.lt;have q3 := q3x.below hbx q3x.lt;have hx := own_below hxx hbx (Nat.le_refl _);have hb8 := own_below hb8x hbx (Nat.le_refl _);have hbw := hbwx.trans (hbx.mono hbwx.size);have hbo := hbox.trans (hbx.mono hbox.size);have hbl := hblx.trans (hbx.mono hblx.size);refine EC.seq (EC.seq (EC.region (EL.as rfl rfl (EL.nil (EX.seq (EC.block ?_))))));refine EC.loopD [21, 128, 129, 130, 131, 132, 133, 134, 135, 136, 137, 138, 139, 140, 141, 142, 143, 144, 145, 146, 147, 148, 149, 150, 151, 152, 153, 154, 155, 156] (fun x_ : Nat × List Int × List Int => [(21, .int .i64 (x_.1 : Nat))]) (fun x_ W => x_.1 ≤ 4 ∧ (x_.2.1.length = 4 ∧ x_.2.2.length = 4) ∧ (∀ j, j < 4 → x_.2.1.getD j 0 = if j < x_.1 then max 0 (tr.getD j 0 - n) else tr.getD j 0) ∧ (∀ j, j < 4 → x_.2.2.getD j 0 = if j < x_.1 then (if (l.getD i ev0).kind = 1 ∧ 0 ≤ af.getD j 0 then af.getD j 0 + 1 else af.getD j 0) else af.getD j 0) ∧ Blk W g6 93 (ints x_.2.1).toArray ∧ Blk W g7 93 (ints x_.2.2).toArray ∧ Below wx.heap.size wx W) (fun x_ => 4 - x_.1) (0, tr, af) ⟨Nat.zero_le _, ⟨hT.lt, hT.la⟩, (fun j _ => by rw [if_neg (by omega)]), (fun j _ => by rw [if_neg (by omega)]), q6, q7, hbx⟩ ⟨rfl, trivial⟩ ?_
        clear q6 q7 hbx q1 q3 hx hb8 hbw hbo hbl
        rintro ⟨k, t1, a1⟩ wz ⟨hk, ⟨hl1, hl2⟩, ht1, ha1, q6, q7, hbx⟩
        dsimp only at hk hl1 hl2 ht1 ha1 q6 q7
        have q1 := q1x.below hbx q1x.lt;have q3 := q3x.below hbx q3x.lt;have hx := own_below hxx hbx (Nat.le_refl _);have hb8 := own_below hb8x hbx (Nat.le_refl _);have hbw := hbwx.trans (hbx.mono hbwx.size);have hbo := hbox.trans (hbx.mono hbox.size);have hbl := hblx.trans (hbx.mono hblx.size)
        by_cases hlk : k < 4
        ·
         have e0 := ht1 k hlk;rw [if_neg (Nat.lt_irrefl k)] at e0;have f0 := ha1 k hlk;rw [if_neg (Nat.lt_irrefl k)] at f0;have hok_ := (afterT_ok hro (l.take i)).at_ k;have b1 := hT.lo k hlk;have b2 := hT.hi k hlk;have b3 := hT.ab k hlk;obtain ⟨o1_, o2_, o3_, o4_, _, _⟩ := hok_;refine EC.seq (EC.seq (EC.region (EL.mv rfl rfl ?_)));refine EL.val (x_lss rfl rfl (decide_eq_true (show (((k : Nat) : Int) < ((4 : Nat) : Int)) by omega))) rfl ?_
         refine EL.nil (EX.seq (EC.yes rfl (EC.skip (EX.seq (EC.seq (EC.block (EC.seq (EC.region (EL.mv rfl rfl ?_)))))))));refine EL.mv rfl rfl (EL.val (ixa_93 rfl rfl hlk) rfl (EL.val (ld_3 rfl (q6.cellA (ints_at hl1 hlk))) rfl (EL.mv rfl rfl ?_)));refine EL.val (x_sub rfl rfl (IntWalk.i64_in _ ⟨by rw [e0]; omega, by rw [e0]; omega⟩)) rfl ?_
         refine EL.val (mm_max rfl rfl rfl) rfl (EL.val (ixa_93 rfl rfl hlk) rfl ?_);refine EL.store (l' := [.int .i64 (max 0 (t1.getD k 0 - n))]) rfl rfl q6 sz_3 rfl rfl (by rw [lenV_eq, Nat.ble_eq, ints_len, hl1]; omega) rfl ?_
         intro w13 hq13 hg13;rw [spl_ints hl1 hlk] at hq13;replace q1 := q1.gr hg13 n1_6;replace q3 := q3.gr hg13 n3_6;replace q7 := q7.gr hg13 n6_7.symm;replace hx := own_type hx q6 rfl hg13;replace hbw := below_store hbw hg13 bhbw_6;replace hbo := below_store hbo hg13 bhbo_6;replace hbl := below_store hbl hg13 bhbl_6;replace hbx := below_store hbx hg13 bhbx_6;replace q6 := hq13;clear hg13 hq13;refine EL.nil (EX.seq (EC.seq (EC.region ?_)));obtain ⟨bx, ox, ebx, _, y0, _⟩ := evs_cells l i hlt _ _ _ _ _ (Rd.of_own hx);refine EL.mv rfl rfl (EL.mv rfl rfl ?_);refine EL.val (ix_29 (by show some (Value.slice Ax _ _) = _; rw [ebx]) rfl hlt) rfl ?_
         refine EL.val (fa_50_0 rfl) rfl (EL.val (ld_48 rfl y0) rfl ?_)
         by_cases hk1 : (l.getD i ev0).kind = 1
         ·
          refine EL.val (x_eql (r := true) rfl rfl (decide_eq_true hk1)) rfl (EL.mv rfl rfl (EL.mg rfl rfl rfl rfl (EL.valg rfl rfl (ixa_93 rfl rfl hlk) rfl (EL.valg rfl rfl (ld_3 rfl (q7.cellA (ints_at hl2 hlk))) rfl ?_))))
          by_cases h0 : 0 ≤ a1.getD k 0
          ·
           refine EL.valg rfl rfl (x_geq (r := true) rfl rfl (decide_eq_true h0)) rfl (EL.pt rfl rfl rfl (EL.nil (EX.seq (EC.yes rfl (EC.region (EL.mv rfl rfl (EL.val (ixa_93 rfl rfl hlk) rfl (EL.val (ld_3 rfl (q7.cellA (ints_at hl2 hlk))) rfl ?_))))))));refine EL.val (x_add rfl rfl (IntWalk.i64_in _ ⟨by rw [f0]; omega, by rw [f0]; omega⟩)) rfl ?_
           refine EL.val (ixa_93 rfl rfl hlk) rfl ?_;refine EL.store (l' := [.int .i64 (a1.getD k 0 + 1)]) rfl rfl q7 sz_3 rfl rfl (by rw [lenV_eq, Nat.ble_eq, ints_len, hl2]; omega) rfl ?_
           intro w14 hq14 hg14;rw [spl_ints hl2 hlk] at hq14;replace q1 := q1.gr hg14 n1_7;replace q3 := q3.gr hg14 n3_7;replace q6 := q6.gr hg14 n6_7;replace hx := own_type hx q7 rfl hg14;replace hbw := below_store hbw hg14 bhbw_7;replace hbo := below_store hbo hg14 bhbo_7;replace hbl := below_store hbl hg14 bhbl_7;replace hbx := below_store hbx hg14 bhbx_7;replace q7 := hq14;clear hg14 hq14;refine EL.nil (EX.blk (EX.seq (EC.region (EL.mv rfl rfl ?_))));refine EL.val (x_add rfl rfl (c := ((k + 1 : Nat) : Int)) ((IntWalk.i64_in _ ⟨by first | omega | (simp only; omega), by first | omega | (simp only; omega)⟩).trans (by first | omega | (simp only; omega)))) rfl ?_
           refine EL.as rfl rfl (EL.nil ?_);refine EX.roundD (k + 1, t1.set k (max 0 (t1.getD k 0 - n)), (a1.set k (a1.getD k 0 + 1))) ⟨rfl, trivial⟩ (by repeat first | with_reducible exact .refl _ | refine sp_ rfl ?_ | exact .refl _ | refine sd_ rfl ?_ | refine sn_ ?_) ⟨hlk, ⟨by simp only; rw [List.length_set]; exact hl1, by simp only; rw [List.length_set]; exact hl2⟩, set_step hl1 hlk ht1 (by rw [e0]), set_step hl2 hlk ha1 (v := a1.getD k 0 + 1) (by rw [if_pos ⟨hk1, by rw [← f0]; exact h0⟩, f0]), q6, q7, hbx⟩ (by simp only; omega)
          ·
           refine EL.valg rfl rfl (x_geq (r := false) rfl rfl (decide_eq_false h0)) rfl (EL.pt rfl rfl rfl (EL.nil (EX.seq (EC.no rfl (EC.skip (EX.blk (EX.seq (EC.region (EL.mv rfl rfl ?_)))))))));refine EL.val (x_add rfl rfl (c := ((k + 1 : Nat) : Int)) ((IntWalk.i64_in _ ⟨by first | omega | (simp only; omega), by first | omega | (simp only; omega)⟩).trans (by first | omega | (simp only; omega)))) rfl ?_
           refine EL.as rfl rfl (EL.nil ?_);refine EX.roundD (k + 1, t1.set k (max 0 (t1.getD k 0 - n)), a1) ⟨rfl, trivial⟩ (by repeat first | with_reducible exact .refl _ | refine sp_ rfl ?_ | exact .refl _ | refine sd_ rfl ?_ | refine sn_ ?_) ⟨hlk, ⟨by simp only; rw [List.length_set]; exact hl1, hl2⟩, set_step hl1 hlk ht1 (by rw [e0]), stay_step hlk ha1 (by rw [if_neg (fun h => h0 (by rw [f0]; exact h.2)), f0]), q6, q7, hbx⟩ (by simp only; omega)
         ·
          refine EL.val (x_eql (r := false) rfl rfl (decide_eq_false hk1)) rfl (EL.mv rfl rfl (EL.skip rfl rfl rfl rfl (EL.skip rfl rfl rfl rfl (EL.skip rfl rfl rfl rfl (EL.skip rfl rfl rfl rfl (EL.pf rfl rfl rfl (EL.nil (EX.seq (EC.no rfl ?_)))))))));refine EC.skip (EX.blk (EX.seq (EC.region (EL.mv rfl rfl ?_))));refine EL.val (x_add rfl rfl (c := ((k + 1 : Nat) : Int)) ((IntWalk.i64_in _ ⟨by first | omega | (simp only; omega), by first | omega | (simp only; omega)⟩).trans (by first | omega | (simp only; omega)))) rfl ?_
          refine EL.as rfl rfl (EL.nil ?_);refine EX.roundD (k + 1, t1.set k (max 0 (t1.getD k 0 - n)), a1) ⟨rfl, trivial⟩ (by repeat first | with_reducible exact .refl _ | refine sp_ rfl ?_ | exact .refl _ | refine sd_ rfl ?_ | refine sn_ ?_) ⟨hlk, ⟨by simp only; rw [List.length_set]; exact hl1, hl2⟩, set_step hl1 hlk ht1 (by rw [e0]), stay_step hlk ha1 (by rw [if_neg (fun h => hk1 h.1), f0]), q6, q7, hbx⟩ (by simp only; omega)
        ·
         obtain rfl : k = 4 := by omega
         refine EC.seq (EC.seq (EC.region (EL.mv rfl rfl ?_)));refine EL.val (x_lss rfl rfl (decide_eq_false (show ¬(((4 : Nat) : Int) < ((4 : Nat) : Int)) by omega))) rfl ?_
         refine EL.nil (EX.seq (EC.no rfl (EC.exit (EX.seq_exit (EX.seq_exit (EX.blk_here (EX.seq (EC.seq (EC.region ?_)))))))));obtain ⟨bx, ox, ebx, _, y0, y1⟩ := evs_cells l i hlt _ _ _ _ _ (Rd.of_own hx);have hev := List.all_eq_true.1 hlv (l.getD i ev0) (getD_mem hlt ev0);refine EL.mv rfl rfl (EL.mv rfl rfl ?_);refine EL.val (ix_29 (by show some (Value.slice Ax _ _) = _; rw [ebx]) rfl hlt) rfl ?_
         refine EL.val (fa_50_0 rfl) rfl (EL.val (ld_48 rfl y0) rfl ?_)
         by_cases hk1 : (l.getD i ev0).kind = 1
         ·
          obtain ⟨num, ek, hn4⟩ : ∃ num : Nat, (l.getD i ev0).number = ((num : Nat) : Int) ∧ num < 4 := by
           rcases ev_at hlv hlt with ⟨h, _⟩ | ⟨_, k, ek, hk⟩
           ·exact absurd (hk1.symm.trans h) (by decide)
           ·exact ⟨k, ek, by rw [← h4]; exact hk⟩
          have hnl : num < ru.levels.length := by rw [h4]; exact hn4
          have hT2 : TruthAt (i + 1) way (afterT ru (l.take (i + 1))) (t1.set num (ru.levels.getD num 0)) (a1.set num 0) := by
           rw [afterT_succ hlt]
           exact truth_step hT hro h4 hev hn.1 hn.2.1 hn.2.2.1 hn.2.2.2 (load_step hk1 ek hn4 hl1 hl2 ht1 ha1)
          refine EL.val (x_eql (r := true) rfl rfl (decide_eq_true hk1)) rfl (EL.nil (EX.seq (EC.yes rfl ?_)));obtain ⟨bl, ol, ebl, _, _⟩ := ints_cells ru.levels num hnl wz _ _ _ _ (hR.below hbo).levels;have lt_1 := q1.lt;have lt_3 := q3.lt;have lt_6 := q6.lt;have lt_7 := q7.lt;refine EC.regionS [[], [], [0, 1], [0, 1, 2], [0, 1, 2, 3], [], [], [5, 6], [5, 6, 7], [5, 6, 7, 8], [], [10], [], [], [12, 13], [12, 13, 14], [12, 13, 14, 15], [10, 11, 12, 13, 14, 15, 16], [10, 11, 12, 13, 14, 15, 16, 17], [0, 1, 2, 3, 4, 10, 11, 12, 13, 14, 15, 16, 17, 18], [0, 1, 2, 3, 4, 10, 11, 12, 13, 14, 15, 16, 17, 18, 19], [0, 1, 2, 3, 4, 5, 6, 7, 8, 9, 10, 11, 12, 13, 14, 15, 16, 17, 18, 19, 20], [0, 1, 2, 3, 4, 5, 6, 7, 8, 9, 10, 11, 12, 13, 14, 15, 16, 17, 18, 19, 20, 21]] 21 [] [20] (fun fl w_ => wz.grownBy w_ (some g6) ∧ (fl 20 = false → Blk w_ g6 93 _)) (phiS (fun i_ r => match i_ with | 0 => r 0 = .slice Ax l.length cx | 1 => r 1 = .int .i64 (i : Nat) | 2 => r 2 = .pointer (some ⟨bx, ox + i * 2, none⟩) | 3 => r 3 = .pointer (some ⟨bx, ox + i * 2 + 1, none⟩) | 4 => r 4 = .int .i64 (num : Nat) | 5 => r 5 = .slice Ax l.length cx | 6 => r 6 = .int .i64 (i : Nat) | 7 => r 7 = .pointer (some ⟨bx, ox + i * 2, none⟩) | 8 => r 8 = .pointer (some ⟨bx, ox + i * 2 + 1, none⟩) | 9 => r 9 = .int .i64 (num : Nat) | 10 => r 10 = .pointer (some ⟨g3, 0, none⟩) | 11 => r 11 = .slice Al ru.levels.length cl | 12 => r 12 = .slice Ax l.length cx | 13 => r 13 = .int .i64 (i : Nat) | 14 => r 14 = .pointer (some ⟨bx, ox + i * 2, none⟩) | 15 => r 15 = .pointer (some ⟨bx, ox + i * 2 + 1, none⟩) | 16 => r 16 = .int .i64 (num : Nat) | 17 => r 17 = .pointer (some ⟨bl, ol + num, none⟩) | 18 => r 18 = .int .i64 (ru.levels.getD num 0) | 19 => r 19 = .pointer (some ⟨g6, 0 + num, none⟩) | _ => True) [(20, fun _ r w_ => Blk w_ g6 93 (ints (t1.set num (ru.levels.getD num 0))).toArray)]) (by kernel_rfl) rfl rfl (by intro i hi; simp at hi; first | (subst hi; exact ⟨by simp, by omega⟩) | (rcases hi with rfl | rfl | rfl <;> exact ⟨by simp, by omega⟩) | (rcases hi with rfl | rfl <;> exact ⟨by simp, by omega⟩)) (base_own q6) (phiS_cons monoS_own (phiS_nil)) (fun i_ hi_ hs_ => ?_) (fun i_ hi_ => ?_) ?_
          ·match i_, hi_ with
           | 0, _ =>
            intro val fl w1 a hb ha hd hfl;obtain ⟨hb, hg0⟩ := hb;have ha := ha.s0 (d := 8) rfl
            exact ss_val ha rfl rfl (x_move rfl) rfl rfl
           | 1, _ =>
            intro val fl w1 a hb ha hd hfl;obtain ⟨hb, hg0⟩ := hb;have ha := ha.s0 (d := 18) rfl
            exact ss_val ha rfl rfl (x_move rfl) rfl rfl
           | 2, _ =>
            intro val fl w1 a hb ha hd hfl;obtain ⟨hb, hg0⟩ := hb;have e0 : val 0 = _ := hd 0 (memB_mem.1 rfl);have e1 : val 1 = _ := hd 1 (memB_mem.1 rfl);have ha := ha.s2 (d := 164) (e := 163) rfl e1 rfl e0
            exact ss_val ha rfl rfl (ix_29 (by show some (Value.slice Ax _ _) = _; rw [ebx]) rfl hlt) rfl rfl
           | 3, _ =>
            intro val fl w1 a hb ha hd hfl;obtain ⟨hb, hg0⟩ := hb;have e2 : val 2 = _ := hd 2 (memB_mem.1 rfl);have ha := ha.s1 (d := 165) rfl e2
            exact ss_val ha rfl rfl (fa_50_1 rfl) rfl rfl
           | 4, _ =>
            intro val fl w1 a hb ha hd hfl;obtain ⟨hb, hg0⟩ := hb;have e3 : val 3 = _ := hd 3 (memB_mem.1 rfl);have ha := ha.s1 (d := 166) rfl e3
            exact ss_val ha rfl rfl (ld_3 rfl (evs_num ebx (Rd.of_own (own_type hx q6 rfl hb)) hlt ek)) rfl rfl
           | 5, _ =>
            intro val fl w1 a hb ha hd hfl;obtain ⟨hb, hg0⟩ := hb;have ha := ha.s0 (d := 8) rfl
            exact ss_val ha rfl rfl (x_move rfl) rfl rfl
           | 6, _ =>
            intro val fl w1 a hb ha hd hfl;obtain ⟨hb, hg0⟩ := hb;have ha := ha.s0 (d := 18) rfl
            exact ss_val ha rfl rfl (x_move rfl) rfl rfl
           | 7, _ =>
            intro val fl w1 a hb ha hd hfl;obtain ⟨hb, hg0⟩ := hb;have e5 : val 5 = _ := hd 5 (memB_mem.1 rfl);have e6 : val 6 = _ := hd 6 (memB_mem.1 rfl);have ha := ha.s2 (d := 169) (e := 168) rfl e6 rfl e5
            exact ss_val ha rfl rfl (ix_29 (by show some (Value.slice Ax _ _) = _; rw [ebx]) rfl hlt) rfl rfl
           | 8, _ =>
            intro val fl w1 a hb ha hd hfl;obtain ⟨hb, hg0⟩ := hb;have e7 : val 7 = _ := hd 7 (memB_mem.1 rfl);have ha := ha.s1 (d := 170) rfl e7
            exact ss_val ha rfl rfl (fa_50_1 rfl) rfl rfl
           | 9, _ =>
            intro val fl w1 a hb ha hd hfl;obtain ⟨hb, hg0⟩ := hb;have e8 : val 8 = _ := hd 8 (memB_mem.1 rfl);have ha := ha.s1 (d := 171) rfl e8
            exact ss_val ha rfl rfl (ld_3 rfl (evs_num ebx (Rd.of_own (own_type hx q6 rfl hb)) hlt ek)) rfl rfl
           | 10, _ =>
            intro val fl w1 a hb ha hd hfl;obtain ⟨hb, hg0⟩ := hb;have ha := ha.s0 (d := 7) rfl
            exact ss_val ha rfl rfl (fa_28_0 rfl) rfl rfl
           | 11, _ =>
            intro val fl w1 a hb ha hd hfl;obtain ⟨hb, hg0⟩ := hb;have e10 : val 10 = _ := hd 10 (memB_mem.1 rfl);have ha := ha.s1 (d := 173) rfl e10
            exact ss_val ha rfl rfl (ld_22 rfl ((q3.grown hb (fun h => n3_6 (Option.some.inj h))).at (j := 0) rfl)) rfl rfl
           | 12, _ =>
            intro val fl w1 a hb ha hd hfl;obtain ⟨hb, hg0⟩ := hb;have ha := ha.s0 (d := 8) rfl
            exact ss_val ha rfl rfl (x_move rfl) rfl rfl
           | 13, _ =>
            intro val fl w1 a hb ha hd hfl;obtain ⟨hb, hg0⟩ := hb;have ha := ha.s0 (d := 18) rfl
            exact ss_val ha rfl rfl (x_move rfl) rfl rfl
           | 14, _ =>
            intro val fl w1 a hb ha hd hfl;obtain ⟨hb, hg0⟩ := hb;have e12 : val 12 = _ := hd 12 (memB_mem.1 rfl);have e13 : val 13 = _ := hd 13 (memB_mem.1 rfl);have ha := ha.s2 (d := 176) (e := 175) rfl e13 rfl e12
            exact ss_val ha rfl rfl (ix_29 (by show some (Value.slice Ax _ _) = _; rw [ebx]) rfl hlt) rfl rfl
           | 15, _ =>
            intro val fl w1 a hb ha hd hfl;obtain ⟨hb, hg0⟩ := hb;have e14 : val 14 = _ := hd 14 (memB_mem.1 rfl);have ha := ha.s1 (d := 177) rfl e14
            exact ss_val ha rfl rfl (fa_50_1 rfl) rfl rfl
           | 16, _ =>
            intro val fl w1 a hb ha hd hfl;obtain ⟨hb, hg0⟩ := hb;have e15 : val 15 = _ := hd 15 (memB_mem.1 rfl);have ha := ha.s1 (d := 178) rfl e15
            exact ss_val ha rfl rfl (ld_3 rfl (evs_num ebx (Rd.of_own (own_type hx q6 rfl hb)) hlt ek)) rfl rfl
           | 17, _ =>
            intro val fl w1 a hb ha hd hfl;obtain ⟨hb, hg0⟩ := hb;have e11 : val 11 = _ := hd 11 (memB_mem.1 rfl);have e16 : val 16 = _ := hd 16 (memB_mem.1 rfl);have ha := ha.s2 (d := 179) (e := 174) rfl e16 rfl e11
            exact ss_val ha rfl rfl (ix_22 (by show some (Value.slice Al _ _) = _; rw [ebl]) rfl hnl) rfl rfl
           | 18, _ =>
            intro val fl w1 a hb ha hd hfl;obtain ⟨hb, hg0⟩ := hb;have e17 : val 17 = _ := hd 17 (memB_mem.1 rfl);have ha := ha.s1 (d := 180) rfl e17
            exact ss_val ha rfl rfl (ld_3 rfl (ints_num ebl (hR.below (below_store hbo hb bhbo_6)).levels hnl)) rfl rfl
           | 19, _ =>
            intro val fl w1 a hb ha hd hfl;obtain ⟨hb, hg0⟩ := hb;have e4 : val 4 = _ := hd 4 (memB_mem.1 rfl);have ha := ha.sub (Sub.ins (d := 167) (Sub.ins (d := 16) (Sub.nil _) rfl) (dep_get rfl e4))
            exact ss_val ha rfl rfl (ixa_93 rfl rfl hn4) rfl rfl
           | 20, _ =>
            exact absurd (by simp) hs_
           | k + 21, h => exact absurd h (by omega)
          ·simp only [List.mem_singleton] at hi_; subst hi_
           intro val fl w1 a hb hfi ha hd hfl;obtain ⟨hb, hg0⟩ := hb;have e19 : val 19 = _ := hd 19 (memB_mem.1 rfl);have e18 : val 18 = _ := hd 18 (memB_mem.1 rfl);have ha := ha.s2 (d := 181) (e := 182) rfl e18 rfl e19;refine ts_store (l' := [.int .i64 (ru.levels.getD num 0)]) ha rfl rfl rfl (hg0 hfi) sz_3 rfl rfl (by rw [lenV_eq, Nat.ble_eq, ints_len, hl1]; omega) rfl ?_
           intro w' hq hgr;rw [spl_ints hl1 hn4] at hq;refine ⟨undef, rfl, hgr.size, ⟨grown_two hb hgr, fun h => by rw [fset_eq] at h; cases h⟩, hq, fun j _ hj hn hA => ?_⟩
           exact phiS_cons_st (C := fun j => j ≠ 20 ∧ 20 ∉ clsAt [[], [], [0, 1], [0, 1, 2], [0, 1, 2, 3], [], [], [5, 6], [5, 6, 7], [5, 6, 7, 8], [], [10], [], [], [12, 13], [12, 13, 14], [12, 13, 14, 15], [10, 11, 12, 13, 14, 15, 16], [10, 11, 12, 13, 14, 15, 16, 17], [0, 1, 2, 3, 4, 10, 11, 12, 13, 14, 15, 16, 17, 18], [0, 1, 2, 3, 4, 10, 11, 12, 13, 14, 15, 16, 17, 18, 19], [0, 1, 2, 3, 4, 5, 6, 7, 8, 9, 10, 11, 12, 13, 14, 15, 16, 17, 18, 19, 20], [0, 1, 2, 3, 4, 5, 6, 7, 8, 9, 10, 11, 12, 13, 14, 15, 16, 17, 18, 19, 20, 21]] j ∧ ∀ p ∈ [], (p = j ∨ p ∈ clsAt [[], [], [0, 1], [0, 1, 2], [0, 1, 2, 3], [], [], [5, 6], [5, 6, 7], [5, 6, 7, 8], [], [10], [], [], [12, 13], [12, 13, 14], [12, 13, 14, 15], [10, 11, 12, 13, 14, 15, 16], [10, 11, 12, 13, 14, 15, 16, 17], [0, 1, 2, 3, 4, 10, 11, 12, 13, 14, 15, 16, 17, 18], [0, 1, 2, 3, 4, 10, 11, 12, 13, 14, 15, 16, 17, 18, 19], [0, 1, 2, 3, 4, 5, 6, 7, 8, 9, 10, 11, 12, 13, 14, 15, 16, 17, 18, 19, 20], [0, 1, 2, 3, 4, 5, 6, 7, 8, 9, 10, 11, 12, 13, 14, 15, 16, 17, 18, 19, 20, 21]] j) → ∀ q ∈ [], (q = 20 ∨ q ∈ clsAt [[], [], [0, 1], [0, 1, 2], [0, 1, 2, 3], [], [], [5, 6], [5, 6, 7], [5, 6, 7, 8], [], [10], [], [], [12, 13], [12, 13, 14], [12, 13, 14, 15], [10, 11, 12, 13, 14, 15, 16], [10, 11, 12, 13, 14, 15, 16, 17], [0, 1, 2, 3, 4, 10, 11, 12, 13, 14, 15, 16, 17, 18], [0, 1, 2, 3, 4, 10, 11, 12, 13, 14, 15, 16, 17, 18, 19], [0, 1, 2, 3, 4, 5, 6, 7, 8, 9, 10, 11, 12, 13, 14, 15, 16, 17, 18, 19, 20], [0, 1, 2, 3, 4, 5, 6, 7, 8, 9, 10, 11, 12, 13, 14, 15, 16, 17, 18, 19, 20, 21]] 20) → p ≠ q → val p ≠ val q) (fun hc => absurd rfl hc.1) (fun _ _ h => h) j ⟨hj, hn, hA⟩
          ·intro val fl wR30 hfl hb halc hd
           obtain ⟨hb, _⟩ := hb;have e0 : val 0 = _ := hd 0 (by omega)
           have e1 : val 1 = _ := hd 1 (by omega)
           have e2 : val 2 = _ := hd 2 (by omega)
           have e3 : val 3 = _ := hd 3 (by omega)
           have e4 : val 4 = _ := hd 4 (by omega)
           have e5 : val 5 = _ := hd 5 (by omega)
           have e6 : val 6 = _ := hd 6 (by omega)
           have e7 : val 7 = _ := hd 7 (by omega)
           have e8 : val 8 = _ := hd 8 (by omega)
           have e9 : val 9 = _ := hd 9 (by omega)
           have e10 : val 10 = _ := hd 10 (by omega)
           have e11 : val 11 = _ := hd 11 (by omega)
           have e12 : val 12 = _ := hd 12 (by omega)
           have e13 : val 13 = _ := hd 13 (by omega)
           have e14 : val 14 = _ := hd 14 (by omega)
           have e15 : val 15 = _ := hd 15 (by omega)
           have e16 : val 16 = _ := hd 16 (by omega)
           have e17 : val 17 = _ := hd 17 (by omega)
           have e18 : val 18 = _ := hd 18 (by omega)
           have e19 : val 19 = _ := hd 19 (by omega)
           refine EL.ends (cs := [_, _, _, _, _, _, _, _, _, _, _, _, _, _, _, _, _, _, _, _, val 20]) ⟨e0, e1, e2, e3, e4, e5, e6, e7, e8, e9, e10, e11, e12, e13, e14, e15, e16, e17, e18, e19, rfl, trivial⟩ rfl ?_;replace hx := own_type hx q6 rfl hb;replace q1 := q1.gr hb n1_6;replace q3 := q3.gr hb n3_6;obtain (q6 : Blk wR30 g6 93 (ints (t1.set num (ru.levels.getD num 0))).toArray) := hd 20 (by omega)
           replace q7 := q7.gr hb n6_7.symm;replace hbw := below_store hbw hb bhbw_6;replace hbo := below_store hbo hb bhbo_6;replace hbl := below_store hbl hb bhbl_6;replace hbx := below_store hbx hb bhbx_6;refine EL.val (ixa_93 rfl rfl hn4) rfl ?_;refine EL.store (l' := [.int .i64 0]) rfl rfl q7 sz_3 rfl rfl (by rw [lenV_eq, Nat.ble_eq, ints_len, hl2]; omega) rfl ?_
           intro w15 hq15 hg15;rw [spl_ints hl2 hn4] at hq15;replace q1 := q1.gr hg15 n1_7;replace q3 := q3.gr hg15 n3_7;replace q6 := q6.gr hg15 n6_7;replace hx := own_type hx q7 rfl hg15;replace hbw := below_store hbw hg15 bhbw_7;replace hbo := below_store hbo hg15 bhbo_7;replace hbl := below_store hbl hg15 bhbl_7;replace hbx := below_store hbx hg15 bhbx_7;replace q7 := hq15;clear hg15 hq15;refine EL.nil (EX.blk (EX.seq (EC.region (EL.mv rfl rfl ?_))));refine EL.val (x_add rfl rfl (c := ((i + 1 : Nat) : Int)) ((IntWalk.i64_in _ ⟨by first | omega | (simp only; omega), by first | omega | (simp only; omega)⟩).trans (by first | omega | (simp only; omega)))) rfl ?_
           refine EL.as rfl rfl (EL.nil ?_);refine EX.roundD (i + 1, (t1.set num (ru.levels.getD num 0)), (a1.set num 0)) ⟨rfl, trivial⟩ (by repeat first | with_reducible exact .refl _ | refine sp_ rfl ?_ | exact .refl _ | refine sd_ rfl ?_ | refine sn_ ?_) ⟨hlt, hT2, q6, q7, hbx⟩ (by simp only; omega)
         ·
          have hT2 : TruthAt (i + 1) way (afterT ru (l.take (i + 1))) t1 a1 := by
           rw [afterT_succ hlt]
           exact truth_step hT hro h4 hev hn.1 hn.2.1 hn.2.2.1 hn.2.2.2 ⟨hl1, hl2, fun j hj => by rw [ht1 j hj, if_pos hj, if_neg (fun h => hk1 h.1)], fun j hj => by rw [ha1 j hj, if_pos hj, if_neg (fun h => hk1 h.1), if_neg hk1]⟩
          refine EL.val (x_eql (r := false) rfl rfl (decide_eq_false hk1)) rfl (EL.nil (EX.seq (EC.no rfl (EC.skip (EX.blk (EX.seq (EC.region (EL.mv rfl rfl ?_))))))));refine EL.val (x_add rfl rfl (c := ((i + 1 : Nat) : Int)) ((IntWalk.i64_in _ ⟨by first | omega | (simp only; omega), by first | omega | (simp only; omega)⟩).trans (by first | omega | (simp only; omega)))) rfl ?_
          refine EL.as rfl rfl (EL.nil ?_);refine EX.roundD (i + 1, t1, a1) ⟨rfl, trivial⟩ (by repeat first | with_reducible exact .refl _ | refine sp_ rfl ?_ | exact .refl _ | refine sd_ rfl ?_ | refine sn_ ?_) ⟨hlt, hT2, q6, q7, hbx⟩ (by simp only; omega)
     ·
      obtain rfl : i = l.length := by omega
      rw [List.take_length] at hT;refine EC.seq (EC.seq (EC.region (EL.mv rfl rfl (EL.mv rfl rfl (EL.val (ln_29 rfl) rfl ?_)))));refine EL.val (x_lss rfl rfl (decide_eq_false (show ¬(((l.length : Nat) : Int) < ((l.length : Nat) : Int)) by omega))) rfl ?_
      refine EL.nil (EX.seq (EC.no rfl (EC.exit (EX.seq_exit (EX.seq_exit (EX.blk_here (EX.seq (EC.seq (EC.region ?_)))))))));refine EL.as rfl rfl (EL.nil (EX.seq (EC.seq (EC.seq (EC.region (EL.as rfl rfl (EL.nil (EX.seq (EC.block ?_)))))))));refine EC.loopD [6, 22, 23, 184, 185, 186, 187, 188, 189, 190, 191, 192, 193, 194, 195, 196, 197, 198, 199, 200, 201, 202, 203, 204, 205, 206, 207, 208, 209, 210, 211, 212, 213, 214, 215, 216, 217, 218, 219, 220, 221, 222, 223, 224, 225, 226, 227, 228, 229, 230, 231, 232, 233, 234, 235, 236, 237, 238, 239, 240, 241, 242, 243, 244, 245, 246, 247, 248, 249, 250, 251, 252, 253, 254, 255, 256, 257, 258, 259, 260, 261, 262, 263, 264, 265, 266, 267, 268, 269, 270, 271, 272] (fun x_ : Nat => [(22, .bool (mayW ru tr af cn x_)), (23, .int .i64 (x_ : Nat))]) (fun x_ W => x_ ≤ 4 ∧ Blk W g6 93 (ints tr).toArray ∧ Blk W g7 93 (ints af).toArray ∧ Below wx.heap.size wx W) (fun x_ => 4 - x_) 0 ⟨Nat.zero_le _, q6, q7, hbx⟩ ⟨rfl, rfl, trivial⟩ ?_
      clear q6 q7 hbx q1 q3 hx hb8 hbw hbo hbl
      rintro k wz ⟨hk, q6, q7, hbx⟩
      have q1 := q1x.below hbx q1x.lt;have q3 := q3x.below hbx q3x.lt;have hx := own_below hxx hbx (Nat.le_refl _);have hb8 := own_below hb8x hbx (Nat.le_refl _);have hbw := hbwx.trans (hbx.mono hbwx.size);have hbo := hbox.trans (hbx.mono hbox.size);have hbl := hblx.trans (hbx.mono hblx.size)
      by_cases hlk : k < 4
      ·
       have hba : k < ru.allow.length := by rw [hro.al, h4]; exact hlk
       have hca : cn < (ru.allow.getD k []).length := by rw [hro.ar k (by omega), h4]; exact hc4
       have hbp : k < ru.apart.length := by rw [hro.pl, h4]; exact hlk
       have hcp : cn < (ru.apart.getD k []).length := by rw [hro.pr k (by omega), h4]; exact hc4
       refine EC.seq (EC.seq (EC.region (EL.mv rfl rfl ?_)));refine EL.val (x_lss rfl rfl (decide_eq_true (show (((k : Nat) : Int) < ((4 : Nat) : Int)) by omega))) rfl ?_
       refine EL.nil (EX.seq (EC.yes rfl (EC.skip (EX.seq (EC.seq (EC.block ?_))))));refine EC.cutD [6, 188, 189, 190, 191, 192, 193, 194, 195, 196, 197, 198, 199, 200, 201, 202, 203, 204, 205, 206, 207, 208, 209, 210, 211, 212, 213, 214, 215, 216, 217, 218, 219, 220, 221, 222, 223, 224, 225, 226, 227, 228, 229, 230, 231, 232, 233, 234, 235, 236, 237] (fun _ : Unit => []) (fun _ W => Blk W g6 93 (ints tr).toArray ∧ Blk W g7 93 (ints af).toArray ∧ Below wx.heap.size wx W) ?_ ?_
       ·
        obtain ⟨by_, oy, eby, _, y0, y1⟩ := bds_cells (resK (afterT ru l) 4) k (by simp [resK]; exact hlk) wz wz.heap.size _ _ _ (Rd.of_own hb8)
        have hk9 : (resK (afterT ru l) 4).getD k bd0 = ⟨((afterT ru l).getD k tr0).lo, ((afterT ru l).getD k tr0).hi⟩ := by unfold resK; rw [rm_getD, if_pos hlk]
        rw [hk9] at y0 y1
        dsimp only at y0 y1
        have f1 := hT.lo k hlk;have f2 := hT.hi k hlk;have hw3_ : way = 0 ∨ way = 1 ∨ way = 2 := by omega
        refine EC.seq ?_
        rcases (show way = 0 ∨ way = 1 ∨ way = 2 by omega) with hw | hw | hw
        ·
         have f3 := hT.w0 hw k hlk;refine EC.regionQ (by kernel_rfl) (by kernel_rfl) ?_
         refine EQ.mv rfl rfl ?_;refine EQ.val (fun _ hw => (ixa_93 rfl rfl hlk)) rfl ?_
         refine EQ.val (fun _ hw => (ld_3 rfl (below_load hw (q6.cellA (ints_at hT.lt hlk))))) rfl ?_
         refine EQ.mv rfl rfl (EQ.mv rfl rfl ?_);refine EQ.val (fun _ hw => (ix_60 (by show some (Value.slice A8 _ _) = _; rw [eby]) rfl hlk)) rfl ?_
         refine EQ.val (fun _ hw => (fa_24_0 rfl)) rfl ?_
         refine EQ.val (fun _ hw => (ld_3 rfl (below_load hw y0))) rfl ?_
         refine EQ.val (fun _ hw => (x_lss (r := false) rfl rfl (decide_eq_false (by omega)))) rfl ?_
         refine EQ.mv rfl rfl (EQ.mg rfl rfl rfl rfl ?_);refine EQ.valg rfl rfl (fun _ hw => (ixa_93 rfl rfl hlk)) rfl ?_
         refine EQ.valg rfl rfl (fun _ hw => (ld_3 rfl (below_load hw (q6.cellA (ints_at hT.lt hlk))))) rfl ?_
         refine EQ.mg rfl rfl rfl rfl (EQ.mg rfl rfl rfl rfl ?_);refine EQ.valg rfl rfl (fun _ hw => (ix_60 (by show some (Value.slice A8 _ _) = _; rw [eby]) rfl hlk)) rfl ?_
         refine EQ.valg rfl rfl (fun _ hw => (fa_24_1 rfl)) rfl ?_
         refine EQ.valg rfl rfl (fun _ hw => (ld_3 rfl (below_load hw y1))) rfl ?_
         refine EQ.valg rfl rfl (fun _ hw => (x_gtr (r := false) rfl rfl (decide_eq_false (by omega)))) rfl ?_
         refine EQ.val (fun _ hw => (x_pick_f rfl rfl)) rfl ?_
         refine EQ.mv rfl rfl (EQ.mg rfl rfl rfl rfl ?_);refine EQ.valg rfl rfl (fun _ hw => (x_eql (r := true) rfl rfl (decide_eq_true (by omega)))) rfl ?_
         refine EQ.mg rfl rfl rfl rfl (EQ.mg rfl rfl rfl rfl ?_);refine EQ.valg rfl rfl (fun _ hw => (ixa_93 rfl rfl hlk)) rfl ?_
         refine EQ.valg rfl rfl (fun _ hw => (ld_3 rfl (below_load hw (q6.cellA (ints_at hT.lt hlk))))) rfl ?_
         refine EQ.mg rfl rfl rfl rfl (EQ.mg rfl rfl rfl rfl ?_);refine EQ.valg rfl rfl (fun _ hw => (ix_60 (by show some (Value.slice A8 _ _) = _; rw [eby]) rfl hlk)) rfl ?_
         refine EQ.valg rfl rfl (fun _ hw => (fa_24_1 rfl)) rfl ?_
         refine EQ.valg rfl rfl (fun _ hw => (ld_3 rfl (below_load hw y1))) rfl ?_
         refine EQ.valg rfl rfl (fun _ hw => (x_neq (r := false) rfl rfl (decide_eq_false (fun h => h f3)))) rfl ?_
         refine EQ.valg rfl rfl (fun _ hw => (x_pick_t rfl rfl)) rfl ?_
         refine EQ.val (fun _ hw => (x_pick_f rfl rfl)) rfl ?_
         refine EQ.mv rfl rfl (EQ.mg rfl rfl rfl rfl ?_);refine EQ.valg rfl rfl (fun _ hw => (x_eql (r := false) rfl rfl (decide_eq_false (by omega)))) rfl ?_
         refine EQ.mg rfl rfl rfl rfl (EQ.skip rfl rfl rfl rfl (EQ.skip rfl rfl rfl rfl (EQ.skip rfl rfl rfl rfl (EQ.skip rfl rfl rfl rfl (EQ.skip rfl rfl rfl rfl (EQ.skip rfl rfl rfl rfl (EQ.skip rfl rfl rfl rfl (EQ.skip rfl rfl rfl rfl (EQ.skip rfl rfl rfl rfl ?_)))))))));refine EQ.valg rfl rfl (fun _ hw => (x_pick_f rfl rfl)) rfl ?_
         refine EQ.val (fun _ hw => (x_pick_f rfl rfl)) rfl ?_
         refine EQ.fin (fun w16 hw_ => ?_)
         replace q1 := q1.bl hw_;replace q3 := q3.bl hw_;replace q6 := q6.bl hw_;replace q7 := q7.bl hw_;replace hx := own_below hx hw_ (Nat.le_refl _);replace hbw := bo_ hbw hw_;replace hbo := bo_ hbo hw_;replace hbl := bo_ hbl hw_;replace hbx := bo_ hbx hw_;clear hw_;refine EX.seq (EC.no rfl (EC.skip ?_))
         exact EX.cutE () trivial (by repeat first | with_reducible exact (Sub.refl _).del _ | refine sp_ rfl ?_ | exact (Sub.refl _).del _ | refine sd_ rfl ?_ | refine sn_ ?_) ⟨q6, q7, hbx⟩
        ·
         have f3 := hT.w1 hw k hlk;refine EC.regionQ (by kernel_rfl) (by kernel_rfl) ?_
         refine EQ.mv rfl rfl ?_;refine EQ.val (fun _ hw => (ixa_93 rfl rfl hlk)) rfl ?_
         refine EQ.val (fun _ hw => (ld_3 rfl (below_load hw (q6.cellA (ints_at hT.lt hlk))))) rfl ?_
         refine EQ.mv rfl rfl (EQ.mv rfl rfl ?_);refine EQ.val (fun _ hw => (ix_60 (by show some (Value.slice A8 _ _) = _; rw [eby]) rfl hlk)) rfl ?_
         refine EQ.val (fun _ hw => (fa_24_0 rfl)) rfl ?_
         refine EQ.val (fun _ hw => (ld_3 rfl (below_load hw y0))) rfl ?_
         refine EQ.val (fun _ hw => (x_lss (r := false) rfl rfl (decide_eq_false (by omega)))) rfl ?_
         refine EQ.mv rfl rfl (EQ.mg rfl rfl rfl rfl ?_);refine EQ.valg rfl rfl (fun _ hw => (ixa_93 rfl rfl hlk)) rfl ?_
         refine EQ.valg rfl rfl (fun _ hw => (ld_3 rfl (below_load hw (q6.cellA (ints_at hT.lt hlk))))) rfl ?_
         refine EQ.mg rfl rfl rfl rfl (EQ.mg rfl rfl rfl rfl ?_);refine EQ.valg rfl rfl (fun _ hw => (ix_60 (by show some (Value.slice A8 _ _) = _; rw [eby]) rfl hlk)) rfl ?_
         refine EQ.valg rfl rfl (fun _ hw => (fa_24_1 rfl)) rfl ?_
         refine EQ.valg rfl rfl (fun _ hw => (ld_3 rfl (below_load hw y1))) rfl ?_
         refine EQ.valg rfl rfl (fun _ hw => (x_gtr (r := false) rfl rfl (decide_eq_false (by omega)))) rfl ?_
         refine EQ.val (fun _ hw => (x_pick_f rfl rfl)) rfl ?_
         refine EQ.mv rfl rfl (EQ.mg rfl rfl rfl rfl ?_);refine EQ.valg rfl rfl (fun _ hw => (x_eql (r := false) rfl rfl (decide_eq_false (by omega)))) rfl ?_
         refine EQ.mg rfl rfl rfl rfl (EQ.skip rfl rfl rfl rfl (EQ.skip rfl rfl rfl rfl (EQ.skip rfl rfl rfl rfl (EQ.skip rfl rfl rfl rfl (EQ.skip rfl rfl rfl rfl (EQ.skip rfl rfl rfl rfl (EQ.skip rfl rfl rfl rfl (EQ.skip rfl rfl rfl rfl (EQ.skip rfl rfl rfl rfl ?_)))))))));refine EQ.valg rfl rfl (fun _ hw => (x_pick_f rfl rfl)) rfl ?_
         refine EQ.val (fun _ hw => (x_pick_f rfl rfl)) rfl ?_
         refine EQ.mv rfl rfl (EQ.mg rfl rfl rfl rfl ?_);refine EQ.valg rfl rfl (fun _ hw => (x_eql (r := true) rfl rfl (decide_eq_true (by omega)))) rfl ?_
         refine EQ.mg rfl rfl rfl rfl (EQ.mg rfl rfl rfl rfl ?_);refine EQ.valg rfl rfl (fun _ hw => (ixa_93 rfl rfl hlk)) rfl ?_
         refine EQ.valg rfl rfl (fun _ hw => (ld_3 rfl (below_load hw (q6.cellA (ints_at hT.lt hlk))))) rfl ?_
         refine EQ.mg rfl rfl rfl rfl (EQ.mg rfl rfl rfl rfl ?_);refine EQ.valg rfl rfl (fun _ hw => (ix_60 (by show some (Value.slice A8 _ _) = _; rw [eby]) rfl hlk)) rfl ?_
         refine EQ.valg rfl rfl (fun _ hw => (fa_24_0 rfl)) rfl ?_
         refine EQ.valg rfl rfl (fun _ hw => (ld_3 rfl (below_load hw y0))) rfl ?_
         refine EQ.valg rfl rfl (fun _ hw => (x_neq (r := false) rfl rfl (decide_eq_false (fun h => h f3)))) rfl ?_
         refine EQ.valg rfl rfl (fun _ hw => (x_pick_t rfl rfl)) rfl ?_
         refine EQ.val (fun _ hw => (x_pick_f rfl rfl)) rfl ?_
         refine EQ.fin (fun w17 hw_ => ?_)
         replace q1 := q1.bl hw_;replace q3 := q3.bl hw_;replace q6 := q6.bl hw_;replace q7 := q7.bl hw_;replace hx := own_below hx hw_ (Nat.le_refl _);replace hbw := bo_ hbw hw_;replace hbo := bo_ hbo hw_;replace hbl := bo_ hbl hw_;replace hbx := bo_ hbx hw_;clear hw_;refine EX.seq (EC.no rfl (EC.skip ?_))
         exact EX.cutE () trivial (by repeat first | with_reducible exact (Sub.refl _).del _ | refine sp_ rfl ?_ | exact (Sub.refl _).del _ | refine sd_ rfl ?_ | refine sn_ ?_) ⟨q6, q7, hbx⟩
        ·
         refine EC.regionQ (by kernel_rfl) (by kernel_rfl) ?_
         refine EQ.mv rfl rfl ?_;refine EQ.val (fun _ hw => (ixa_93 rfl rfl hlk)) rfl ?_
         refine EQ.val (fun _ hw => (ld_3 rfl (below_load hw (q6.cellA (ints_at hT.lt hlk))))) rfl ?_
         refine EQ.mv rfl rfl (EQ.mv rfl rfl ?_);refine EQ.val (fun _ hw => (ix_60 (by show some (Value.slice A8 _ _) = _; rw [eby]) rfl hlk)) rfl ?_
         refine EQ.val (fun _ hw => (fa_24_0 rfl)) rfl ?_
         refine EQ.val (fun _ hw => (ld_3 rfl (below_load hw y0))) rfl ?_
         refine EQ.val (fun _ hw => (x_lss (r := false) rfl rfl (decide_eq_false (by omega)))) rfl ?_
         refine EQ.mv rfl rfl (EQ.mg rfl rfl rfl rfl ?_);refine EQ.valg rfl rfl (fun _ hw => (ixa_93 rfl rfl hlk)) rfl ?_
         refine EQ.valg rfl rfl (fun _ hw => (ld_3 rfl (below_load hw (q6.cellA (ints_at hT.lt hlk))))) rfl ?_
         refine EQ.mg rfl rfl rfl rfl (EQ.mg rfl rfl rfl rfl ?_);refine EQ.valg rfl rfl (fun _ hw => (ix_60 (by show some (Value.slice A8 _ _) = _; rw [eby]) rfl hlk)) rfl ?_
         refine EQ.valg rfl rfl (fun _ hw => (fa_24_1 rfl)) rfl ?_
         refine EQ.valg rfl rfl (fun _ hw => (ld_3 rfl (below_load hw y1))) rfl ?_
         refine EQ.valg rfl rfl (fun _ hw => (x_gtr (r := false) rfl rfl (decide_eq_false (by omega)))) rfl ?_
         refine EQ.val (fun _ hw => (x_pick_f rfl rfl)) rfl ?_
         refine EQ.mv rfl rfl (EQ.mg rfl rfl rfl rfl ?_);refine EQ.valg rfl rfl (fun _ hw => (x_eql (r := false) rfl rfl (decide_eq_false (by omega)))) rfl ?_
         refine EQ.mg rfl rfl rfl rfl (EQ.skip rfl rfl rfl rfl (EQ.skip rfl rfl rfl rfl (EQ.skip rfl rfl rfl rfl (EQ.skip rfl rfl rfl rfl (EQ.skip rfl rfl rfl rfl (EQ.skip rfl rfl rfl rfl (EQ.skip rfl rfl rfl rfl (EQ.skip rfl rfl rfl rfl (EQ.skip rfl rfl rfl rfl ?_)))))))));refine EQ.valg rfl rfl (fun _ hw => (x_pick_f rfl rfl)) rfl ?_
         refine EQ.val (fun _ hw => (x_pick_f rfl rfl)) rfl ?_
         refine EQ.mv rfl rfl (EQ.mg rfl rfl rfl rfl ?_);refine EQ.valg rfl rfl (fun _ hw => (x_eql (r := false) rfl rfl (decide_eq_false (by omega)))) rfl ?_
         refine EQ.mg rfl rfl rfl rfl (EQ.skip rfl rfl rfl rfl (EQ.skip rfl rfl rfl rfl (EQ.skip rfl rfl rfl rfl (EQ.skip rfl rfl rfl rfl (EQ.skip rfl rfl rfl rfl (EQ.skip rfl rfl rfl rfl (EQ.skip rfl rfl rfl rfl (EQ.skip rfl rfl rfl rfl (EQ.skip rfl rfl rfl rfl ?_)))))))));refine EQ.valg rfl rfl (fun _ hw => (x_pick_f rfl rfl)) rfl ?_
         refine EQ.val (fun _ hw => (x_pick_f rfl rfl)) rfl ?_
         refine EQ.fin (fun w18 hw_ => ?_)
         replace q1 := q1.bl hw_;replace q3 := q3.bl hw_;replace q6 := q6.bl hw_;replace q7 := q7.bl hw_;replace hx := own_below hx hw_ (Nat.le_refl _);replace hbw := bo_ hbw hw_;replace hbo := bo_ hbo hw_;replace hbl := bo_ hbl hw_;replace hbx := bo_ hbx hw_;clear hw_;refine EX.seq (EC.no rfl (EC.skip ?_))
         exact EX.cutE () trivial (by repeat first | with_reducible exact (Sub.refl _).del _ | refine sp_ rfl ?_ | exact (Sub.refl _).del _ | refine sd_ rfl ?_ | refine sn_ ?_) ⟨q6, q7, hbx⟩
       ·
        clear q6 q7 hbx q1 q3 hx hb8 hbw hbo hbl
        rintro _ W35 ⟨q6, q7, hbx⟩
        have q1 := q1x.below hbx q1x.lt;have q3 := q3x.below hbx q3x.lt;have hx := own_below hxx hbx (Nat.le_refl _);have hb8 := own_below hb8x hbx (Nat.le_refl _);have hbw := hbwx.trans (hbx.mono hbwx.size);have hbo := hbox.trans (hbx.mono hbox.size);have hbl := hblx.trans (hbx.mono hblx.size);obtain ⟨bo, oo, br, orr, cr, eAa, a1_, a2_⟩ := sq_cells (hR.below hbo).allow hba hca;obtain ⟨bo2, oo2, br2, orr2, cr2, eAp, p1_, p2_⟩ := sq_cells (hR.below hbo).apart hbp hcp;change _ = some (Value.int .i64 (allowAt ru k cn)) at a2_;change _ = some (Value.int .i64 (apartAt ru k cn)) at p2_
        cases hm : mayW ru tr af cn k
        ·
         refine EC.regionQ (by kernel_rfl) (by kernel_rfl) ?_
         refine EQ.mv rfl rfl (EQ.mv rfl rfl (EQ.skip rfl rfl rfl rfl (EQ.skip rfl rfl rfl rfl (EQ.skip rfl rfl rfl rfl (EQ.skip rfl rfl rfl rfl (EQ.skip rfl rfl rfl rfl (EQ.skip rfl rfl rfl rfl (EQ.skip rfl rfl rfl rfl (EQ.skip rfl rfl rfl rfl ?_)))))))));refine EQ.skip rfl rfl rfl rfl (EQ.skip rfl rfl rfl rfl (EQ.skip rfl rfl rfl rfl (EQ.skip rfl rfl rfl rfl (EQ.skip rfl rfl rfl rfl (EQ.skip rfl rfl rfl rfl (EQ.skip rfl rfl rfl rfl (EQ.skip rfl rfl rfl rfl (EQ.skip rfl rfl rfl rfl (EQ.skip rfl rfl rfl rfl ?_)))))))));refine EQ.skip rfl rfl rfl rfl (EQ.skip rfl rfl rfl rfl (EQ.skip rfl rfl rfl rfl (EQ.skip rfl rfl rfl rfl (EQ.skip rfl rfl rfl rfl (EQ.skip rfl rfl rfl rfl (EQ.skip rfl rfl rfl rfl (EQ.skip rfl rfl rfl rfl (EQ.skip rfl rfl rfl rfl (EQ.skip rfl rfl rfl rfl ?_)))))))));refine EQ.skip rfl rfl rfl rfl (EQ.skip rfl rfl rfl rfl (EQ.skip rfl rfl rfl rfl (EQ.skip rfl rfl rfl rfl ?_)));refine EQ.val (fun _ hw => (x_pick_f rfl rfl)) rfl ?_
         refine EQ.val (fun _ hw => (x_assign rfl)) rfl ?_
         refine EQ.fin (fun w19 hw_ => ?_)
         replace q1 := q1.bl hw_;replace q3 := q3.bl hw_;replace q6 := q6.bl hw_;replace q7 := q7.bl hw_;replace hx := own_below hx hw_ (Nat.le_refl _);replace hbw := bo_ hbw hw_;replace hbo := bo_ hbo hw_;replace hbl := bo_ hbl hw_;replace hbx := bo_ hbx hw_;clear hw_;refine EX.blk (EX.seq (EC.region (EL.mv rfl rfl ?_)));refine EL.val (x_add rfl rfl (c := ((k + 1 : Nat) : Int)) ((IntWalk.i64_in _ ⟨by first | omega | (simp only; omega), by first | omega | (simp only; omega)⟩).trans (by first | omega | (simp only; omega)))) rfl ?_
         refine EL.as rfl rfl (EL.nil ?_);refine EX.roundD (k + 1) ⟨agree_b (may_step false (by simp only [hm, not_false_eq_true, decide_true, decide_false, Bool.true_and, Bool.false_and, Bool.and_true, Bool.and_false, Bool.or_true, Bool.true_or, Bool.or_false, Bool.false_or])) rfl, rfl, trivial⟩ (by repeat first | with_reducible exact .refl _ | refine sp_ rfl ?_ | exact .refl _ | refine sd_ rfl ?_ | refine sn_ ?_) ⟨hlk, q6, q7, hbx⟩ (by omega)
        ·
         by_cases h0 : af.getD k 0 < 0
         ·
          refine EC.regionQ (by kernel_rfl) (by kernel_rfl) ?_
          refine EQ.mv rfl rfl (EQ.mv rfl rfl (EQ.mg rfl rfl rfl rfl ?_));refine EQ.valg rfl rfl (fun _ hw => (ixa_93 rfl rfl hlk)) rfl ?_
          refine EQ.valg rfl rfl (fun _ hw => (ld_3 rfl (below_load hw (q7.cellA (ints_at hT.la hlk))))) rfl ?_
          refine EQ.valg rfl rfl (fun _ hw => (x_lss (r := true) rfl rfl (decide_eq_true h0))) rfl ?_
          refine EQ.mg rfl rfl rfl rfl (EQ.skip rfl rfl rfl rfl (EQ.skip rfl rfl rfl rfl (EQ.skip rfl rfl rfl rfl (EQ.skip rfl rfl rfl rfl (EQ.skip rfl rfl rfl rfl (EQ.skip rfl rfl rfl rfl (EQ.skip rfl rfl rfl rfl (EQ.skip rfl rfl rfl rfl (EQ.skip rfl rfl rfl rfl ?_)))))))));refine EQ.skip rfl rfl rfl rfl (EQ.skip rfl rfl rfl rfl (EQ.skip rfl rfl rfl rfl (EQ.skip rfl rfl rfl rfl (EQ.skip rfl rfl rfl rfl (EQ.skip rfl rfl rfl rfl (EQ.skip rfl rfl rfl rfl (EQ.skip rfl rfl rfl rfl (EQ.skip rfl rfl rfl rfl (EQ.skip rfl rfl rfl rfl ?_)))))))));refine EQ.skip rfl rfl rfl rfl (EQ.skip rfl rfl rfl rfl (EQ.skip rfl rfl rfl rfl (EQ.skip rfl rfl rfl rfl (EQ.skip rfl rfl rfl rfl (EQ.skip rfl rfl rfl rfl (EQ.skip rfl rfl rfl rfl ?_))))));refine EQ.valg rfl rfl (fun _ hw => (x_pick_t rfl rfl)) rfl ?_
          refine EQ.val (fun _ hw => (x_pick_t rfl rfl)) rfl ?_
          refine EQ.val (fun _ hw => (x_assign rfl)) rfl ?_
          refine EQ.fin (fun w20 hw_ => ?_)
          replace q1 := q1.bl hw_;replace q3 := q3.bl hw_;replace q6 := q6.bl hw_;replace q7 := q7.bl hw_;replace hx := own_below hx hw_ (Nat.le_refl _);replace hbw := bo_ hbw hw_;replace hbo := bo_ hbo hw_;replace hbl := bo_ hbl hw_;replace hbx := bo_ hbx hw_;clear hw_;refine EX.blk (EX.seq (EC.region (EL.mv rfl rfl ?_)));refine EL.val (x_add rfl rfl (c := ((k + 1 : Nat) : Int)) ((IntWalk.i64_in _ ⟨by first | omega | (simp only; omega), by first | omega | (simp only; omega)⟩).trans (by first | omega | (simp only; omega)))) rfl ?_
          refine EL.as rfl rfl (EL.nil ?_);refine EX.roundD (k + 1) ⟨agree_b (may_step true (by simp only [hm, h0, not_false_eq_true, decide_true, decide_false, Bool.true_and, Bool.false_and, Bool.and_true, Bool.and_false, Bool.or_true, Bool.true_or, Bool.or_false, Bool.false_or])) rfl, rfl, trivial⟩ (by repeat first | with_reducible exact .refl _ | refine sp_ rfl ?_ | exact .refl _ | refine sd_ rfl ?_ | refine sn_ ?_) ⟨hlk, q6, q7, hbx⟩ (by omega)
         ·
          by_cases h1 : tr.getD k 0 ≤ allowAt ru k cn
          ·
           by_cases h2 : apartAt ru k cn ≤ af.getD k 0
           ·
            refine EC.regionQ (by kernel_rfl) (by kernel_rfl) ?_
            refine EQ.mv rfl rfl (EQ.mv rfl rfl (EQ.mg rfl rfl rfl rfl ?_));refine EQ.valg rfl rfl (fun _ hw => (ixa_93 rfl rfl hlk)) rfl ?_
            refine EQ.valg rfl rfl (fun _ hw => (ld_3 rfl (below_load hw (q7.cellA (ints_at hT.la hlk))))) rfl ?_
            refine EQ.valg rfl rfl (fun _ hw => (x_lss (r := false) rfl rfl (decide_eq_false h0))) rfl ?_
            refine EQ.mg rfl rfl rfl rfl (EQ.mg rfl rfl rfl rfl ?_);refine EQ.valg rfl rfl (fun _ hw => (ixa_93 rfl rfl hlk)) rfl ?_
            refine EQ.valg rfl rfl (fun _ hw => (ld_3 rfl (below_load hw (q6.cellA (ints_at hT.lt hlk))))) rfl ?_
            refine EQ.valg rfl rfl (fun _ hw => (fa_28_2 rfl)) rfl ?_
            refine EQ.valg rfl rfl (fun _ hw => (ld_25 rfl (below_load hw (q3.at (j := 3) rfl)))) rfl ?_
            refine EQ.mg rfl rfl rfl rfl ?_;refine EQ.valg rfl rfl (fun _ hw => (ix_25 (by show some (Value.slice Aa _ _) = _; rw [eAa]) rfl hba)) rfl ?_
            refine EQ.valg rfl rfl (fun _ hw => (ld_22 rfl (below_load hw a1_))) rfl ?_
            refine EQ.mg rfl rfl rfl rfl ?_;refine EQ.valg rfl rfl (fun _ hw => (ix_22 rfl rfl hca)) rfl ?_
            refine EQ.valg rfl rfl (fun _ hw => (ld_3 rfl (below_load hw a2_))) rfl ?_
            refine EQ.valg rfl rfl (fun _ hw => (x_leq (r := true) rfl rfl (decide_eq_true h1))) rfl ?_
            refine EQ.mg rfl rfl rfl rfl (EQ.mg rfl rfl rfl rfl ?_);refine EQ.valg rfl rfl (fun _ hw => (ixa_93 rfl rfl hlk)) rfl ?_
            refine EQ.valg rfl rfl (fun _ hw => (ld_3 rfl (below_load hw (q7.cellA (ints_at hT.la hlk))))) rfl ?_
            refine EQ.valg rfl rfl (fun _ hw => (fa_28_3 rfl)) rfl ?_
            refine EQ.valg rfl rfl (fun _ hw => (ld_25 rfl (below_load hw (q3.at (j := 4) rfl)))) rfl ?_
            refine EQ.mg rfl rfl rfl rfl ?_;refine EQ.valg rfl rfl (fun _ hw => (ix_25 (by show some (Value.slice Ap _ _) = _; rw [eAp]) rfl hbp)) rfl ?_
            refine EQ.valg rfl rfl (fun _ hw => (ld_22 rfl (below_load hw p1_))) rfl ?_
            refine EQ.mg rfl rfl rfl rfl ?_;refine EQ.valg rfl rfl (fun _ hw => (ix_22 rfl rfl hcp)) rfl ?_
            refine EQ.valg rfl rfl (fun _ hw => (ld_3 rfl (below_load hw p2_))) rfl ?_
            refine EQ.valg rfl rfl (fun _ hw => (x_geq (r := true) rfl rfl (decide_eq_true h2))) rfl ?_
            refine EQ.valg rfl rfl (fun _ hw => (x_pick_t rfl rfl)) rfl ?_
            refine EQ.valg rfl rfl (fun _ hw => (x_pick_f rfl rfl)) rfl ?_
            refine EQ.val (fun _ hw => (x_pick_t rfl rfl)) rfl ?_
            refine EQ.val (fun _ hw => (x_assign rfl)) rfl ?_
            refine EQ.fin (fun w21 hw_ => ?_)
            replace q1 := q1.bl hw_;replace q3 := q3.bl hw_;replace q6 := q6.bl hw_;replace q7 := q7.bl hw_;replace hx := own_below hx hw_ (Nat.le_refl _);replace hbw := bo_ hbw hw_;replace hbo := bo_ hbo hw_;replace hbl := bo_ hbl hw_;replace hbx := bo_ hbx hw_;clear hw_;refine EX.blk (EX.seq (EC.region (EL.mv rfl rfl ?_)));refine EL.val (x_add rfl rfl (c := ((k + 1 : Nat) : Int)) ((IntWalk.i64_in _ ⟨by first | omega | (simp only; omega), by first | omega | (simp only; omega)⟩).trans (by first | omega | (simp only; omega)))) rfl ?_
            refine EL.as rfl rfl (EL.nil ?_);refine EX.roundD (k + 1) ⟨agree_b (may_step true (by simp only [hm, h0, h1, h2, not_false_eq_true, decide_true, decide_false, Bool.true_and, Bool.false_and, Bool.and_true, Bool.and_false, Bool.or_true, Bool.true_or, Bool.or_false, Bool.false_or])) rfl, rfl, trivial⟩ (by repeat first | with_reducible exact .refl _ | refine sp_ rfl ?_ | exact .refl _ | refine sd_ rfl ?_ | refine sn_ ?_) ⟨hlk, q6, q7, hbx⟩ (by omega)
           ·
            refine EC.regionQ (by kernel_rfl) (by kernel_rfl) ?_
            refine EQ.mv rfl rfl (EQ.mv rfl rfl (EQ.mg rfl rfl rfl rfl ?_));refine EQ.valg rfl rfl (fun _ hw => (ixa_93 rfl rfl hlk)) rfl ?_
            refine EQ.valg rfl rfl (fun _ hw => (ld_3 rfl (below_load hw (q7.cellA (ints_at hT.la hlk))))) rfl ?_
            refine EQ.valg rfl rfl (fun _ hw => (x_lss (r := false) rfl rfl (decide_eq_false h0))) rfl ?_
            refine EQ.mg rfl rfl rfl rfl (EQ.mg rfl rfl rfl rfl ?_);refine EQ.valg rfl rfl (fun _ hw => (ixa_93 rfl rfl hlk)) rfl ?_
            refine EQ.valg rfl rfl (fun _ hw => (ld_3 rfl (below_load hw (q6.cellA (ints_at hT.lt hlk))))) rfl ?_
            refine EQ.valg rfl rfl (fun _ hw => (fa_28_2 rfl)) rfl ?_
            refine EQ.valg rfl rfl (fun _ hw => (ld_25 rfl (below_load hw (q3.at (j := 3) rfl)))) rfl ?_
            refine EQ.mg rfl rfl rfl rfl ?_;refine EQ.valg rfl rfl (fun _ hw => (ix_25 (by show some (Value.slice Aa _ _) = _; rw [eAa]) rfl hba)) rfl ?_
            refine EQ.valg rfl rfl (fun _ hw => (ld_22 rfl (below_load hw a1_))) rfl ?_
            refine EQ.mg rfl rfl rfl rfl ?_;refine EQ.valg rfl rfl (fun _ hw => (ix_22 rfl rfl hca)) rfl ?_
            refine EQ.valg rfl rfl (fun _ hw => (ld_3 rfl (below_load hw a2_))) rfl ?_
            refine EQ.valg rfl rfl (fun _ hw => (x_leq (r := true) rfl rfl (decide_eq_true h1))) rfl ?_
            refine EQ.mg rfl rfl rfl rfl (EQ.mg rfl rfl rfl rfl ?_);refine EQ.valg rfl rfl (fun _ hw => (ixa_93 rfl rfl hlk)) rfl ?_
            refine EQ.valg rfl rfl (fun _ hw => (ld_3 rfl (below_load hw (q7.cellA (ints_at hT.la hlk))))) rfl ?_
            refine EQ.valg rfl rfl (fun _ hw => (fa_28_3 rfl)) rfl ?_
            refine EQ.valg rfl rfl (fun _ hw => (ld_25 rfl (below_load hw (q3.at (j := 4) rfl)))) rfl ?_
            refine EQ.mg rfl rfl rfl rfl ?_;refine EQ.valg rfl rfl (fun _ hw => (ix_25 (by show some (Value.slice Ap _ _) = _; rw [eAp]) rfl hbp)) rfl ?_
            refine EQ.valg rfl rfl (fun _ hw => (ld_22 rfl (below_load hw p1_))) rfl ?_
            refine EQ.mg rfl rfl rfl rfl ?_;refine EQ.valg rfl rfl (fun _ hw => (ix_22 rfl rfl hcp)) rfl ?_
            refine EQ.valg rfl rfl (fun _ hw => (ld_3 rfl (below_load hw p2_))) rfl ?_
            refine EQ.valg rfl rfl (fun _ hw => (x_geq (r := false) rfl rfl (decide_eq_false h2))) rfl ?_
            refine EQ.valg rfl rfl (fun _ hw => (x_pick_t rfl rfl)) rfl ?_
            refine EQ.valg rfl rfl (fun _ hw => (x_pick_f rfl rfl)) rfl ?_
            refine EQ.val (fun _ hw => (x_pick_t rfl rfl)) rfl ?_
            refine EQ.val (fun _ hw => (x_assign rfl)) rfl ?_
            refine EQ.fin (fun w22 hw_ => ?_)
            replace q1 := q1.bl hw_;replace q3 := q3.bl hw_;replace q6 := q6.bl hw_;replace q7 := q7.bl hw_;replace hx := own_below hx hw_ (Nat.le_refl _);replace hbw := bo_ hbw hw_;replace hbo := bo_ hbo hw_;replace hbl := bo_ hbl hw_;replace hbx := bo_ hbx hw_;clear hw_;refine EX.blk (EX.seq (EC.region (EL.mv rfl rfl ?_)));refine EL.val (x_add rfl rfl (c := ((k + 1 : Nat) : Int)) ((IntWalk.i64_in _ ⟨by first | omega | (simp only; omega), by first | omega | (simp only; omega)⟩).trans (by first | omega | (simp only; omega)))) rfl ?_
            refine EL.as rfl rfl (EL.nil ?_);refine EX.roundD (k + 1) ⟨agree_b (may_step false (by simp only [hm, h0, h1, h2, not_false_eq_true, decide_true, decide_false, Bool.true_and, Bool.false_and, Bool.and_true, Bool.and_false, Bool.or_true, Bool.true_or, Bool.or_false, Bool.false_or])) rfl, rfl, trivial⟩ (by repeat first | with_reducible exact .refl _ | refine sp_ rfl ?_ | exact .refl _ | refine sd_ rfl ?_ | refine sn_ ?_) ⟨hlk, q6, q7, hbx⟩ (by omega)
          ·
           refine EC.regionQ (by kernel_rfl) (by kernel_rfl) ?_
           refine EQ.mv rfl rfl (EQ.mv rfl rfl (EQ.mg rfl rfl rfl rfl ?_));refine EQ.valg rfl rfl (fun _ hw => (ixa_93 rfl rfl hlk)) rfl ?_
           refine EQ.valg rfl rfl (fun _ hw => (ld_3 rfl (below_load hw (q7.cellA (ints_at hT.la hlk))))) rfl ?_
           refine EQ.valg rfl rfl (fun _ hw => (x_lss (r := false) rfl rfl (decide_eq_false h0))) rfl ?_
           refine EQ.mg rfl rfl rfl rfl (EQ.mg rfl rfl rfl rfl ?_);refine EQ.valg rfl rfl (fun _ hw => (ixa_93 rfl rfl hlk)) rfl ?_
           refine EQ.valg rfl rfl (fun _ hw => (ld_3 rfl (below_load hw (q6.cellA (ints_at hT.lt hlk))))) rfl ?_
           refine EQ.valg rfl rfl (fun _ hw => (fa_28_2 rfl)) rfl ?_
           refine EQ.valg rfl rfl (fun _ hw => (ld_25 rfl (below_load hw (q3.at (j := 3) rfl)))) rfl ?_
           refine EQ.mg rfl rfl rfl rfl ?_;refine EQ.valg rfl rfl (fun _ hw => (ix_25 (by show some (Value.slice Aa _ _) = _; rw [eAa]) rfl hba)) rfl ?_
           refine EQ.valg rfl rfl (fun _ hw => (ld_22 rfl (below_load hw a1_))) rfl ?_
           refine EQ.mg rfl rfl rfl rfl ?_;refine EQ.valg rfl rfl (fun _ hw => (ix_22 rfl rfl hca)) rfl ?_
           refine EQ.valg rfl rfl (fun _ hw => (ld_3 rfl (below_load hw a2_))) rfl ?_
           refine EQ.valg rfl rfl (fun _ hw => (x_leq (r := false) rfl rfl (decide_eq_false h1))) rfl ?_
           refine EQ.mg rfl rfl rfl rfl (EQ.skip rfl rfl rfl rfl (EQ.skip rfl rfl rfl rfl (EQ.skip rfl rfl rfl rfl (EQ.skip rfl rfl rfl rfl (EQ.skip rfl rfl rfl rfl (EQ.skip rfl rfl rfl rfl (EQ.skip rfl rfl rfl rfl (EQ.skip rfl rfl rfl rfl (EQ.skip rfl rfl rfl rfl ?_)))))))));refine EQ.skip rfl rfl rfl rfl (EQ.skip rfl rfl rfl rfl (EQ.skip rfl rfl rfl rfl ?_));refine EQ.valg rfl rfl (fun _ hw => (x_pick_f rfl rfl)) rfl ?_
           refine EQ.valg rfl rfl (fun _ hw => (x_pick_f rfl rfl)) rfl ?_
           refine EQ.val (fun _ hw => (x_pick_t rfl rfl)) rfl ?_
           refine EQ.val (fun _ hw => (x_assign rfl)) rfl ?_
           refine EQ.fin (fun w23 hw_ => ?_)
           replace q1 := q1.bl hw_;replace q3 := q3.bl hw_;replace q6 := q6.bl hw_;replace q7 := q7.bl hw_;replace hx := own_below hx hw_ (Nat.le_refl _);replace hbw := bo_ hbw hw_;replace hbo := bo_ hbo hw_;replace hbl := bo_ hbl hw_;replace hbx := bo_ hbx hw_;clear hw_;refine EX.blk (EX.seq (EC.region (EL.mv rfl rfl ?_)));refine EL.val (x_add rfl rfl (c := ((k + 1 : Nat) : Int)) ((IntWalk.i64_in _ ⟨by first | omega | (simp only; omega), by first | omega | (simp only; omega)⟩).trans (by first | omega | (simp only; omega)))) rfl ?_
           refine EL.as rfl rfl (EL.nil ?_);refine EX.roundD (k + 1) ⟨agree_b (may_step false (by simp only [hm, h0, h1, not_false_eq_true, decide_true, decide_false, Bool.true_and, Bool.false_and, Bool.and_true, Bool.and_false, Bool.or_true, Bool.true_or, Bool.or_false, Bool.false_or])) rfl, rfl, trivial⟩ (by repeat first | with_reducible exact .refl _ | refine sp_ rfl ?_ | exact .refl _ | refine sd_ rfl ?_ | refine sn_ ?_) ⟨hlk, q6, q7, hbx⟩ (by omega)
      ·
       obtain rfl : k = 4 := by omega
       refine EC.seq (EC.seq (EC.region (EL.mv rfl rfl ?_)));refine EL.val (x_lss rfl rfl (decide_eq_false (show ¬(((4 : Nat) : Int) < ((4 : Nat) : Int)) by omega))) rfl ?_
       refine EL.nil (EX.seq (EC.no rfl (EC.exit (EX.seq_exit (EX.seq_exit (EX.blk_here (EX.seq (EC.seq ?_))))))));obtain ⟨t1_, t2_, t3_, t4_⟩ := truth_may (c := cn) hT hro 4 (Nat.le_refl _);have hw3_ : way = 0 ∨ way = 1 ∨ way = 2 := by omega
       generalize mayT ru (afterT ru l) cn 4 = mm at t1_ t2_ t3_ t4_ ⊢
       generalize mayW ru tr af cn 4 = mw at t1_ t2_ t3_ t4_ ⊢
       obtain ⟨su, po⟩ := mm
       dsimp only at t1_ t2_ t3_ t4_
       cases su <;> cases mw <;> cases po
       ·
        rcases hw3_ with hw | hw | hw
        ·
         refine EC.region (EL.mv rfl rfl (EL.mv rfl rfl (EL.skip rfl rfl rfl rfl (EL.skip rfl rfl rfl rfl (EL.pf rfl rfl rfl (EL.mv rfl rfl (EL.mg rfl rfl rfl rfl (EL.mg rfl rfl rfl rfl (EL.skip rfl rfl rfl rfl ?_)))))))));refine EL.skip rfl rfl rfl rfl (EL.valg rfl rfl (x_pick_f rfl rfl) rfl (EL.pf rfl rfl rfl (EL.mv rfl rfl (EL.mg rfl rfl rfl rfl ?_))));refine EL.valg rfl rfl (x_eql (r := true) rfl rfl (decide_eq_true (by omega))) rfl ?_
         refine EL.mg rfl rfl rfl rfl (EL.mg rfl rfl rfl rfl (EL.mg rfl rfl rfl rfl ?_));refine EL.valg rfl rfl (x_neqB2 (r := false) rfl rfl (by decide)) rfl ?_
         refine EL.valg rfl rfl (x_pick_t rfl rfl) rfl (EL.pf rfl rfl rfl (EL.mv rfl rfl (EL.mg rfl rfl rfl rfl ?_)));refine EL.valg rfl rfl (x_eql (r := false) rfl rfl (decide_eq_false (by omega))) rfl ?_
         refine EL.mg rfl rfl rfl rfl (EL.skip rfl rfl rfl rfl (EL.skip rfl rfl rfl rfl (EL.skip rfl rfl rfl rfl (EL.valg rfl rfl (x_pick_f rfl rfl) rfl (EL.pf rfl rfl rfl (EL.nil (EX.seq (EC.no rfl (EC.skip ?_)))))))));refine EX.blk (EX.seq (EC.region (EL.mv rfl rfl ?_)));refine EL.val (x_add rfl rfl (c := ((way + 1 : Nat) : Int)) ((IntWalk.i64_in _ ⟨by first | omega | (simp only; omega), by first | omega | (simp only; omega)⟩).trans (by first | omega | (simp only; omega)))) rfl ?_
         refine EL.as rfl rfl (EL.nil ?_);refine EX.roundD (way + 1) ⟨rfl, trivial⟩ (by repeat first | with_reducible exact .refl _ | refine sp_ rfl ?_ | exact .refl _ | refine sd_ rfl ?_ | refine sn_ ?_) ⟨hlw, hbl⟩ (by omega)
        ·
         refine EC.region (EL.mv rfl rfl (EL.mv rfl rfl (EL.skip rfl rfl rfl rfl (EL.skip rfl rfl rfl rfl (EL.pf rfl rfl rfl (EL.mv rfl rfl (EL.mg rfl rfl rfl rfl (EL.mg rfl rfl rfl rfl (EL.skip rfl rfl rfl rfl ?_)))))))));refine EL.skip rfl rfl rfl rfl (EL.valg rfl rfl (x_pick_f rfl rfl) rfl (EL.pf rfl rfl rfl (EL.mv rfl rfl (EL.mg rfl rfl rfl rfl ?_))));refine EL.valg rfl rfl (x_eql (r := false) rfl rfl (decide_eq_false (by omega))) rfl ?_
         refine EL.mg rfl rfl rfl rfl (EL.skip rfl rfl rfl rfl (EL.skip rfl rfl rfl rfl (EL.skip rfl rfl rfl rfl (EL.valg rfl rfl (x_pick_f rfl rfl) rfl (EL.pf rfl rfl rfl (EL.mv rfl rfl (EL.mg rfl rfl rfl rfl ?_)))))));refine EL.valg rfl rfl (x_eql (r := true) rfl rfl (decide_eq_true (by omega))) rfl ?_
         refine EL.mg rfl rfl rfl rfl (EL.mg rfl rfl rfl rfl (EL.mg rfl rfl rfl rfl ?_));refine EL.valg rfl rfl (x_neqB2 (r := false) rfl rfl (by decide)) rfl ?_
         refine EL.valg rfl rfl (x_pick_t rfl rfl) rfl (EL.pf rfl rfl rfl (EL.nil (EX.seq (EC.no rfl (EC.skip (EX.blk (EX.seq (EC.region (EL.mv rfl rfl ?_)))))))));refine EL.val (x_add rfl rfl (c := ((way + 1 : Nat) : Int)) ((IntWalk.i64_in _ ⟨by first | omega | (simp only; omega), by first | omega | (simp only; omega)⟩).trans (by first | omega | (simp only; omega)))) rfl ?_
         refine EL.as rfl rfl (EL.nil ?_);refine EX.roundD (way + 1) ⟨rfl, trivial⟩ (by repeat first | with_reducible exact .refl _ | refine sp_ rfl ?_ | exact .refl _ | refine sd_ rfl ?_ | refine sn_ ?_) ⟨hlw, hbl⟩ (by omega)
        ·
         refine EC.region (EL.mv rfl rfl (EL.mv rfl rfl (EL.skip rfl rfl rfl rfl (EL.skip rfl rfl rfl rfl (EL.pf rfl rfl rfl (EL.mv rfl rfl (EL.mg rfl rfl rfl rfl (EL.mg rfl rfl rfl rfl (EL.skip rfl rfl rfl rfl ?_)))))))));refine EL.skip rfl rfl rfl rfl (EL.valg rfl rfl (x_pick_f rfl rfl) rfl (EL.pf rfl rfl rfl (EL.mv rfl rfl (EL.mg rfl rfl rfl rfl ?_))));refine EL.valg rfl rfl (x_eql (r := false) rfl rfl (decide_eq_false (by omega))) rfl ?_
         refine EL.mg rfl rfl rfl rfl (EL.skip rfl rfl rfl rfl (EL.skip rfl rfl rfl rfl (EL.skip rfl rfl rfl rfl (EL.valg rfl rfl (x_pick_f rfl rfl) rfl (EL.pf rfl rfl rfl (EL.mv rfl rfl (EL.mg rfl rfl rfl rfl ?_)))))));refine EL.valg rfl rfl (x_eql (r := false) rfl rfl (decide_eq_false (by omega))) rfl ?_
         refine EL.mg rfl rfl rfl rfl (EL.skip rfl rfl rfl rfl (EL.skip rfl rfl rfl rfl (EL.skip rfl rfl rfl rfl (EL.valg rfl rfl (x_pick_f rfl rfl) rfl (EL.pf rfl rfl rfl (EL.nil (EX.seq (EC.no rfl (EC.skip ?_)))))))));refine EX.blk (EX.seq (EC.region (EL.mv rfl rfl ?_)));refine EL.val (x_add rfl rfl (c := ((way + 1 : Nat) : Int)) ((IntWalk.i64_in _ ⟨by first | omega | (simp only; omega), by first | omega | (simp only; omega)⟩).trans (by first | omega | (simp only; omega)))) rfl ?_
         refine EL.as rfl rfl (EL.nil ?_);refine EX.roundD (way + 1) ⟨rfl, trivial⟩ (by repeat first | with_reducible exact .refl _ | refine sp_ rfl ?_ | exact .refl _ | refine sd_ rfl ?_ | refine sn_ ?_) ⟨hlw, hbl⟩ (by omega)
       ·
        rcases hw3_ with hw | hw | hw
        ·
         refine EC.region (EL.mv rfl rfl (EL.mv rfl rfl (EL.skip rfl rfl rfl rfl (EL.skip rfl rfl rfl rfl (EL.pf rfl rfl rfl (EL.mv rfl rfl (EL.mg rfl rfl rfl rfl (EL.mg rfl rfl rfl rfl (EL.skip rfl rfl rfl rfl ?_)))))))));refine EL.skip rfl rfl rfl rfl (EL.valg rfl rfl (x_pick_f rfl rfl) rfl (EL.pf rfl rfl rfl (EL.mv rfl rfl (EL.mg rfl rfl rfl rfl ?_))));refine EL.valg rfl rfl (x_eql (r := true) rfl rfl (decide_eq_true (by omega))) rfl ?_
         refine EL.mg rfl rfl rfl rfl (EL.mg rfl rfl rfl rfl (EL.mg rfl rfl rfl rfl ?_));refine EL.valg rfl rfl (x_neqB2 (r := false) rfl rfl (by decide)) rfl ?_
         refine EL.valg rfl rfl (x_pick_t rfl rfl) rfl (EL.pf rfl rfl rfl (EL.mv rfl rfl (EL.mg rfl rfl rfl rfl ?_)));refine EL.valg rfl rfl (x_eql (r := false) rfl rfl (decide_eq_false (by omega))) rfl ?_
         refine EL.mg rfl rfl rfl rfl (EL.skip rfl rfl rfl rfl (EL.skip rfl rfl rfl rfl (EL.skip rfl rfl rfl rfl (EL.valg rfl rfl (x_pick_f rfl rfl) rfl (EL.pf rfl rfl rfl (EL.nil (EX.seq (EC.no rfl (EC.skip ?_)))))))));refine EX.blk (EX.seq (EC.region (EL.mv rfl rfl ?_)));refine EL.val (x_add rfl rfl (c := ((way + 1 : Nat) : Int)) ((IntWalk.i64_in _ ⟨by first | omega | (simp only; omega), by first | omega | (simp only; omega)⟩).trans (by first | omega | (simp only; omega)))) rfl ?_
         refine EL.as rfl rfl (EL.nil ?_);refine EX.roundD (way + 1) ⟨rfl, trivial⟩ (by repeat first | with_reducible exact .refl _ | refine sp_ rfl ?_ | exact .refl _ | refine sd_ rfl ?_ | refine sn_ ?_) ⟨hlw, hbl⟩ (by omega)
        ·exact absurd (t4_ hw) (by decide)
        ·
         refine EC.region (EL.mv rfl rfl (EL.mv rfl rfl (EL.skip rfl rfl rfl rfl (EL.skip rfl rfl rfl rfl (EL.pf rfl rfl rfl (EL.mv rfl rfl (EL.mg rfl rfl rfl rfl (EL.mg rfl rfl rfl rfl (EL.skip rfl rfl rfl rfl ?_)))))))));refine EL.skip rfl rfl rfl rfl (EL.valg rfl rfl (x_pick_f rfl rfl) rfl (EL.pf rfl rfl rfl (EL.mv rfl rfl (EL.mg rfl rfl rfl rfl ?_))));refine EL.valg rfl rfl (x_eql (r := false) rfl rfl (decide_eq_false (by omega))) rfl ?_
         refine EL.mg rfl rfl rfl rfl (EL.skip rfl rfl rfl rfl (EL.skip rfl rfl rfl rfl (EL.skip rfl rfl rfl rfl (EL.valg rfl rfl (x_pick_f rfl rfl) rfl (EL.pf rfl rfl rfl (EL.mv rfl rfl (EL.mg rfl rfl rfl rfl ?_)))))));refine EL.valg rfl rfl (x_eql (r := false) rfl rfl (decide_eq_false (by omega))) rfl ?_
         refine EL.mg rfl rfl rfl rfl (EL.skip rfl rfl rfl rfl (EL.skip rfl rfl rfl rfl (EL.skip rfl rfl rfl rfl (EL.valg rfl rfl (x_pick_f rfl rfl) rfl (EL.pf rfl rfl rfl (EL.nil (EX.seq (EC.no rfl (EC.skip ?_)))))))));refine EX.blk (EX.seq (EC.region (EL.mv rfl rfl ?_)));refine EL.val (x_add rfl rfl (c := ((way + 1 : Nat) : Int)) ((IntWalk.i64_in _ ⟨by first | omega | (simp only; omega), by first | omega | (simp only; omega)⟩).trans (by first | omega | (simp only; omega)))) rfl ?_
         refine EL.as rfl rfl (EL.nil ?_);refine EX.roundD (way + 1) ⟨rfl, trivial⟩ (by repeat first | with_reducible exact .refl _ | refine sp_ rfl ?_ | exact .refl _ | refine sd_ rfl ?_ | refine sn_ ?_) ⟨hlw, hbl⟩ (by omega)
       ·exact absurd (t2_ rfl) (by decide)
       ·
        rcases hw3_ with hw | hw | hw
        ·exact absurd (t3_ hw) (by decide)
        ·
         refine EC.region (EL.mv rfl rfl (EL.mv rfl rfl (EL.skip rfl rfl rfl rfl (EL.skip rfl rfl rfl rfl (EL.pf rfl rfl rfl (EL.mv rfl rfl (EL.mg rfl rfl rfl rfl (EL.mg rfl rfl rfl rfl (EL.mg rfl rfl rfl rfl ?_)))))))));refine EL.valg rfl rfl (x_not rfl) rfl (EL.valg rfl rfl (x_pick_t rfl rfl) rfl (EL.pf rfl rfl rfl (EL.mv rfl rfl (EL.mg rfl rfl rfl rfl ?_))));refine EL.valg rfl rfl (x_eql (r := false) rfl rfl (decide_eq_false (by omega))) rfl ?_
         refine EL.mg rfl rfl rfl rfl (EL.skip rfl rfl rfl rfl (EL.skip rfl rfl rfl rfl (EL.skip rfl rfl rfl rfl (EL.valg rfl rfl (x_pick_f rfl rfl) rfl (EL.pf rfl rfl rfl (EL.mv rfl rfl (EL.mg rfl rfl rfl rfl ?_)))))));refine EL.valg rfl rfl (x_eql (r := true) rfl rfl (decide_eq_true (by omega))) rfl ?_
         refine EL.mg rfl rfl rfl rfl (EL.mg rfl rfl rfl rfl (EL.mg rfl rfl rfl rfl ?_));refine EL.valg rfl rfl (x_neqB2 (r := false) rfl rfl (by decide)) rfl ?_
         refine EL.valg rfl rfl (x_pick_t rfl rfl) rfl (EL.pf rfl rfl rfl (EL.nil (EX.seq (EC.no rfl (EC.skip (EX.blk (EX.seq (EC.region (EL.mv rfl rfl ?_)))))))));refine EL.val (x_add rfl rfl (c := ((way + 1 : Nat) : Int)) ((IntWalk.i64_in _ ⟨by first | omega | (simp only; omega), by first | omega | (simp only; omega)⟩).trans (by first | omega | (simp only; omega)))) rfl ?_
         refine EL.as rfl rfl (EL.nil ?_);refine EX.roundD (way + 1) ⟨rfl, trivial⟩ (by repeat first | with_reducible exact .refl _ | refine sp_ rfl ?_ | exact .refl _ | refine sd_ rfl ?_ | refine sn_ ?_) ⟨hlw, hbl⟩ (by omega)
        ·
         refine EC.region (EL.mv rfl rfl (EL.mv rfl rfl (EL.skip rfl rfl rfl rfl (EL.skip rfl rfl rfl rfl (EL.pf rfl rfl rfl (EL.mv rfl rfl (EL.mg rfl rfl rfl rfl (EL.mg rfl rfl rfl rfl (EL.mg rfl rfl rfl rfl ?_)))))))));refine EL.valg rfl rfl (x_not rfl) rfl (EL.valg rfl rfl (x_pick_t rfl rfl) rfl (EL.pf rfl rfl rfl (EL.mv rfl rfl (EL.mg rfl rfl rfl rfl ?_))));refine EL.valg rfl rfl (x_eql (r := false) rfl rfl (decide_eq_false (by omega))) rfl ?_
         refine EL.mg rfl rfl rfl rfl (EL.skip rfl rfl rfl rfl (EL.skip rfl rfl rfl rfl (EL.skip rfl rfl rfl rfl (EL.valg rfl rfl (x_pick_f rfl rfl) rfl (EL.pf rfl rfl rfl (EL.mv rfl rfl (EL.mg rfl rfl rfl rfl ?_)))))));refine EL.valg rfl rfl (x_eql (r := false) rfl rfl (decide_eq_false (by omega))) rfl ?_
         refine EL.mg rfl rfl rfl rfl (EL.skip rfl rfl rfl rfl (EL.skip rfl rfl rfl rfl (EL.skip rfl rfl rfl rfl (EL.valg rfl rfl (x_pick_f rfl rfl) rfl (EL.pf rfl rfl rfl (EL.nil (EX.seq (EC.no rfl (EC.skip ?_)))))))));refine EX.blk (EX.seq (EC.region (EL.mv rfl rfl ?_)));refine EL.val (x_add rfl rfl (c := ((way + 1 : Nat) : Int)) ((IntWalk.i64_in _ ⟨by first | omega | (simp only; omega), by first | omega | (simp only; omega)⟩).trans (by first | omega | (simp only; omega)))) rfl ?_
         refine EL.as rfl rfl (EL.nil ?_);refine EX.roundD (way + 1) ⟨rfl, trivial⟩ (by repeat first | with_reducible exact .refl _ | refine sp_ rfl ?_ | exact .refl _ | refine sd_ rfl ?_ | refine sn_ ?_) ⟨hlw, hbl⟩ (by omega)
       ·exact absurd (t1_ rfl) (by decide)
       ·exact absurd (t1_ rfl) (by decide)
       ·exact absurd (t2_ rfl) (by decide)
       ·
        rcases hw3_ with hw | hw | hw
        ·
         refine EC.region (EL.mv rfl rfl (EL.mv rfl rfl (EL.mg rfl rfl rfl rfl (EL.valg rfl rfl (x_not rfl) rfl (EL.pt rfl rfl rfl (EL.mv rfl rfl (EL.mg rfl rfl rfl rfl (EL.mg rfl rfl rfl rfl (EL.mg rfl rfl rfl rfl ?_)))))))));refine EL.valg rfl rfl (x_not rfl) rfl (EL.valg rfl rfl (x_pick_t rfl rfl) rfl (EL.pf rfl rfl rfl (EL.mv rfl rfl (EL.mg rfl rfl rfl rfl ?_))));refine EL.valg rfl rfl (x_eql (r := true) rfl rfl (decide_eq_true (by omega))) rfl ?_
         refine EL.mg rfl rfl rfl rfl (EL.mg rfl rfl rfl rfl (EL.mg rfl rfl rfl rfl ?_));refine EL.valg rfl rfl (x_neqB2 (r := false) rfl rfl (by decide)) rfl ?_
         refine EL.valg rfl rfl (x_pick_t rfl rfl) rfl (EL.pf rfl rfl rfl (EL.mv rfl rfl (EL.mg rfl rfl rfl rfl ?_)));refine EL.valg rfl rfl (x_eql (r := false) rfl rfl (decide_eq_false (by omega))) rfl ?_
         refine EL.mg rfl rfl rfl rfl (EL.skip rfl rfl rfl rfl (EL.skip rfl rfl rfl rfl (EL.skip rfl rfl rfl rfl (EL.valg rfl rfl (x_pick_f rfl rfl) rfl (EL.pf rfl rfl rfl (EL.nil (EX.seq (EC.no rfl (EC.skip ?_)))))))));refine EX.blk (EX.seq (EC.region (EL.mv rfl rfl ?_)));refine EL.val (x_add rfl rfl (c := ((way + 1 : Nat) : Int)) ((IntWalk.i64_in _ ⟨by first | omega | (simp only; omega), by first | omega | (simp only; omega)⟩).trans (by first | omega | (simp only; omega)))) rfl ?_
         refine EL.as rfl rfl (EL.nil ?_);refine EX.roundD (way + 1) ⟨rfl, trivial⟩ (by repeat first | with_reducible exact .refl _ | refine sp_ rfl ?_ | exact .refl _ | refine sd_ rfl ?_ | refine sn_ ?_) ⟨hlw, hbl⟩ (by omega)
        ·
         refine EC.region (EL.mv rfl rfl (EL.mv rfl rfl (EL.mg rfl rfl rfl rfl (EL.valg rfl rfl (x_not rfl) rfl (EL.pt rfl rfl rfl (EL.mv rfl rfl (EL.mg rfl rfl rfl rfl (EL.mg rfl rfl rfl rfl (EL.mg rfl rfl rfl rfl ?_)))))))));refine EL.valg rfl rfl (x_not rfl) rfl (EL.valg rfl rfl (x_pick_t rfl rfl) rfl (EL.pf rfl rfl rfl (EL.mv rfl rfl (EL.mg rfl rfl rfl rfl ?_))));refine EL.valg rfl rfl (x_eql (r := false) rfl rfl (decide_eq_false (by omega))) rfl ?_
         refine EL.mg rfl rfl rfl rfl (EL.skip rfl rfl rfl rfl (EL.skip rfl rfl rfl rfl (EL.skip rfl rfl rfl rfl (EL.valg rfl rfl (x_pick_f rfl rfl) rfl (EL.pf rfl rfl rfl (EL.mv rfl rfl (EL.mg rfl rfl rfl rfl ?_)))))));refine EL.valg rfl rfl (x_eql (r := true) rfl rfl (decide_eq_true (by omega))) rfl ?_
         refine EL.mg rfl rfl rfl rfl (EL.mg rfl rfl rfl rfl (EL.mg rfl rfl rfl rfl ?_));refine EL.valg rfl rfl (x_neqB2 (r := false) rfl rfl (by decide)) rfl ?_
         refine EL.valg rfl rfl (x_pick_t rfl rfl) rfl (EL.pf rfl rfl rfl (EL.nil (EX.seq (EC.no rfl (EC.skip (EX.blk (EX.seq (EC.region (EL.mv rfl rfl ?_)))))))));refine EL.val (x_add rfl rfl (c := ((way + 1 : Nat) : Int)) ((IntWalk.i64_in _ ⟨by first | omega | (simp only; omega), by first | omega | (simp only; omega)⟩).trans (by first | omega | (simp only; omega)))) rfl ?_
         refine EL.as rfl rfl (EL.nil ?_);refine EX.roundD (way + 1) ⟨rfl, trivial⟩ (by repeat first | with_reducible exact .refl _ | refine sp_ rfl ?_ | exact .refl _ | refine sd_ rfl ?_ | refine sn_ ?_) ⟨hlw, hbl⟩ (by omega)
        ·
         refine EC.region (EL.mv rfl rfl (EL.mv rfl rfl (EL.mg rfl rfl rfl rfl (EL.valg rfl rfl (x_not rfl) rfl (EL.pt rfl rfl rfl (EL.mv rfl rfl (EL.mg rfl rfl rfl rfl (EL.mg rfl rfl rfl rfl (EL.mg rfl rfl rfl rfl ?_)))))))));refine EL.valg rfl rfl (x_not rfl) rfl (EL.valg rfl rfl (x_pick_t rfl rfl) rfl (EL.pf rfl rfl rfl (EL.mv rfl rfl (EL.mg rfl rfl rfl rfl ?_))));refine EL.valg rfl rfl (x_eql (r := false) rfl rfl (decide_eq_false (by omega))) rfl ?_
         refine EL.mg rfl rfl rfl rfl (EL.skip rfl rfl rfl rfl (EL.skip rfl rfl rfl rfl (EL.skip rfl rfl rfl rfl (EL.valg rfl rfl (x_pick_f rfl rfl) rfl (EL.pf rfl rfl rfl (EL.mv rfl rfl (EL.mg rfl rfl rfl rfl ?_)))))));refine EL.valg rfl rfl (x_eql (r := false) rfl rfl (decide_eq_false (by omega))) rfl ?_
         refine EL.mg rfl rfl rfl rfl (EL.skip rfl rfl rfl rfl (EL.skip rfl rfl rfl rfl (EL.skip rfl rfl rfl rfl (EL.valg rfl rfl (x_pick_f rfl rfl) rfl (EL.pf rfl rfl rfl (EL.nil (EX.seq (EC.no rfl (EC.skip ?_)))))))));refine EX.blk (EX.seq (EC.region (EL.mv rfl rfl ?_)));refine EL.val (x_add rfl rfl (c := ((way + 1 : Nat) : Int)) ((IntWalk.i64_in _ ⟨by first | omega | (simp only; omega), by first | omega | (simp only; omega)⟩).trans (by first | omega | (simp only; omega)))) rfl ?_
         refine EL.as rfl rfl (EL.nil ?_);refine EX.roundD (way + 1) ⟨rfl, trivial⟩ (by repeat first | with_reducible exact .refl _ | refine sp_ rfl ?_ | exact .refl _ | refine sd_ rfl ?_ | refine sn_ ?_) ⟨hlw, hbl⟩ (by omega)
    ·
     obtain rfl : way = 3 := by omega
     refine EC.seq (EC.seq (EC.region (EL.mv rfl rfl ?_)));refine EL.val (x_lss rfl rfl (decide_eq_false (show ¬(((3 : Nat) : Int) < ((3 : Nat) : Int)) by omega))) rfl ?_
     refine EL.nil (EX.seq (EC.no rfl (EC.exit (EX.seq_exit (EX.seq_exit (EX.blk_here (EX.seq (EC.seq (EC.region ?_)))))))));refine EL.call (cA0 cF12) rfl (known_any _) ?_
     rintro e w24 ⟨rfl, hc24⟩
     refine ⟨_, rfl, ?_⟩;replace q1 := q1.bl hc24;replace q3 := q3.bl hc24;replace hx := own_below hx hc24 (Nat.le_refl _);replace hb8 := own_below hb8 hc24 (Nat.le_refl _);replace hbw := bo_ hbw hc24;replace hbo := bo_ hbo hc24;replace hbl := bo_ hbl hc24;replace hbx := bo_ hbx hc24;clear hc24;refine EL.as rfl rfl (EL.nil (EX.seq (EC.ret ?_)))
     exact EX.done (res1 rfl rfl) ⟨rfl, hbw⟩
end Go.Proofs.Ytdkedhcbdbpccaa
