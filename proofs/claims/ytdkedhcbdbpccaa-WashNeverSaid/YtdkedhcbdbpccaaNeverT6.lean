/- X42: what WashNeverProof needs of them (merged by trimpack.py). -/
import Derived.Test.YtdkedhcbdbpccaaNeverT5
set_option linter.unusedVariables false
set_option linter.unusedSimpArgs false
namespace Go.Proofs.Ytdkedhcbdbpccaa
open Go Go.RowKit
def evK (k : Int) : List Ev := if 0 ≤ k then [⟨2, k⟩] else []
theorem evK_yes {k : Int} (h : 0 ≤ k) : evK k = [⟨2, k⟩] := if_pos h
theorem evK_no {k : Int} (h : ¬0 ≤ k) : evK k = [] := if_neg h
theorem evK_len (k : Int) : (evK k).length ≤ 1 := by
 unfold evK
 split <;> simp
theorem numK_yes {k : Int} (h : 0 ≤ k) : numK k = 1 := if_neg (by omega)
theorem numK_no {k : Int} (h : ¬0 ≤ k) : numK k = 0 := if_pos (by omega)
theorem kcost_no {ru : Rules} {k : Int} (h : ¬0 ≤ k) : kcost ru k = 0 := if_pos (by omega)
theorem kcost_nat {ru : Rules} {k : Nat} : kcost ru ((k : Nat) : Int) = (ru.kinds.getD k kd0).cost := by
 unfold kcost
 rw [if_neg (by omega), Int.toNat_natCast]
theorem evs_next {l : List Ev} {ws js : List Int} {i : Nat} : l ++ evsP ws js (i + 1) = l ++ evsP ws js i ++ evK (ws.getD i 0) ++ [⟨1, js.getD i 0⟩] := by
 rw [evsP_succ]
 simp [evP, evK]
theorem stps_app (a b : List Stp) : stpsC (a ++ b) = stpsC a ++ stpsC b := List.flatMap_append
theorem own_ev {W : World} {base : Nat} {v : Value} {L : List Ev} {a b : Int} (h : W.ownsRow base 50 2 v (L.length + 1) (evsC L ++ [.int .i64 a, .int .i64 b])) : W.ownsRow base 50 2 v (L ++ [(⟨a, b⟩ : Ev)]).length (evsC (L ++ [(⟨a, b⟩ : Ev)])) := by
 rw [evsC_app, List.length_append]
 exact h
theorem cell_on {B : Nat} {w w' : World} {p : Addr} {v : Value} (hb : Below B w w') (hp : p.block < B) (h : w.cell? p = some v) : w'.cell? p = some v := (hb.cell hp).trans h
theorem aud_len2 {r : Rules} (h : RulesOk r) {l : List Ev} (hl : l.length ≤ 100) : (audE r l).length ≤ 800 := by
 unfold audE
 split
 ·have h1 := audL_len (ru := r) (l := l) (n := l.length)
  have h2 := h.n8;have h3 : l.length * r.levels.length ≤ 100 * 8 := Nat.mul_le_mul hl h2
  omega
 ·simp
def VG (ru : Rules) (l : List Ev) (js vs : List Int) : Int × Int × Int := verG (goT ru) (kcost ru) (js.map Int.toNat) (vs.map stp1) 0 (st3 ru l) 0 0
theorem ver_got {ru : Rules} {l : List Ev} {js ws : List Int} {c : Int} (h : PlanOk ru l js ws c) : VG ru l js ws = (-1, numW ws, costW ru ws) := by
 unfold VG
 rw [ver_run _ _ _ _ _ _ h.run, Int.zero_add, Int.zero_add]
theorem kinds_set {K : Nat} {ws : List Int} (h : ∀ k ∈ ws, k ∈ kindsL K) (m : Nat) : ∀ k ∈ ws.set m (-1), k ∈ kindsL K := fun k hk => by
 rcases List.mem_or_eq_of_mem_set hk with hx | rfl
 ·exact h k hx
 ·exact List.mem_cons_self ..
theorem le_one {w : World} {g : Nat} {v : Value} {l : List Ev} (hq : Blk w g 29 #[v]) (hr : Rd w w.heap.size 2 v l.length (evsC l)) : RdLL evC 2 w w.heap.size (.slice (some ⟨g, 0, none⟩) 1 1) [l] [v] :=
 ⟨rfl, rd_one (l := [v]) hq rfl, fun i hi => by
  obtain rfl : i = 0 := by simpa using hi
  exact hr⟩
theorem Ver_to {ru : Rules} {ua up : List Value} {vl va vp vk : Value} {w : World} {B : Nat} (hr : RdRules w B vl va vp vk ru ua up) (hB : B ≤ w.heap.size) (hs : Short ru) {l : List Ev} (hrb : rulesB ru = true) (hz : refE ru l = 0) (hl : l.length ≤ 1048576) {js vs : List Int} (hj : jobsE ru js 10 = 0) (h6 : js.length ≤ 6) {vt : Value} {ut : List Value} (ht : RdLL evC 2 w B vt [l] ut) {vj : Value} (hv : Rd w B 1 vj js.length (ints js)) (hvl : vs.length = js.length) (hk : ∀ k ∈ vs, k ∈ kindsL ru.kinds.length) {vst : Value} (hst : Rd w B 2 vst (vs.map stp1).length (stpsC (vs.map stp1))) :
  Calls Try.prog 40 #[rulesV vl va vp vk ru, vt, vj, vst] w fun e w' => e = .returned (.tuple #[.int .i64 (VG ru l js vs).1, .int .i64 (VG ru l js vs).2.1, .int .i64 (VG ru l js vs).2.2, .int .i64 0]) ∧ Below w.heap.size w w' := (Verify_any hr hB hs ht (fun i hi => by
  obtain rfl : i = 0 := by simpa using hi
  exact hl) (by simp) hv (by omega) hst (by rw [List.length_map]; omega)).mono fun e w' ⟨h1, hb⟩ => by
 obtain ⟨e1, e2⟩ := ver_one (vs := vs) hrb hz hj h6 hvl hk;rw [e1, e2] at h1
 exact ⟨h1, hb⟩
theorem spl_stp {ws : List Int} {m : Nat} (h : m < ws.length) : spl (stpsC (ws.map stp1)) (0 + m * 2 + 1) [.int .i64 (-1)] = stpsC ((ws.set m (-1)).map stp1) := by
 have e : ws = ws.take m ++ ws.getD m 0 :: ws.drop (m + 1) := by
  rw [getD_in h, ← List.drop_eq_getElem_cons h, List.take_append_drop]
 have h1 : stpsC (ws.map stp1) = stpsC ((ws.take m).map stp1) ++ (stpC (stp1 (ws.getD m 0)) ++ stpsC ((ws.drop (m + 1)).map stp1)) := by
  conv => lhs; rw [e]
  unfold stpsC
  rw [List.map_append, List.map_cons, List.flatMap_append, List.flatMap_cons]
 have h2 : (stpsC ((ws.take m).map stp1)).length = 0 + m * 2 := by rw [stpsC_len, List.length_map, List.length_take, Nat.min_eq_left (by omega), Nat.zero_add]
 have h3 : ws.set m (-1) = ws.take m ++ (-1) :: ws.drop (m + 1) := by rw [List.set_eq_take_append_cons_drop, if_pos h]
 rw [h3]
 conv => lhs; rw [h1, ← h2]
 rw [show spl (stpsC ((ws.take m).map stp1) ++ (stpC (stp1 (ws.getD m 0)) ++ stpsC ((ws.drop (m + 1)).map stp1))) ((stpsC ((ws.take m).map stp1)).length + 1) [.int .i64 (-1)] = stpsC ((ws.take m).map stp1) ++ spl (stpC (stp1 (ws.getD m 0)) ++ stpsC ((ws.drop (m + 1)).map stp1)) 1 [.int .i64 (-1)] from spl_app_r _ _ _ 1 (by simp [stpC])]
 unfold stpsC
 rw [List.map_append, List.map_cons, List.flatMap_append, List.flatMap_cons]
 generalize (List.map stp1 (List.drop (m + 1) ws)).flatMap stpC = c
 cases c <;> rfl
theorem mono_rd2 {i z n : Nat} {xs : List Value} : Mono fun r w => ∃ v, r i = v ∧ Rd w w.heap.size z v n xs := fun _ _ _ hb ⟨v, h1, h2⟩ => ⟨v, h1, (h2.below hb).more hb.size⟩
theorem tupA3 {a b c d e f_ : Value} (h : Value.tuple #[a, b, e] = .tuple #[c, d, f_]) : a = c := by
 injection h with h
 have h := congrArg Array.toList h
 simp at h
 exact h.1
theorem tupA4 {a b c d e f_ g k : Value} (h : Value.tuple #[a, b, e, g] = .tuple #[c, d, f_, k]) : a = c ∧ b = d := by
 injection h with h
 have h := congrArg Array.toList h
 simp at h
 exact ⟨h.1, h.2.1⟩
theorem atS_zero0 {ru : Rules} {l : List Ev} {js : List Int} (h : codeS ru l js = 0) : atS ru l js = 0 := by
 unfold codeS at h
 unfold atS
 split
 ·rename_i h1
  rw [if_pos h1] at h
  split
  ·rename_i h2
   rw [if_pos h2] at h
   exact absurd h (by decide)
  ·rfl
 ·rfl
theorem own_capV {W : World} {base e n c : Nat} {A : Option Addr} {xs : List Value} (h : W.ownsRow base e 1 (.slice A n c) n xs) : n ≤ c := by
 obtain ⟨A', c', e, h⟩ := (Rd.of_own h).shape
 injection e with _ _ e
 omega
theorem rd_takeW {w : World} {B b o n c k : Nat} {js : List Int} (h : Rd w B 1 (.slice (some ⟨b, o, none⟩) n c) n (ints js)) (hk : k ≤ n) : Rd w B 1 (.slice (some ⟨b, o, none⟩) k c) k (ints (js.take k)) := by
 have e : ints (js.take k) = (ints js).take k := by unfold ints; rw [List.map_take]
 rw [e];obtain ⟨hl, A, c', e, hc, hr⟩ := h
 injection e with e1 _ e3
 subst e1;subst e3;refine ⟨by rw [List.length_take]; omega, _, _, rfl, by omega, fun h0 => ?_⟩
 obtain ⟨b', o', e, hb, hcell⟩ := hr (by omega)
 refine ⟨b', o', e, hb, fun j u hu => hcell j u ?_⟩
 rw [List.getElem?_take] at hu
 split at hu
 ·exact hu
 ·cases hu
def FewV (ru : Rules) (l : List Ev) (js ws : List Int) : Prop := FewW ru l js ws ∧ (codeS ru l js ≠ 0 → ws = [])
def PlanW (ru : Rules) (l : List Ev) (js ws : List Int) (co : Int) : Prop := (codeS ru l js = 0 → PlanOk ru l js ws co) ∧ (codeS ru l js ≠ 0 → ws = [] ∧ co = 0)
theorem Fev_to {ru : Rules} {ua up : List Value} {vl va vp vk : Value} {w : World} {B : Nat} (hr : RdRules w B vl va vp vk ru ua up) (hB : B ≤ w.heap.size) (hs : Short ru) {l : List Ev} {v : Value} (hl : Rd w B 2 v l.length (evsC l)) (hn : l.length ≤ 1048576) {js : List Int} {vj : Value} (hv : Rd w B 1 vj js.length (ints js)) (hj : js.length ≤ 10) :
  Calls Try.prog 25 #[rulesV vl va vp vk ru, v, vj] w fun e w' => (∃ (A : Option Addr) (c : Nat) (ws : List Int), e = .returned (.tuple #[.slice A ws.length c, .int .i64 ((atS ru l js) : Nat), .int .i64 (codeS ru l js)]) ∧ w'.ownsRow w.heap.size 3 1 (.slice A ws.length c) ws.length (ints ws) ∧ FewV ru l js ws) ∧ Below w.heap.size w w' := (Fewest_any hr hB hs hl hn hv (by omega)).mono fun e w' ⟨⟨u, ws, h1, h2, h3, h4⟩, hb⟩ => by
 obtain ⟨A, c, rfl, _⟩ := (Rd.of_own h2).shape
 exact ⟨⟨A, c, ws, h1, h2, h3, h4⟩, hb⟩
theorem Plan_to {ru : Rules} {ua up : List Value} {vl va vp vk : Value} {w : World} {B : Nat} (hr : RdRules w B vl va vp vk ru ua up) (hB : B ≤ w.heap.size) (hs : Short ru) {l : List Ev} {v : Value} (hl : Rd w B 2 v l.length (evsC l)) (hn : l.length ≤ 1048576) {js : List Int} {vj : Value} (hv : Rd w B 1 vj js.length (ints js)) (hj : js.length ≤ 10) :
  Calls Try.prog 24 #[rulesV vl va vp vk ru, v, vj] w fun e w' => (∃ (A : Option Addr) (c : Nat) (ws : List Int) (co : Int), e = .returned (.tuple #[.slice A ws.length c, .int .i64 co, .int .i64 ((atS ru l js) : Nat), .int .i64 (codeS ru l js)]) ∧ w'.ownsRow w.heap.size 3 1 (.slice A ws.length c) ws.length (ints ws) ∧ PlanW ru l js ws co) ∧ Below w.heap.size w w' := (Plan_any hr hB hs hl hn hv (by omega)).mono fun e w' ⟨⟨u, ws, co, h1, h2, h3, h4⟩, hb⟩ => by
 obtain ⟨A, c, rfl, _⟩ := (Rd.of_own h2).shape;refine ⟨⟨A, c, ws, co, h1, h2, fun hc => ?_, h4⟩, hb⟩
 obtain ⟨p, hp, rfl, rfl⟩ := h3 hc
 exact plan_ok hp
theorem Aud_to {ru : Rules} {ua up : List Value} {vl va vp vk : Value} {w : World} {B : Nat} (hr : RdRules w B vl va vp vk ru ua up) (hB : B ≤ w.heap.size) (hs : Short ru) {l : List Ev} (hz : refE ru l = 0) {v : Value} (hl : Rd w B 2 v l.length (evsC l)) (hn : l.length ≤ 1048576) :
  Calls Try.prog 13 #[rulesV vl va vp vk ru, v] w fun e w' => (∃ A c, e = .returned (.tuple #[.slice A (audE ru l).length c, .int .i64 0]) ∧ w'.ownsRow w.heap.size 46 3 (.slice A (audE ru l).length c) (audE ru l).length (brsC (audE ru l))) ∧ Below w.heap.size w w' := (Audit_any hr hB hs hl hn).mono fun e w' ⟨⟨u, h1, h2⟩, hb⟩ => by
 rw [hz] at h1;obtain ⟨A, c, rfl, _⟩ := (Rd.of_own h2).shape
 exact ⟨⟨A, c, h1, h2⟩, hb⟩
set_option maxRecDepth 100000 in
set_option maxHeartbeats 2000000 in
theorem never_law {x : Sml} (hok : SmlOk x) {vks ves vtd : Value} {w : World} {B : Nat} (hkr : Rd w B 3 vks x.kinds.length (k3s x.kinds)) (her : Rd w B 2 ves x.events.length (e2s x.events)) (hB : B ≤ w.heap.size) {td : List Int} (htr : Rd w B 1 vtd td.length (u8s td)) (htb : ∀ i, i < td.length → byte (td.getD i 0)) {ay : Int} (hay : byte ay) :
  Calls Try.prog 10 #[.agg (smC x.b vks ves).toArray, vtd, .int .u8 ay] w fun e w' => e = .returned (.bool true) ∧ Below w.heap.size w w' := by
 obtain ⟨Atd, ctd, rfl, _⟩ := htr.shape;have hbw := Below.refl w.heap.size w;refine EC.enter 376 Try.func10 rfl rfl rfl (EC.seq (EC.region (EL.newP (x_boxA rfl) rfl ?_)));intro g1 w1 q1 hb1 hg1 hl1;have bhbw_1 := Nat.le_trans hbw.size hg1;replace hbw := bo_ hbw hb1;clear hb1 hg1 hl1;refine EL.as rfl rfl (EL.nil (EX.seq (EC.seq (EC.region (EL.val (x_loadA rfl (q1.range (PartAt.whole _)) Try.underlying78 rfl (sz_78.trans (congrArg some (smC_len _ _ _).symm))) rfl (EL.call (cA1 cF29 rfl) rfl (smRules_any hok (hkr.below (hbw.mono hB)) (Nat.le_trans hB hbw.size)) ?_))))))
 rintro e w2 ⟨⟨vl, va, vp, vk, ua, up, rfl, hR⟩, hc2⟩
 refine ⟨_, rfl, ?_⟩;replace q1 := q1.bl hc2;replace hbw := bo_ hbw hc2;clear hc2;obtain ⟨ru, hru⟩ : ∃ ru, ru = smRules x := ⟨_, rfl⟩;have hrb := sm_rules hok;have hs := sm_short hok;have h4 : (smRules x).levels.length = 4 := rfl;have hhl := sm_hist hok;have hz := sm_ref hok;have hro := rules_ok hrb;have hal := sm_allow hok;have hpw := sm_power hok;rw [← hru] at hR hrb hs h4 hhl hz hro hal hpw ⊢;clear hru;obtain ⟨Al, cl, rfl, _⟩ := hR.levels.shape;obtain ⟨Aa, ca, rfl, _⟩ := hR.allow.rd.shape;obtain ⟨Ap, cp, rfl, _⟩ := hR.apart.rd.shape;obtain ⟨Ak, ck, rfl, _⟩ := hR.kinds.shape
 unfold rulesV
 have hbo := Below.refl w2.heap.size w2;have hbo0 := hbw.size;refine EL.newP al_28 rfl ?_;intro g3 w3 q3 hb3 hg3 hl3;have n1_3 := q1.na hg3;have bhbw_3 := Nat.le_trans hbw.size hg3;have bhbo_3 := Nat.le_trans hbo.size hg3;replace q1 := q1.bl hb3;replace hbw := bo_ hbw hb3;replace hbo := bo_ hbo hb3;clear hb3 hg3 hl3;refine EL.store rfl rfl q3 sz_28 rfl rfl rfl rfl ?_;intro w4 hq4 hg4;replace q1 := q1.gr hg4 n1_3;replace hbw := below_store hbw hg4 bhbw_3;replace hbo := below_store hbo hg4 bhbo_3;replace q3 := hq4;clear hg4 hq4;refine EL.nil (EX.seq (EC.seq (EC.region (EL.val (x_loadA rfl (q1.range (PartAt.whole _)) Try.underlying78 rfl (sz_78.trans (congrArg some (smC_len _ _ _).symm))) rfl (EL.val (ld_28 rfl (q3.at (j := 0) rfl) (q3.at (j := 1) rfl) (q3.at (j := 2) rfl) (q3.at (j := 3) rfl) (q3.at (j := 4) rfl) (q3.at (j := 5) rfl)) rfl ?_)))));refine EL.call (cA2 cF30 rfl rfl) rfl (history_any hok (her.below (hbw.mono hB)) (Nat.le_trans hB hbw.size) (by have := hro.k4; omega)) ?_
 rintro e w5 ⟨⟨vx, rfl, hx⟩, hc5⟩
 refine ⟨_, rfl, ?_⟩;replace hx := own_less hx hbw.size;replace q1 := q1.bl hc5;replace q3 := q3.bl hc5;replace hbw := bo_ hbw hc5;replace hbo := bo_ hbo hc5;clear hc5
 generalize smHist ru.kinds.length x.events = l at hhl hz hx
 obtain ⟨hl30, hlv⟩ := hhl;have hwee := sm_wee hro hl30;obtain ⟨Ax, cx, rfl, _⟩ := (Rd.of_own hx).shape;refine EL.mv rfl rfl ?_;refine EL.call (cA2 cF31 rfl rfl) rfl (jobs_any (htr.below (hbw.mono hB)) (Nat.le_trans hB hbw.size) htb 8 (by omega)) ?_
 rintro e w6 ⟨⟨vj, rfl, hjs⟩, hc6⟩
 refine ⟨_, rfl, ?_⟩;replace hjs := own_less hjs hbw.size;replace q1 := q1.bl hc6;replace q3 := q3.bl hc6;replace hx := own_below hx hc6 (Nat.le_refl _);replace hbw := bo_ hbw hc6;replace hbo := bo_ hbo hc6;clear hc6;have hj0 := sm_jobs (m := 8) h4 htb (by omega)
 generalize jobsL td 8 = js at hj0 hjs
 obtain ⟨hj8, hjE⟩ := hj0;obtain ⟨Aj, cj, rfl, _⟩ := (Rd.of_own hjs).shape;refine EL.as rfl rfl (EL.as rfl rfl (EL.nil (EX.seq (EC.seq ?_))));have lt_1 := q1.lt;have lt_3 := q3.lt;refine EC.regionP [[], [], [1], [], [1, 2, 3], [0, 1, 2, 3, 4], [0, 1, 2, 3, 4, 5], [0, 1, 2, 3, 4, 5, 6], [0, 1, 2, 3, 4, 5, 6], [0, 1, 2, 3, 4, 5, 6], [0, 1, 2, 3, 4, 5, 6], [0, 1, 2, 3, 4, 5, 6, 7], [0, 1, 2, 3, 4, 5, 6, 7, 8, 11], [0, 1, 2, 3, 4, 5, 6, 7, 8, 9, 11, 12], [0, 1, 2, 3, 4, 5, 6, 7, 8, 9, 10, 11, 12, 13]] 15 [] (phi (fun i_ r => match i_ with | 0 => r 0 = .agg #[.slice Al ru.levels.length cl, .int .i64 ru.fade.lo, .int .i64 ru.fade.hi, .slice Aa ru.allow.length ca, .slice Ap ru.apart.length cp, .slice Ak ru.kinds.length ck] | 1 => r 1 = .slice Ax l.length cx | 3 => r 3 = .slice Aj js.length cj | 9 => r 9 = .int .i64 ((atS ru l js) : Nat) | 10 => r 10 = .int .i64 (codeS ru l js) | 13 => r 13 = .int .i64 ((atS ru l js) : Nat) | 14 => r 14 = .int .i64 (codeS ru l js) | _ => True) [(2, fun r w_ => ∃ v, r 2 = v ∧ Rd w_ w_.heap.size 2 v l.length (evsC l)), (4, fun r w_ => ∃ v, r 4 = v ∧ Rd w_ w_.heap.size 1 v js.length (ints js)), (5, fun r w_ => ∃ (A : Option Addr) (c : Nat) (ws : List Int) (co : Int), r 5 = .tuple #[.slice A ws.length c, .int .i64 co, .int .i64 ((atS ru l js) : Nat), .int .i64 (codeS ru l js)] ∧ w_.ownsRow 0 3 1 (.slice A ws.length c) ws.length (ints ws) ∧ PlanW ru l js ws co), (6, fun r w_ => ∃ (A : Option Addr) (c : Nat) (ws : List Int) (co : Int), r 5 = .tuple #[.slice A ws.length c, .int .i64 co, .int .i64 ((atS ru l js) : Nat), .int .i64 (codeS ru l js)] ∧ r 6 = .tuple #[.slice A ws.length c, .int .i64 co, .int .i64 ((atS ru l js) : Nat), .int .i64 (codeS ru l js)]), (7, fun r w_ => ∃ (A : Option Addr) (c : Nat) (ws : List Int) (co : Int), r 5 = .tuple #[.slice A ws.length c, .int .i64 co, .int .i64 ((atS ru l js) : Nat), .int .i64 (codeS ru l js)] ∧ r 7 = .slice A ws.length c), (8, fun r w_ => ∃ (A : Option Addr) (c : Nat) (ws : List Int) (co : Int), r 5 = .tuple #[.slice A ws.length c, .int .i64 co, .int .i64 ((atS ru l js) : Nat), .int .i64 (codeS ru l js)] ∧ r 8 = .int .i64 co), (11, fun r w_ => ∃ (A : Option Addr) (c : Nat) (ws : List Int) (co : Int), r 5 = .tuple #[.slice A ws.length c, .int .i64 co, .int .i64 ((atS ru l js) : Nat), .int .i64 (codeS ru l js)] ∧ r 11 = .slice A ws.length c), (12, fun r w_ => ∃ (A : Option Addr) (c : Nat) (ws : List Int) (co : Int), r 5 = .tuple #[.slice A ws.length c, .int .i64 co, .int .i64 ((atS ru l js) : Nat), .int .i64 (codeS ru l js)] ∧ r 12 = .int .i64 co)]) (by kernel_rfl) rfl rfl (phi_cons mono_rd2 (phi_cons mono_rd2 (phi_cons (fun _ _ _ hb ⟨A, c, ws, co, h1, h2, h3⟩ => ⟨A, c, ws, co, h1, own_below h2 hb (Nat.le_refl _), h3⟩) (phi_cons (fun _ _ _ _ h => h) (phi_cons (fun _ _ _ _ h => h) (phi_cons (fun _ _ _ _ h => h) (phi_cons (fun _ _ _ _ h => h) (phi_cons (fun _ _ _ _ h => h) (phi_nil))))))))) (fun i_ hi_ => ?_) ?_
 ·match i_, hi_ with
  | 0, _ =>
   intro val w1 a hb ha hd;have ha := ha.s0 (d := 7) rfl
   exact hs_val ha rfl rfl (ld_28 rfl ((q3.below hb q3.lt).at (j := 0) rfl) ((q3.below hb q3.lt).at (j := 1) rfl) ((q3.below hb q3.lt).at (j := 2) rfl) ((q3.below hb q3.lt).at (j := 3) rfl) ((q3.below hb q3.lt).at (j := 4) rfl) ((q3.below hb q3.lt).at (j := 5) rfl)) rfl rfl
  | 1, _ =>
   intro val w1 a hb ha hd;have ha := ha.s0 (d := 8) rfl
   exact hs_val ha rfl rfl (x_move rfl) rfl rfl
  | 2, _ =>
   intro val w1 a hb ha hd;have e1 : val 1 = _ := hd 1 (memB_mem.1 rfl);have ha := ha.s1 (d := 49) rfl e1;refine hs_call ha rfl rfl (cA1 cF15 rfl) (events_any (Rd.of_own (own_below hx hb (Nat.le_refl _))) (Nat.le_refl _) (by omega)) rfl ?_
   rintro e w' ⟨⟨v2, rfl, hJ⟩, hb'⟩
   exact ⟨_, rfl, hb', ⟨v2, rfl, Rd.of_own hJ⟩⟩
  | 3, _ =>
   intro val w1 a hb ha hd;have ha := ha.s0 (d := 9) rfl
   exact hs_val ha rfl rfl (x_move rfl) rfl rfl
  | 4, _ =>
   intro val w1 a hb ha hd;have e3 : val 3 = _ := hd 3 (memB_mem.1 rfl);have ha := ha.s1 (d := 51) rfl e3;refine hs_call ha rfl rfl (cA1 cF23 rfl) (numbers_any (Rd.of_own (own_below hjs hb (Nat.le_refl _))) (Nat.le_refl _) (by omega)) rfl ?_
   rintro e w' ⟨⟨v2, rfl, hJ⟩, hb'⟩
   exact ⟨_, rfl, hb', ⟨v2, rfl, Rd.of_own hJ⟩⟩
  | 5, _ =>
   intro val w1 a hb ha hd;have e0 : val 0 = _ := hd 0 (memB_mem.1 rfl);obtain ⟨v2_, e2, hJ2_⟩ := hd 2 (memB_mem.1 rfl);obtain ⟨v4_, e4, hJ4_⟩ := hd 4 (memB_mem.1 rfl);have ha := ha.sub (Sub.ins (d := 52) (Sub.ins (d := 50) (Sub.ins (d := 48) (Sub.nil _) (dep_get rfl e0)) (dep_get rfl e2)) (dep_get rfl e4));refine hs_call ha rfl rfl (cA3 cF24 rfl rfl rfl) (Plan_to ((hR.below (hbo.trans (hb.mono hbo.size))).more (Nat.le_trans hbo.size hb.size)) (Nat.le_refl _) hs hJ2_ (by omega) hJ4_ (by omega)) rfl ?_
   rintro e w' ⟨⟨A, c, ws, co, rfl, ho, hf⟩, hb'⟩
   exact ⟨_, rfl, hb', ⟨A, c, ws, co, rfl, own_less ho (Nat.zero_le _), hf⟩⟩
  | 6, _ =>
   intro val w1 a hb ha hd;obtain ⟨Ad, cd, wd, od, e5, hbd, hfd⟩ := hd 5 (memB_mem.1 rfl);have ha := ha.s1 (d := 53) rfl e5
   exact hs_val ha rfl rfl (x_move rfl) ⟨_, _, _, _, e5, rfl⟩ rfl
  | 7, _ =>
   intro val w1 a hb ha hd;obtain ⟨A6_, c6_, u6_, o6_, x6_, e6⟩ := hd 6 (memB_mem.1 rfl);have ha := ha.s1 (d := 47) rfl e6
   exact hs_val ha rfl rfl (x_extract rfl rfl) ⟨_, _, _, _, x6_, rfl⟩ rfl
  | 8, _ =>
   intro val w1 a hb ha hd;obtain ⟨A6_, c6_, u6_, o6_, x6_, e6⟩ := hd 6 (memB_mem.1 rfl);have ha := ha.s1 (d := 47) rfl e6
   exact hs_val ha rfl rfl (x_extract rfl rfl) ⟨_, _, _, _, x6_, rfl⟩ rfl
  | 9, _ =>
   intro val w1 a hb ha hd;obtain ⟨A6_, c6_, u6_, o6_, x6_, e6⟩ := hd 6 (memB_mem.1 rfl);have ha := ha.s1 (d := 47) rfl e6
   exact hs_val ha rfl rfl (x_extract rfl rfl) rfl rfl
  | 10, _ =>
   intro val w1 a hb ha hd;obtain ⟨A6_, c6_, u6_, o6_, x6_, e6⟩ := hd 6 (memB_mem.1 rfl);have ha := ha.s1 (d := 47) rfl e6
   exact hs_val ha rfl rfl (x_extract rfl rfl) rfl rfl
  | 11, _ =>
   intro val w1 a hb ha hd;obtain ⟨A7_, c7_, u7_, o7_, x7_, e7⟩ := hd 7 (memB_mem.1 rfl);have ha := ha.s1 (d := 54) rfl e7
   exact hs_val ha rfl rfl (x_assign rfl) ⟨_, _, _, _, x7_, rfl⟩ rfl
  | 12, _ =>
   intro val w1 a hb ha hd;obtain ⟨A8_, c8_, u8_, o8_, x8_, e8⟩ := hd 8 (memB_mem.1 rfl);have ha := ha.s1 (d := 55) rfl e8
   exact hs_val ha rfl rfl (x_assign rfl) ⟨_, _, _, _, x8_, rfl⟩ rfl
  | 13, _ =>
   intro val w1 a hb ha hd;have e9 : val 9 = _ := hd 9 (memB_mem.1 rfl);have ha := ha.s1 (d := 56) rfl e9
   exact hs_val ha rfl rfl (x_assign rfl) rfl rfl
  | 14, _ =>
   intro val w1 a hb ha hd;have e10 : val 10 = _ := hd 10 (memB_mem.1 rfl);have ha := ha.s1 (d := 57) rfl e10
   exact hs_val ha rfl rfl (x_assign rfl) rfl rfl
  | k + 15, h => exact absurd h (by omega)
 ·intro val wR3 hb halc hd
  have e0 : val 0 = _ := hd 0 (by omega)
  have e1 : val 1 = _ := hd 1 (by omega)
  obtain ⟨v2_, e2, hJ2_⟩ := hd 2 (by omega)
  have e3 : val 3 = _ := hd 3 (by omega)
  obtain ⟨v4_, e4, hJ4_⟩ := hd 4 (by omega)
  obtain ⟨Ad, cd, wd, od, e5, hbd, hfd⟩ := hd 5 (by omega)
  obtain ⟨A6_, c6_, u6_, o6_, x6_, e6⟩ := hd 6 (by omega)
  obtain ⟨A7_, c7_, u7_, o7_, x7_, e7⟩ := hd 7 (by omega)
  obtain ⟨A8_, c8_, u8_, o8_, x8_, e8⟩ := hd 8 (by omega)
  have e9 : val 9 = _ := hd 9 (by omega)
  have e10 : val 10 = _ := hd 10 (by omega)
  obtain ⟨A11_, c11_, u11_, o11_, x11_, e11⟩ := hd 11 (by omega)
  obtain ⟨A12_, c12_, u12_, o12_, x12_, e12⟩ := hd 12 (by omega)
  have e13 : val 13 = _ := hd 13 (by omega)
  have e14 : val 14 = _ := hd 14 (by omega)
  have y6_ := tupA4 (e5.symm.trans x6_);rw [← y6_.1, ← y6_.2] at e6;have y7_ := tupA4 (e5.symm.trans x7_);rw [← y7_.1] at e7;have y8_ := tupA4 (e5.symm.trans x8_);rw [← y8_.2] at e8;have y11_ := tupA4 (e5.symm.trans x11_);rw [← y11_.1] at e11;have y12_ := tupA4 (e5.symm.trans x12_);rw [← y12_.2] at e12;refine EL.ends (cs := [_, _, _, _, _, _, _, _, _, _, _, _, _, _, _]) ⟨e0, e1, e2, e3, e4, e5, e6, e7, e8, e9, e10, e11, e12, e13, e14, trivial⟩ rfl ?_;replace q1 := q1.bl hb;replace q3 := q3.bl hb;replace hx := own_below hx hb (Nat.le_refl _);replace hjs := own_below hjs hb (Nat.le_refl _);replace hbw := bo_ hbw hb;replace hbo := bo_ hbo hb;clear hb;clear hJ2_ hJ4_;refine EL.nil (EX.seq (EC.seq ?_));have lt_1 := q1.lt;have lt_3 := q3.lt;refine EC.regionP [[], [], [1], [], [1, 2, 3], [0, 1, 2, 3, 4], [0, 1, 2, 3, 4, 5], [0, 1, 2, 3, 4, 5, 6], [0, 1, 2, 3, 4, 5, 6], [0, 1, 2, 3, 4, 5, 6], [0, 1, 2, 3, 4, 5, 6, 7], [0, 1, 2, 3, 4, 5, 6, 7, 8, 10], [0, 1, 2, 3, 4, 5, 6, 7, 8, 9, 10, 11]] 13 [] (phi (fun i_ r => match i_ with | 0 => r 0 = .agg #[.slice Al ru.levels.length cl, .int .i64 ru.fade.lo, .int .i64 ru.fade.hi, .slice Aa ru.allow.length ca, .slice Ap ru.apart.length cp, .slice Ak ru.kinds.length ck] | 1 => r 1 = .slice Ax l.length cx | 3 => r 3 = .slice Aj js.length cj | 8 => r 8 = .int .i64 ((atS ru l js) : Nat) | 9 => r 9 = .int .i64 (codeS ru l js) | 11 => r 11 = .int .i64 ((atS ru l js) : Nat) | 12 => r 12 = .int .i64 (codeS ru l js) | _ => True) [(2, fun r w_ => ∃ v, r 2 = v ∧ Rd w_ w_.heap.size 2 v l.length (evsC l)), (4, fun r w_ => ∃ v, r 4 = v ∧ Rd w_ w_.heap.size 1 v js.length (ints js)), (5, fun r w_ => ∃ (A : Option Addr) (c : Nat) (ws : List Int), r 5 = .tuple #[.slice A ws.length c, .int .i64 ((atS ru l js) : Nat), .int .i64 (codeS ru l js)] ∧ w_.ownsRow 0 3 1 (.slice A ws.length c) ws.length (ints ws) ∧ FewV ru l js ws), (6, fun r w_ => ∃ (A : Option Addr) (c : Nat) (ws : List Int), r 5 = .tuple #[.slice A ws.length c, .int .i64 ((atS ru l js) : Nat), .int .i64 (codeS ru l js)] ∧ r 6 = .tuple #[.slice A ws.length c, .int .i64 ((atS ru l js) : Nat), .int .i64 (codeS ru l js)]), (7, fun r w_ => ∃ (A : Option Addr) (c : Nat) (ws : List Int), r 5 = .tuple #[.slice A ws.length c, .int .i64 ((atS ru l js) : Nat), .int .i64 (codeS ru l js)] ∧ r 7 = .slice A ws.length c), (10, fun r w_ => ∃ (A : Option Addr) (c : Nat) (ws : List Int), r 5 = .tuple #[.slice A ws.length c, .int .i64 ((atS ru l js) : Nat), .int .i64 (codeS ru l js)] ∧ r 10 = .slice A ws.length c)]) (by kernel_rfl) rfl rfl (phi_cons mono_rd2 (phi_cons mono_rd2 (phi_cons (fun _ _ _ hb ⟨A, c, ws, h1, h2, h3⟩ => ⟨A, c, ws, h1, own_below h2 hb (Nat.le_refl _), h3⟩) (phi_cons (fun _ _ _ _ h => h) (phi_cons (fun _ _ _ _ h => h) (phi_cons (fun _ _ _ _ h => h) (phi_nil))))))) (fun i_ hi_ => ?_) ?_
  ·match i_, hi_ with
   | 0, _ =>
    intro val w1 a hb ha hd;have ha := ha.s0 (d := 7) rfl
    exact hs_val ha rfl rfl (ld_28 rfl ((q3.below hb q3.lt).at (j := 0) rfl) ((q3.below hb q3.lt).at (j := 1) rfl) ((q3.below hb q3.lt).at (j := 2) rfl) ((q3.below hb q3.lt).at (j := 3) rfl) ((q3.below hb q3.lt).at (j := 4) rfl) ((q3.below hb q3.lt).at (j := 5) rfl)) rfl rfl
   | 1, _ =>
    intro val w1 a hb ha hd;have ha := ha.s0 (d := 8) rfl
    exact hs_val ha rfl rfl (x_move rfl) rfl rfl
   | 2, _ =>
    intro val w1 a hb ha hd;have e1 : val 1 = _ := hd 1 (memB_mem.1 rfl);have ha := ha.s1 (d := 60) rfl e1;refine hs_call ha rfl rfl (cA1 cF15 rfl) (events_any (Rd.of_own (own_below hx hb (Nat.le_refl _))) (Nat.le_refl _) (by omega)) rfl ?_
    rintro e w' ⟨⟨v2, rfl, hJ⟩, hb'⟩
    exact ⟨_, rfl, hb', ⟨v2, rfl, Rd.of_own hJ⟩⟩
   | 3, _ =>
    intro val w1 a hb ha hd;have ha := ha.s0 (d := 9) rfl
    exact hs_val ha rfl rfl (x_move rfl) rfl rfl
   | 4, _ =>
    intro val w1 a hb ha hd;have e3 : val 3 = _ := hd 3 (memB_mem.1 rfl);have ha := ha.s1 (d := 62) rfl e3;refine hs_call ha rfl rfl (cA1 cF23 rfl) (numbers_any (Rd.of_own (own_below hjs hb (Nat.le_refl _))) (Nat.le_refl _) (by omega)) rfl ?_
    rintro e w' ⟨⟨v2, rfl, hJ⟩, hb'⟩
    exact ⟨_, rfl, hb', ⟨v2, rfl, Rd.of_own hJ⟩⟩
   | 5, _ =>
    intro val w1 a hb ha hd;have e0 : val 0 = _ := hd 0 (memB_mem.1 rfl);obtain ⟨v2_, e2, hJ2_⟩ := hd 2 (memB_mem.1 rfl);obtain ⟨v4_, e4, hJ4_⟩ := hd 4 (memB_mem.1 rfl);have ha := ha.sub (Sub.ins (d := 63) (Sub.ins (d := 61) (Sub.ins (d := 59) (Sub.nil _) (dep_get rfl e0)) (dep_get rfl e2)) (dep_get rfl e4));refine hs_call ha rfl rfl (cA3 cF25 rfl rfl rfl) (Fev_to ((hR.below (hbo.trans (hb.mono hbo.size))).more (Nat.le_trans hbo.size hb.size)) (Nat.le_refl _) hs hJ2_ (by omega) hJ4_ (by omega)) rfl ?_
    rintro e w' ⟨⟨A, c, ws, rfl, ho, hf⟩, hb'⟩
    exact ⟨_, rfl, hb', ⟨A, c, ws, rfl, own_less ho (Nat.zero_le _), hf⟩⟩
   | 6, _ =>
    intro val w1 a hb ha hd;obtain ⟨Af, cf, wf, e5, hbf, hff⟩ := hd 5 (memB_mem.1 rfl);have ha := ha.s1 (d := 64) rfl e5
    exact hs_val ha rfl rfl (x_move rfl) ⟨_, _, _, e5, rfl⟩ rfl
   | 7, _ =>
    intro val w1 a hb ha hd;obtain ⟨A6_, c6_, u6_, x6_, e6⟩ := hd 6 (memB_mem.1 rfl);have ha := ha.s1 (d := 58) rfl e6
    exact hs_val ha rfl rfl (x_extract rfl rfl) ⟨_, _, _, x6_, rfl⟩ rfl
   | 8, _ =>
    intro val w1 a hb ha hd;obtain ⟨A6_, c6_, u6_, x6_, e6⟩ := hd 6 (memB_mem.1 rfl);have ha := ha.s1 (d := 58) rfl e6
    exact hs_val ha rfl rfl (x_extract rfl rfl) rfl rfl
   | 9, _ =>
    intro val w1 a hb ha hd;obtain ⟨A6_, c6_, u6_, x6_, e6⟩ := hd 6 (memB_mem.1 rfl);have ha := ha.s1 (d := 58) rfl e6
    exact hs_val ha rfl rfl (x_extract rfl rfl) rfl rfl
   | 10, _ =>
    intro val w1 a hb ha hd;obtain ⟨A7_, c7_, u7_, x7_, e7⟩ := hd 7 (memB_mem.1 rfl);have ha := ha.s1 (d := 65) rfl e7
    exact hs_val ha rfl rfl (x_assign rfl) ⟨_, _, _, x7_, rfl⟩ rfl
   | 11, _ =>
    intro val w1 a hb ha hd;have e8 : val 8 = _ := hd 8 (memB_mem.1 rfl);have ha := ha.s1 (d := 66) rfl e8
    exact hs_val ha rfl rfl (x_assign rfl) rfl rfl
   | 12, _ =>
    intro val w1 a hb ha hd;have e9 : val 9 = _ := hd 9 (memB_mem.1 rfl);have ha := ha.s1 (d := 67) rfl e9
    exact hs_val ha rfl rfl (x_assign rfl) rfl rfl
   | k + 13, h => exact absurd h (by omega)
  ·intro val wR4 hb halc hd
   have e0 : val 0 = _ := hd 0 (by omega)
   have e1 : val 1 = _ := hd 1 (by omega)
   obtain ⟨v2_, e2, hJ2_⟩ := hd 2 (by omega)
   have e3 : val 3 = _ := hd 3 (by omega)
   obtain ⟨v4_, e4, hJ4_⟩ := hd 4 (by omega)
   obtain ⟨Af, cf, wf, e5, hbf, hff⟩ := hd 5 (by omega)
   obtain ⟨A6_, c6_, u6_, x6_, e6⟩ := hd 6 (by omega)
   obtain ⟨A7_, c7_, u7_, x7_, e7⟩ := hd 7 (by omega)
   have e8 : val 8 = _ := hd 8 (by omega)
   have e9 : val 9 = _ := hd 9 (by omega)
   obtain ⟨A10_, c10_, u10_, x10_, e10⟩ := hd 10 (by omega)
   have e11 : val 11 = _ := hd 11 (by omega)
   have e12 : val 12 = _ := hd 12 (by omega)
   have y6_ := tupA3 (e5.symm.trans x6_);rw [← y6_] at e6;have y7_ := tupA3 (e5.symm.trans x7_);rw [← y7_] at e7;have y10_ := tupA3 (e5.symm.trans x10_);rw [← y10_] at e10;refine EL.ends (cs := [_, _, _, _, _, _, _, _, _, _, _, _, _]) ⟨e0, e1, e2, e3, e4, e5, e6, e7, e8, e9, e10, e11, e12, trivial⟩ rfl ?_;replace q1 := q1.bl hb;replace q3 := q3.bl hb;replace hx := own_below hx hb (Nat.le_refl _);replace hjs := own_below hjs hb (Nat.le_refl _);replace hbd := own_below hbd hb (Nat.le_refl _);replace hbw := bo_ hbw hb;replace hbo := bo_ hbo hb;clear hb;clear hJ2_ hJ4_;refine EL.nil (EX.seq (EC.seq (EC.seq (EC.region (EL.mv rfl rfl (EL.mv rfl rfl ?_))))));refine EL.val (x_neq (r := false) rfl rfl (decide_eq_false (fun h => h rfl))) rfl ?_
   refine EL.mv rfl rfl (EL.mg rfl rfl rfl rfl (EL.mg rfl rfl rfl rfl ?_));refine EL.valg rfl rfl (x_neq (r := false) rfl rfl (decide_eq_false (fun h => h rfl))) rfl ?_
   refine EL.pf rfl rfl rfl (EL.nil (EX.seq (EC.no rfl (EC.skip (EX.seq (EC.seq (EC.seq (EC.region (EL.mv rfl rfl ?_)))))))))
   rcases code_two hz hjE with hcd | hcd
   ·
    have hpl := hfd.1 hcd;have hfw := hff.1;have hat0 : atS ru l js = 0 := atS_zero0 hcd;have hdl : wd.length = js.length := by rw [runW_len hpl.run, List.length_map]
    have hfl := (hfw hcd).1;have hkk := run_kinds hpl.run;refine EL.val (x_neq (r := false) rfl rfl (decide_eq_false (fun h => h hcd))) rfl ?_
    refine EL.nil (EX.seq (EC.no rfl (EC.skip (EX.seq (EC.seq (EC.seq (EC.region (EL.mv rfl rfl (EL.val (ln_22 rfl) rfl ?_)))))))));refine EL.mv rfl rfl (EL.val (ln_22 rfl) rfl ?_);refine EL.val (x_neq (r := false) rfl rfl (decide_eq_false (fun h => h (by rw [hdl])))) rfl ?_
    refine EL.mv rfl rfl (EL.mg rfl rfl rfl rfl (EL.valg rfl rfl (ln_22 rfl) rfl (EL.mg rfl rfl rfl rfl (EL.valg rfl rfl (ln_22 rfl) rfl ?_))));refine EL.valg rfl rfl (x_neq (r := false) rfl rfl (decide_eq_false (fun h => h (by rw [hfl])))) rfl ?_
    refine EL.pf rfl rfl rfl (EL.mv rfl rfl (EL.mg rfl rfl rfl rfl ?_));refine EL.valg rfl rfl (x_neq (r := false) rfl rfl (decide_eq_false (fun h => h (by rw [hat0]; rfl)))) rfl ?_
    refine EL.pf rfl rfl rfl (EL.nil (EX.seq (EC.no rfl (EC.skip (EX.seq (EC.seq (EC.region (EL.mv rfl rfl ?_))))))));have hbm := Below.refl wR4.heap.size wR4;have q1m := q1;have q3m := q3;have hxm := hx;have hjsm := hjs;have hbdm := hbd;have hbfm := hbf;have hbwm := hbw;have hbom := hbo;refine EL.call (cA1 cF15 rfl) rfl (events_any (Rd.of_own hx) (Nat.le_refl _) (by omega)) ?_
    rintro e w7 ⟨⟨vd, rfl, hdn⟩, hc7⟩
    refine ⟨_, rfl, ?_⟩;replace q1 := q1.bl hc7;replace q3 := q3.bl hc7;replace hx := own_below hx hc7 (Nat.le_refl _);replace hjs := own_below hjs hc7 (Nat.le_refl _);replace hbd := own_below hbd hc7 (Nat.le_refl _);replace hbf := own_below hbf hc7 (Nat.le_refl _);replace hbw := bo_ hbw hc7;replace hbo := bo_ hbo hc7;replace hbm := bo_ hbm hc7;clear hc7;refine EL.newS (bs_65_0) rfl ?_;intro g8 w8 q8 hb8 hg8 hl8;have n1_8 := q1.na hg8;have n3_8 := q3.na hg8;have bhbw_8 := Nat.le_trans hbw.size hg8;have bhbo_8 := Nat.le_trans hbo.size hg8;have bhbm_8 := Nat.le_trans hbm.size hg8;have hbg8 : wR4.heap.size ≤ g8 := Nat.le_trans hbm.size hg8;replace q1 := q1.bl hb8;replace q3 := q3.bl hb8;replace hx := own_below hx hb8 (Nat.le_refl _);replace hjs := own_below hjs hb8 (Nat.le_refl _);replace hbd := own_below hbd hb8 (Nat.le_refl _);replace hbf := own_below hbf hb8 (Nat.le_refl _);replace hdn := own_below hdn hb8 (Nat.le_refl _);replace hbw := bo_ hbw hb8;replace hbo := bo_ hbo hb8;replace hbm := bo_ hbm hb8;clear hb8 hg8 hl8;have hst : w8.ownsRow wR4.heap.size 70 2 (.slice (some ⟨g8, 0, none⟩) 0 0) 0 [] := own_empty 2 q8 hbg8;refine EL.as rfl rfl (EL.as rfl rfl (EL.as rfl rfl (EL.as rfl rfl (EL.nil (EX.seq (EC.seq (EC.seq (EC.region (EL.as rfl rfl ?_)))))))));refine EL.nil (EX.seq (EC.block ?_));refine EC.loopD [6, 25, 26, 27, 28, 29, 30, 172, 173, 174, 175, 176, 177, 178, 179, 180, 181, 182, 183, 184, 185, 186, 187, 188, 189, 190, 191, 192, 193, 194, 195, 196, 197, 198, 199, 200, 201, 202, 203, 204, 205, 206, 207, 208, 209, 210, 211, 212, 213, 214, 215, 216, 217, 218, 219, 220, 221, 222, 223, 224, 225, 226, 227, 228, 229, 230, 231, 232, 233, 234, 235, 236, 237, 238, 239, 240, 241, 242, 243, 244, 245, 246, 247, 248, 249, 250, 251, 252, 253, 254, 255, 256] (fun x_ : Nat × Value × Value => [(25, x_.2.1), (26, x_.2.2), (27, .int .i64 (numW (wd.take x_.1))), (28, .int .i64 (costW ru (wd.take x_.1))), (29, .int .i64 (x_.1 : Nat))]) (fun x_ W => x_.1 ≤ js.length ∧ W.ownsRow wR4.heap.size 50 2 x_.2.1 (l ++ evsP wd js x_.1).length (evsC (l ++ evsP wd js x_.1)) ∧ W.ownsRow wR4.heap.size 70 2 x_.2.2 x_.1 (stpsC ((wd.take x_.1).map stp1)) ∧ Below wR4.heap.size wR4 W) (fun x_ => js.length - x_.1) (0, vd, .slice (some ⟨g8, 0, none⟩) 0 0) ⟨Nat.zero_le _, (by rw [evsP_zero, List.append_nil]; exact hdn), hst, hbm⟩ ⟨rfl, rfl, rfl, rfl, rfl, trivial⟩ ?_
    clear hdn hst hbm q1 q3 hx hjs hbd hbf hbw hbo
    rintro ⟨i, vd2, vs2⟩ wx ⟨hi, hdn, hst, hbm⟩
    dsimp only at hi hdn hst
    have q1 := q1m.below hbm q1m.lt;have q3 := q3m.below hbm q3m.lt;have hx := own_below hxm hbm (Nat.le_refl _);have hjs := own_below hjsm hbm (Nat.le_refl _);have hbd := own_below hbdm hbm (Nat.le_refl _);have hbf := own_below hbfm hbm (Nat.le_refl _);have hbw := hbwm.trans (hbm.mono hbwm.size);have hbo := hbom.trans (hbm.mono hbom.size)
    by_cases hlt : i < js.length
    ·
     have hiw : i < wd.length := by rw [hdl]; exact hlt
     have hif : i < wf.length := by rw [hfl]; exact hlt
     have hfm := few_mono hfw hcd hlt;obtain ⟨bp1, op1, ep1, _, xk⟩ := ints_cells wd i hiw wx wx.heap.size _ _ _ (Rd.of_own hbd);have hki := kinds_bd (hkk _ (getD_mem hiw 0));refine EC.seq (EC.seq (EC.region (EL.mv rfl rfl (EL.mv rfl rfl (EL.val (ln_22 rfl) rfl ?_)))));refine EL.val (x_lss rfl rfl (decide_eq_true (show (((i : Nat) : Int) < ((js.length : Nat) : Int)) by omega))) rfl ?_
     refine EL.nil (EX.seq (EC.yes rfl (EC.skip (EX.seq (EC.seq (EC.block (EC.seq (EC.seq ?_))))))));refine EC.regionQ (by kernel_rfl) (by kernel_rfl) ?_
     refine EQ.mv rfl rfl (EQ.mv rfl rfl ?_);refine EQ.val (fun _ hw => (ix_22 (by show some (Value.slice Ad _ _) = _; rw [ep1]) rfl hiw)) rfl ?_
     refine EQ.val (fun _ hw => (ld_3 rfl (below_load hw xk))) rfl ?_
     refine EQ.val (fun _ hw => (x_lss (r := false) rfl rfl (decide_eq_false (by omega)))) rfl ?_
     refine EQ.mv rfl rfl (EQ.mg rfl rfl rfl rfl (EQ.mg rfl rfl rfl rfl ?_));refine EQ.valg rfl rfl (fun _ hw => (ix_22 (by show some (Value.slice Ad _ _) = _; rw [ep1]) rfl hiw)) rfl ?_
     refine EQ.valg rfl rfl (fun _ hw => (ld_3 rfl (below_load hw xk))) rfl ?_
     refine EQ.valg rfl rfl (fun _ hw => (fa_28_4 rfl)) rfl ?_
     refine EQ.valg rfl rfl (fun _ hw => (ld_26 rfl (below_load hw (q3.at (j := 5) rfl)))) rfl ?_
     refine EQ.valg rfl rfl (fun _ hw => (ln_26 rfl)) rfl ?_
     refine EQ.valg rfl rfl (fun _ hw => (x_geq (r := false) rfl rfl (decide_eq_false (by omega)))) rfl ?_
     refine EQ.val (fun _ hw => (x_pick_f rfl rfl)) rfl ?_
     refine EQ.fin (fun w9 hw_ => ?_)
     replace q1 := q1.bl hw_;replace q3 := q3.bl hw_;replace hx := own_below hx hw_ (Nat.le_refl _);replace hjs := own_below hjs hw_ (Nat.le_refl _);replace hbd := own_below hbd hw_ (Nat.le_refl _);replace hbf := own_below hbf hw_ (Nat.le_refl _);replace hdn := own_below hdn hw_ (Nat.le_refl _);replace hst := own_below hst hw_ (Nat.le_refl _);replace hbw := bo_ hbw hw_;replace hbo := bo_ hbo hw_;replace hbm := bo_ hbm hw_;clear hw_;refine EX.seq (EC.no rfl (EC.skip (EX.seq ?_)));refine EC.cutD [25, 27, 28, 193, 194, 195, 196, 197, 198, 199, 200, 201, 202, 203, 204, 205, 206, 207, 208, 209, 210, 211, 212, 213, 214, 215, 216, 217, 218] (fun v_ : Value => [(25, v_), (27, .int .i64 (numW (wd.take (i + 1)))), (28, .int .i64 (costW ru (wd.take (i + 1))))]) (fun v_ W => W.ownsRow wR4.heap.size 50 2 v_ (l ++ evsP wd js i ++ evK (wd.getD i 0)).length (evsC (l ++ evsP wd js i ++ evK (wd.getD i 0))) ∧ W.ownsRow wR4.heap.size 70 2 vs2 i (stpsC ((wd.take i).map stp1)) ∧ Below wR4.heap.size wR4 W) ?_ ?_
     ·
      obtain ⟨bp2, op2, ep2, lp2, xk2⟩ := ints_cells wd i hiw wR4 wR4.heap.size _ _ _ (Rd.of_own hbdm);refine EC.seq (EC.region (EL.mv rfl rfl (EL.mv rfl rfl ?_)));refine EL.val (ix_22 (by show some (Value.slice Ad _ _) = _; rw [ep2]) rfl hiw) rfl ?_
      refine EL.val (ld_3 rfl (cell_on hbm lp2 xk2)) rfl ?_
      by_cases hk0 : 0 ≤ (wd.getD i 0)
      ·
       refine EL.val (x_geq (r := true) rfl rfl (decide_eq_true hk0)) rfl (EL.nil (EX.seq (EC.yes rfl ?_)));obtain ⟨k, ek, hkK⟩ : ∃ k : Nat, (wd.getD i 0) = ((k : Nat) : Int) ∧ k < ru.kinds.length := ⟨(wd.getD i 0).toNat, by omega, by omega⟩
       rw [ek] at xk2;obtain ⟨bk, ok, eAk, lkd, hkd⟩ := kds_cells ru.kinds k hkK w9 _ _ _ _ (hR.below hbo).kinds;have hln := evsP_len wd js i;have hlen : (l ++ evsP wd js i).length ≤ 60 := by rw [List.length_append]; omega
       have hcb := costW_bd hro (wd.take i);rw [List.length_take] at hcb;have hnb := numW_bd (wd.take i);rw [List.length_take] at hnb;have hkc := kcost_bd hro (k : Int);rw [kcost_nat] at hkc;have hW := below_row hdn (w1 := w9) ⟨rfl, rfl, rfl, Nat.le_refl _, fun _ _ _ => rfl⟩ hbm.size
       clear hW;have lt_1 := q1.lt;have lt_3 := q3.lt;refine EC.regionS [[], [], [], [1, 2], [1, 2, 3], [1, 2, 3, 4], [1, 2, 3, 4, 5], [0, 1, 2, 3, 4, 5, 6], [], [8], [], [], [11], [], [], [13, 14], [13, 14, 15], [11, 12, 13, 14, 15, 16], [11, 12, 13, 14, 15, 16, 17], [11, 12, 13, 14, 15, 16, 17, 18], [10, 11, 12, 13, 14, 15, 16, 17, 18, 19], [0, 1, 2, 3, 4, 5, 6, 7], [0, 1, 2, 3, 4, 5, 6, 7, 8, 9, 21], [0, 1, 2, 3, 4, 5, 6, 7, 8, 9, 10, 11, 12, 13, 14, 15, 16, 17, 18, 19, 20, 21, 22]] 23 [] [7] (fun fl w_ => w9.grownBy w_ (vd2 : Value).ownBlock ∧ (fl 7 = false → w_.ownsRow wR4.heap.size 50 2 vd2 (l ++ evsP wd js i).length (evsC (l ++ evsP wd js i)))) (phiS (fun i_ r => match i_ with | 0 => r 0 = vd2 | 1 => r 1 = .slice Ad wd.length cd | 2 => r 2 = .int .i64 (i : Nat) | 3 => r 3 = .pointer (some ⟨bp2, op2 + i, none⟩) | 4 => r 4 = .int .i64 (k : Nat) | 5 => r 5 = .agg #[.int .i64 2, .int .i64 (k : Nat)] | 8 => r 8 = .int .i64 (numW (wd.take i)) | 9 => r 9 = .int .i64 (numW (wd.take i) + 1) | 10 => r 10 = .int .i64 (costW ru (wd.take i)) | 11 => r 11 = .pointer (some ⟨g3, 5, none⟩) | 12 => r 12 = .slice Ak ru.kinds.length ck | 13 => r 13 = .slice Ad wd.length cd | 14 => r 14 = .int .i64 (i : Nat) | 15 => r 15 = .pointer (some ⟨bp2, op2 + i, none⟩) | 16 => r 16 = .int .i64 (k : Nat) | 17 => r 17 = .pointer (some ⟨bk, ok + k * 5, none⟩) | 18 => r 18 = .pointer (some ⟨bk, ok + k * 5 + 4, none⟩) | 19 => r 19 = .int .i64 (ru.kinds.getD k kd0).cost | 20 => r 20 = .int .i64 (costW ru (wd.take i) + (ru.kinds.getD k kd0).cost) | 22 => r 22 = .int .i64 (numW (wd.take i) + 1) | _ => True) [(6, fun fl r w_ => fl 7 = false → (∃ g_, r 6 = .slice (some ⟨g_, 0, none⟩) 1 1 ∧ Blk w_ g_ 50 #[.int .i64 2, .int .i64 (k : Nat)] ∧ w9.heap.size ≤ g_)), (7, fun _ r w_ => w_.ownsRow wR4.heap.size 50 2 (r 7) ((l ++ evsP wd js i).length + 1) ((evsC (l ++ evsP wd js i)) ++ [.int .i64 2, .int .i64 (k : Nat)]) ∧ ∀ b, (r 7).ownBlock = some b → (vd2 : Value).ownBlock = some b ∨ w9.heap.size ≤ b), (21, fun _ r w_ => r 21 = r 7)]) (by kernel_rfl) rfl rfl (by intro i hi; simp at hi; subst hi; exact ⟨by simp, by omega⟩) (base_row hdn) (phiS_cons (monoS_till mono_bs) (phiS_cons (monoS_row (e := 7) (C := fun u_ => ∀ b, u_.ownBlock = some b → (vd2 : Value).ownBlock = some b ∨ w9.heap.size ≤ b)) (phiS_cons (fun _ _ _ _ _ h => h) (phiS_nil)))) (fun i_ hi_ hs_ => ?_) (fun i_ hi_ => ?_) ?_
       ·match i_, hi_ with
        | 0, _ =>
         intro val fl w1 a hb ha hd hfl;obtain ⟨hgb, hg0⟩ := hb;have hb := below_row hdn hgb hbm.size;have ha := ha.s0 (d := 25) rfl
         exact ss_val ha rfl rfl (x_move rfl) rfl rfl
        | 1, _ =>
         intro val fl w1 a hb ha hd hfl;obtain ⟨hgb, hg0⟩ := hb;have hb := below_row hdn hgb hbm.size;have ha := ha.s0 (d := 10) rfl
         exact ss_val ha rfl rfl (x_move rfl) rfl rfl
        | 2, _ =>
         intro val fl w1 a hb ha hd hfl;obtain ⟨hgb, hg0⟩ := hb;have hb := below_row hdn hgb hbm.size;have ha := ha.s0 (d := 29) rfl
         exact ss_val ha rfl rfl (x_move rfl) rfl rfl
        | 3, _ =>
         intro val fl w1 a hb ha hd hfl;obtain ⟨hgb, hg0⟩ := hb;have hb := below_row hdn hgb hbm.size;have e1 : val 1 = _ := hd 1 (memB_mem.1 rfl);have e2 : val 2 = _ := hd 2 (memB_mem.1 rfl);have ha := ha.s2 (d := 200) (e := 199) rfl e2 rfl e1
         exact ss_val ha rfl rfl (ix_22 (by show some (Value.slice Ad _ _) = _; rw [ep2]) rfl hiw) rfl rfl
        | 4, _ =>
         intro val fl w1 a hb ha hd hfl;obtain ⟨hgb, hg0⟩ := hb;have hb := below_row hdn hgb hbm.size;have e3 : val 3 = _ := hd 3 (memB_mem.1 rfl);have ha := ha.s1 (d := 201) rfl e3
         exact ss_val ha rfl rfl (ld_3 rfl (cell_on (hbm.trans hb) lp2 xk2)) rfl rfl
        | 5, _ =>
         intro val fl w1 a hb ha hd hfl;obtain ⟨hgb, hg0⟩ := hb;have hb := below_row hdn hgb hbm.size;have e4 : val 4 = _ := hd 4 (memB_mem.1 rfl);have ha := ha.s1 (d := 202) rfl e4;refine ss_call ha rfl rfl (cA1 cF45 rfl) (lclean_any _ _) rfl ?_
         rintro e w' ⟨rfl, hb'⟩
         exact ⟨_, rfl, hb', rfl⟩
        | 6, _ =>
         intro val fl w1 a hb ha hd hfl;obtain ⟨hgb, hg0⟩ := hb;have hb := below_row hdn hgb hbm.size;have e5 : val 5 = _ := hd 5 (memB_mem.1 rfl);have ha := ha.s1 (d := 203) rfl e5
         exact ss_newS ha rfl rfl (bs_29_1 rfl) rfl (fun g w' hq _ hge => fun _ => ⟨g, rfl, hq, Nat.le_trans hgb.size hge⟩)
        | 7, _ =>
         exact absurd (by simp) hs_
        | 8, _ =>
         intro val fl w1 a hb ha hd hfl;obtain ⟨hgb, hg0⟩ := hb;have hb := below_row hdn hgb hbm.size;have ha := ha.s0 (d := 27) rfl
         exact ss_val ha rfl rfl (x_move rfl) rfl rfl
        | 9, _ =>
         intro val fl w1 a hb ha hd hfl;obtain ⟨hgb, hg0⟩ := hb;have hb := below_row hdn hgb hbm.size;have e8 : val 8 = _ := hd 8 (memB_mem.1 rfl);have ha := ha.s1 (d := 206) rfl e8
         exact ss_val ha rfl rfl (x_add rfl rfl (IntWalk.i64_in _ ⟨by omega, by omega⟩)) rfl rfl
        | 10, _ =>
         intro val fl w1 a hb ha hd hfl;obtain ⟨hgb, hg0⟩ := hb;have hb := below_row hdn hgb hbm.size;have ha := ha.s0 (d := 28) rfl
         exact ss_val ha rfl rfl (x_move rfl) rfl rfl
        | 11, _ =>
         intro val fl w1 a hb ha hd hfl;obtain ⟨hgb, hg0⟩ := hb;have hb := below_row hdn hgb hbm.size;have ha := ha.s0 (d := 7) rfl
         exact ss_val ha rfl rfl (fa_28_4 rfl) rfl rfl
        | 12, _ =>
         intro val fl w1 a hb ha hd hfl;obtain ⟨hgb, hg0⟩ := hb;have hb := below_row hdn hgb hbm.size;have e11 : val 11 = _ := hd 11 (memB_mem.1 rfl);have ha := ha.s1 (d := 209) rfl e11
         exact ss_val ha rfl rfl (ld_26 rfl ((blk_grown q3 hdn rfl hgb).at (j := 5) rfl)) rfl rfl
        | 13, _ =>
         intro val fl w1 a hb ha hd hfl;obtain ⟨hgb, hg0⟩ := hb;have hb := below_row hdn hgb hbm.size;have ha := ha.s0 (d := 10) rfl
         exact ss_val ha rfl rfl (x_move rfl) rfl rfl
        | 14, _ =>
         intro val fl w1 a hb ha hd hfl;obtain ⟨hgb, hg0⟩ := hb;have hb := below_row hdn hgb hbm.size;have ha := ha.s0 (d := 29) rfl
         exact ss_val ha rfl rfl (x_move rfl) rfl rfl
        | 15, _ =>
         intro val fl w1 a hb ha hd hfl;obtain ⟨hgb, hg0⟩ := hb;have hb := below_row hdn hgb hbm.size;have e13 : val 13 = _ := hd 13 (memB_mem.1 rfl);have e14 : val 14 = _ := hd 14 (memB_mem.1 rfl);have ha := ha.s2 (d := 212) (e := 211) rfl e14 rfl e13
         exact ss_val ha rfl rfl (ix_22 (by show some (Value.slice Ad _ _) = _; rw [ep2]) rfl hiw) rfl rfl
        | 16, _ =>
         intro val fl w1 a hb ha hd hfl;obtain ⟨hgb, hg0⟩ := hb;have hb := below_row hdn hgb hbm.size;have e15 : val 15 = _ := hd 15 (memB_mem.1 rfl);have ha := ha.s1 (d := 213) rfl e15
         exact ss_val ha rfl rfl (ld_3 rfl (cell_on (hbm.trans hb) lp2 xk2)) rfl rfl
        | 17, _ =>
         intro val fl w1 a hb ha hd hfl;obtain ⟨hgb, hg0⟩ := hb;have hb := below_row hdn hgb hbm.size;have e12 : val 12 = _ := hd 12 (memB_mem.1 rfl);have e16 : val 16 = _ := hd 16 (memB_mem.1 rfl);have ha := ha.s2 (d := 214) (e := 210) rfl e16 rfl e12
         exact ss_val ha rfl rfl (ix_26 (by show some (Value.slice Ak _ _) = _; rw [eAk]) rfl hkK) rfl rfl
        | 18, _ =>
         intro val fl w1 a hb ha hd hfl;obtain ⟨hgb, hg0⟩ := hb;have hb := below_row hdn hgb hbm.size;have e17 : val 17 = _ := hd 17 (memB_mem.1 rfl);have ha := ha.s1 (d := 215) rfl e17
         exact ss_val ha rfl rfl (fa_52_3 rfl) rfl rfl
        | 19, _ =>
         intro val fl w1 a hb ha hd hfl;obtain ⟨hgb, hg0⟩ := hb;have hb := below_row hdn hgb hbm.size;have e18 : val 18 = _ := hd 18 (memB_mem.1 rfl);have ha := ha.s1 (d := 216) rfl e18
         exact ss_val ha rfl rfl (ld_3 rfl (cell_on hb (Nat.lt_of_lt_of_le lkd hbom.size) hkd.c4)) rfl rfl
        | 20, _ =>
         intro val fl w1 a hb ha hd hfl;obtain ⟨hgb, hg0⟩ := hb;have hb := below_row hdn hgb hbm.size;have e10 : val 10 = _ := hd 10 (memB_mem.1 rfl);have e19 : val 19 = _ := hd 19 (memB_mem.1 rfl);have ha := ha.s2 (d := 217) (e := 208) rfl e19 rfl e10
         exact ss_val ha rfl rfl (x_add rfl rfl (IntWalk.i64_in _ ⟨by omega, by omega⟩)) rfl rfl
        | 21, _ =>
         intro val fl w1 a hb ha hd hfl;obtain ⟨hgb, hg0⟩ := hb;have hb := below_row hdn hgb hbm.size;obtain ⟨ho7_, hn7_⟩ := hd 7 (memB_mem.1 rfl);change w1.ownsRow _ _ _ (val 7) _ _ at ho7_;obtain ⟨A7_, c7_, e7, _⟩ := (Rd.of_own ho7_).shape;rw [e7] at ho7_;have ha := ha.s1 (d := 205) rfl e7
         exact ss_val ha rfl rfl (x_assign rfl) e7.symm rfl
        | 22, _ =>
         intro val fl w1 a hb ha hd hfl;obtain ⟨hgb, hg0⟩ := hb;have hb := below_row hdn hgb hbm.size;have e9 : val 9 = _ := hd 9 (memB_mem.1 rfl);have ha := ha.s1 (d := 207) rfl e9
         exact ss_val ha rfl rfl (x_assign rfl) rfl rfl
        | k + 23, h => exact absurd h (by omega)
       ·simp only [List.mem_singleton] at hi_; subst hi_
        intro val fl w1 a hb hfi ha hd hfl;obtain ⟨hgb, hg0⟩ := hb;have hb := below_row hdn hgb hbm.size;have e0 : val 0 = _ := hd 0 (memB_mem.1 rfl);obtain ⟨g6_, e6, q6_, h6_⟩ := hd 6 (memB_mem.1 rfl) hfi;change val 6 = _ at e6;have ha := ha.s2 (d := 204) (e := 198) rfl e6 rfl e0;refine ts_push ev_elem ha rfl rfl rfl (hg0 hfi) (rd_one (l := [.int .i64 2, .int .i64 (k : Nat)]) q6_ rfl) (by intro u hu; simp only [List.mem_cons, List.not_mem_nil, or_false] at hu; rcases hu with rfl | rfl <;> rfl) (by omega) rfl (Nat.le_trans hbm.size hgb.size) ?_
        intro v' w' ho' hgr hat;refine ⟨v', rfl, hgr.size, ⟨grown_three hgb hgr, fun h => by rw [fset_eq] at h; cases h⟩, ⟨ho', fun b hb' => ?_⟩, fun j _ hj hn hA => ?_⟩
        ·rcases hat with h | h
         ·exact .inl (h ▸ hb')
         ·refine .inr ?_
          change v'.ownBlock = some b at hb';rw [h] at hb'
          injection hb' with hb'
          have := hgb.size
          omega
        ·exact phiS_cons_st (C := fun j => j ≠ 7 ∧ 7 ∉ clsAt [[], [], [], [1, 2], [1, 2, 3], [1, 2, 3, 4], [1, 2, 3, 4, 5], [0, 1, 2, 3, 4, 5, 6], [], [8], [], [], [11], [], [], [13, 14], [13, 14, 15], [11, 12, 13, 14, 15, 16], [11, 12, 13, 14, 15, 16, 17], [11, 12, 13, 14, 15, 16, 17, 18], [10, 11, 12, 13, 14, 15, 16, 17, 18, 19], [0, 1, 2, 3, 4, 5, 6, 7], [0, 1, 2, 3, 4, 5, 6, 7, 8, 9, 21], [0, 1, 2, 3, 4, 5, 6, 7, 8, 9, 10, 11, 12, 13, 14, 15, 16, 17, 18, 19, 20, 21, 22]] j) (fun _ _ h => by rw [fset_eq] at h; cases h) (phiS_cons_st (C := fun j => j ≠ 7 ∧ 7 ∉ clsAt [[], [], [], [1, 2], [1, 2, 3], [1, 2, 3, 4], [1, 2, 3, 4, 5], [0, 1, 2, 3, 4, 5, 6], [], [8], [], [], [11], [], [], [13, 14], [13, 14, 15], [11, 12, 13, 14, 15, 16], [11, 12, 13, 14, 15, 16, 17], [11, 12, 13, 14, 15, 16, 17, 18], [10, 11, 12, 13, 14, 15, 16, 17, 18, 19], [0, 1, 2, 3, 4, 5, 6, 7], [0, 1, 2, 3, 4, 5, 6, 7, 8, 9, 21], [0, 1, 2, 3, 4, 5, 6, 7, 8, 9, 10, 11, 12, 13, 14, 15, 16, 17, 18, 19, 20, 21, 22]] j) (fun hc => absurd rfl hc.1) (phiS_cons_st (C := fun j => j ≠ 7 ∧ 7 ∉ clsAt [[], [], [], [1, 2], [1, 2, 3], [1, 2, 3, 4], [1, 2, 3, 4, 5], [0, 1, 2, 3, 4, 5, 6], [], [8], [], [], [11], [], [], [13, 14], [13, 14, 15], [11, 12, 13, 14, 15, 16], [11, 12, 13, 14, 15, 16, 17], [11, 12, 13, 14, 15, 16, 17, 18], [10, 11, 12, 13, 14, 15, 16, 17, 18, 19], [0, 1, 2, 3, 4, 5, 6, 7], [0, 1, 2, 3, 4, 5, 6, 7, 8, 9, 21], [0, 1, 2, 3, 4, 5, 6, 7, 8, 9, 10, 11, 12, 13, 14, 15, 16, 17, 18, 19, 20, 21, 22]] j) (fun hc => absurd (memB_mem.1 rfl) hc.2) (fun _ _ h => h))) j ⟨hj, hn⟩
       ·intro val fl w' hfl hb halc hd
        obtain ⟨hgb, _⟩ := hb;have hb := below_row hdn hgb hbm.size;have e0 : val 0 = _ := hd 0 (by omega)
        have e1 : val 1 = _ := hd 1 (by omega)
        have e2 : val 2 = _ := hd 2 (by omega)
        have e3 : val 3 = _ := hd 3 (by omega)
        have e4 : val 4 = _ := hd 4 (by omega)
        have e5 : val 5 = _ := hd 5 (by omega)
        obtain ⟨ho7, hn7⟩ := hd 7 (by omega)
        change w'.ownsRow _ _ _ (val 7) _ _ at ho7;have e8 : val 8 = _ := hd 8 (by omega)
        have e9 : val 9 = _ := hd 9 (by omega)
        have e10 : val 10 = _ := hd 10 (by omega)
        have e11 : val 11 = _ := hd 11 (by omega)
        have e12 : val 12 = _ := hd 12 (by omega)
        have e13 : val 13 = _ := hd 13 (by omega)
        have e14 : val 14 = _ := hd 14 (by omega)
        have e15 : val 15 = _ := hd 15 (by omega)
        have e16 : val 16 = _ := hd 16 (by omega)
        have e17 : val 17 = _ := hd 17 (by omega)
        have e18 : val 18 = _ := hd 18 (by omega)
        have e19 : val 19 = _ := hd 19 (by omega)
        have e20 : val 20 = _ := hd 20 (by omega)
        have e21 : val 21 = val 7 := hd 21 (by omega)
        have e22 : val 22 = _ := hd 22 (by omega)
        refine EL.ends (cs := [_, _, _, _, _, _, val 6, val 7, _, _, _, _, _, _, _, _, _, _, _, _, _, _, _]) ⟨e0, e1, e2, e3, e4, e5, rfl, rfl, e8, e9, e10, e11, e12, e13, e14, e15, e16, e17, e18, e19, e20, e21, e22, trivial⟩ rfl ?_;replace q1 := blk_grown q1 hdn rfl hgb;replace q3 := blk_grown q3 hdn rfl hgb;replace hst := own_grown hst hdn rfl hgb;replace hbw := hbw.trans (hb.mono hbwm.size);replace hbo := hbo.trans (hb.mono hbom.size);replace hbm := hbm.trans (hb.mono (Nat.le_refl _));refine EL.as rfl rfl (EL.nil ?_)
        exact EX.cutE (val 7) ⟨rfl, agree_i (by rw [numW_snoc hiw, numK_yes hk0]) rfl, agree_i (by rw [costW_snoc ru hiw, ek, kcost_nat]) rfl, trivial⟩ (by repeat first | with_reducible exact (Sub.refl _).del _ | refine sp_ rfl ?_ | exact (Sub.refl _).del _ | refine sd_ rfl ?_ | refine sn_ ?_) ⟨(by rw [evK_yes hk0, ek]; exact own_ev ho7), hst, hbm⟩
      ·
       refine EL.val (x_geq (r := false) rfl rfl (decide_eq_false hk0)) rfl (EL.nil (EX.seq (EC.no rfl (EC.skip ?_))))
       exact EX.cutE vd2 ⟨rfl, agree_i (b := numW (wd.take i)) (by rw [numW_snoc hiw, numK_no hk0]; omega) rfl, agree_i (b := costW ru (wd.take i)) (by rw [costW_snoc ru hiw, kcost_no hk0]; omega) rfl, trivial⟩ (by repeat first | with_reducible exact (Sub.refl _).del _ | refine sp_ rfl ?_ | exact (Sub.refl _).del _ | refine sd_ rfl ?_ | refine sn_ ?_) ⟨(by rw [evK_no hk0, List.append_nil]; exact hdn), hst, hbm⟩
     ·
      clear hdn hst hbm q1 q3 hx hjs hbd hbf hbw hbo
      rintro vd3 W19 ⟨hdn, hst, hbm⟩
      have q1 := q1m.below hbm q1m.lt;have q3 := q3m.below hbm q3m.lt;have hx := own_below hxm hbm (Nat.le_refl _);have hjs := own_below hjsm hbm (Nat.le_refl _);have hbd := own_below hbdm hbm (Nat.le_refl _);have hbf := own_below hbfm hbm (Nat.le_refl _);have hbw := hbwm.trans (hbm.mono hbwm.size);have hbo := hbom.trans (hbm.mono hbom.size);refine EC.seq (EC.region (EL.as rfl rfl (EL.nil (EX.seq ?_))));refine EC.cutD [30, 219, 220, 221, 222, 223, 224, 225] (fun _ : Unit => [(30, .int .i64 (if i = 0 then 0 else wf.getD (i - 1) 0))]) (fun _ W => W19 = W) ?_ ?_
      ·
       refine EC.seq (EC.region (EL.mv rfl rfl ?_))
       by_cases hi0 : i = 0
       ·
        refine EL.val (x_gtr (r := false) rfl rfl (decide_eq_false (by omega))) rfl ?_
        refine EL.nil (EX.seq (EC.no rfl (EC.skip ?_)))
        exact EX.cutE () ⟨agree_i (by rw [if_pos hi0]) rfl, trivial⟩ (by repeat first | with_reducible exact (Sub.refl _).del _ | refine sp_ rfl ?_ | exact (Sub.refl _).del _ | refine sd_ rfl ?_ | refine sn_ ?_) rfl
       ·
        obtain ⟨bf1, of1, ef1, _, xf1⟩ := ints_cells wf (i - 1) (by omega) W19 W19.heap.size _ _ _ (Rd.of_own hbf)
        refine EL.val (x_gtr (r := true) rfl rfl (decide_eq_true (by omega))) rfl ?_
        refine EL.nil (EX.seq (EC.yes rfl (EC.region (EL.mv rfl rfl (EL.mv rfl rfl ?_)))));refine EL.val (x_sub rfl rfl (c := ((i - 1 : Nat) : Int)) ((IntWalk.i64_in _ ⟨by omega, by omega⟩).trans (by omega))) rfl ?_
        refine EL.val (ix_22 (by show some (Value.slice Af _ _) = _; rw [ef1]) rfl (by omega)) rfl ?_
        refine EL.val (ld_3 rfl xf1) rfl (EL.as rfl rfl (EL.nil ?_))
        exact EX.cutE () ⟨agree_i (by rw [if_neg hi0]) rfl, trivial⟩ (by repeat first | with_reducible exact (Sub.refl _).del _ | refine sp_ rfl ?_ | exact (Sub.refl _).del _ | refine sd_ rfl ?_ | refine sn_ ?_) rfl
      ·
       rintro _ _ rfl
       obtain ⟨bf2, of2, ef2, _, xf2⟩ := ints_cells wf i hif W19 W19.heap.size _ _ _ (Rd.of_own hbf);refine EC.seq (EC.seq (EC.region (EL.mv rfl rfl (EL.mv rfl rfl ?_))));refine EL.val (ix_22 (by show some (Value.slice Af _ _) = _; rw [ef2]) rfl hif) rfl ?_
       refine EL.val (ld_3 rfl xf2) rfl (EL.mv rfl rfl (EL.val (x_lss (r := false) rfl rfl (decide_eq_false (Int.not_lt.2 hfm.1))) rfl (EL.mv rfl rfl (EL.mg rfl rfl rfl rfl (EL.mg rfl rfl rfl rfl ?_)))));refine EL.valg rfl rfl (ix_22 (by show some (Value.slice Af _ _) = _; rw [ef2]) rfl hif) rfl ?_
       refine EL.valg rfl rfl (ld_3 rfl xf2) rfl (EL.mg rfl rfl rfl rfl ?_);refine EL.valg rfl rfl (x_add rfl rfl (IntWalk.i64_in _ ⟨by omega, by omega⟩)) rfl ?_
       refine EL.valg rfl rfl (x_gtr (r := false) rfl rfl (decide_eq_false (Int.not_lt.2 hfm.2))) rfl (EL.pf rfl rfl rfl (EL.nil (EX.seq (EC.no rfl (EC.skip (EX.seq ?_))))));obtain ⟨bp3, op3, ep3, lp3, xk3⟩ := ints_cells wd i hiw wR4 wR4.heap.size _ _ _ (Rd.of_own hbdm);obtain ⟨bj3, oj3, ej3, lj3, xj3⟩ := ints_cells js i hlt wR4 wR4.heap.size _ _ _ (Rd.of_own hjsm);have hln := evsP_len wd js i;have hlen : (l ++ evsP wd js i ++ evK (wd.getD i 0)).length ≤ 60 := by rw [List.length_append, List.length_append]; have := evK_len (wd.getD i 0); omega
       have hW := below_row hdn (w1 := W19) ⟨rfl, rfl, rfl, Nat.le_refl _, fun _ _ _ => rfl⟩ hbm.size
       clear hW;have lt_1 := q1.lt;have lt_3 := q3.lt;refine EC.regionS [[], [], [], [1, 2], [1, 2, 3], [1, 2, 3, 4], [1, 2, 3, 4, 5], [0, 1, 2, 3, 4, 5, 6], [], [], [], [9, 10], [9, 10, 11], [9, 10, 11, 12], [9, 10, 11, 12, 13], [0, 1, 2, 3, 4, 5, 6, 7, 8, 9, 10, 11, 12, 13, 14], [0, 1, 2, 3, 4, 5, 6, 7, 8, 9, 10, 11, 12, 13, 14, 15], [0, 1, 2, 3, 4, 5, 6, 7, 8, 9, 10, 11, 12, 13, 14, 15, 16]] 15 [] [7] (fun fl w_ => W19.grownBy w_ (vd3 : Value).ownBlock ∧ (fl 7 = false → w_.ownsRow wR4.heap.size 50 2 vd3 (l ++ evsP wd js i ++ evK (wd.getD i 0)).length (evsC (l ++ evsP wd js i ++ evK (wd.getD i 0))))) (phiS (fun i_ r => match i_ with | 0 => r 0 = vd3 | 1 => r 1 = .slice Aj js.length cj | 2 => r 2 = .int .i64 (i : Nat) | 3 => r 3 = .pointer (some ⟨bj3, oj3 + i, none⟩) | 4 => r 4 = .int .i64 (js.getD i 0) | 5 => r 5 = .agg #[.int .i64 1, .int .i64 (js.getD i 0)] | 8 => r 8 = vs2 | 9 => r 9 = .slice Ad wd.length cd | 10 => r 10 = .int .i64 (i : Nat) | 11 => r 11 = .pointer (some ⟨bp3, op3 + i, none⟩) | 12 => r 12 = .int .i64 (wd.getD i 0) | 13 => r 13 = .agg #[.int .i64 0, .int .i64 (wd.getD i 0)] | _ => True) [(6, fun fl r w_ => fl 7 = false → (∃ g_, r 6 = .slice (some ⟨g_, 0, none⟩) 1 1 ∧ Blk w_ g_ 50 #[.int .i64 1, .int .i64 (js.getD i 0)] ∧ W19.heap.size ≤ g_)), (7, fun _ r w_ => w_.ownsRow wR4.heap.size 50 2 (r 7) ((l ++ evsP wd js i ++ evK (wd.getD i 0)).length + 1) ((evsC (l ++ evsP wd js i ++ evK (wd.getD i 0))) ++ [.int .i64 1, .int .i64 (js.getD i 0)]) ∧ ∀ b, (r 7).ownBlock = some b → (vd3 : Value).ownBlock = some b ∨ W19.heap.size ≤ b), (14, fun _ r w_ => ∃ g_, r 14 = .slice (some ⟨g_, 0, none⟩) 1 1 ∧ Blk w_ g_ 70 #[.int .i64 0, .int .i64 (wd.getD i 0)] ∧ W19.heap.size ≤ g_)]) (by kernel_rfl) rfl rfl (by intro i hi; simp at hi; subst hi; exact ⟨by simp, by omega⟩) (base_row hdn) (phiS_cons (monoS_till mono_bs) (phiS_cons (monoS_row (e := 7) (C := fun u_ => ∀ b, u_.ownBlock = some b → (vd3 : Value).ownBlock = some b ∨ W19.heap.size ≤ b)) (phiS_cons monoS_bs (phiS_nil)))) (fun i_ hi_ hs_ => ?_) (fun i_ hi_ => ?_) ?_
       ·match i_, hi_ with
        | 0, _ =>
         intro val fl w1 a hb ha hd hfl;obtain ⟨hgb, hg0⟩ := hb;have hb := below_row hdn hgb hbm.size;have ha := ha.s0 (d := 25) rfl
         exact ss_val ha rfl rfl (x_move rfl) rfl rfl
        | 1, _ =>
         intro val fl w1 a hb ha hd hfl;obtain ⟨hgb, hg0⟩ := hb;have hb := below_row hdn hgb hbm.size;have ha := ha.s0 (d := 9) rfl
         exact ss_val ha rfl rfl (x_move rfl) rfl rfl
        | 2, _ =>
         intro val fl w1 a hb ha hd hfl;obtain ⟨hgb, hg0⟩ := hb;have hb := below_row hdn hgb hbm.size;have ha := ha.s0 (d := 29) rfl
         exact ss_val ha rfl rfl (x_move rfl) rfl rfl
        | 3, _ =>
         intro val fl w1 a hb ha hd hfl;obtain ⟨hgb, hg0⟩ := hb;have hb := below_row hdn hgb hbm.size;have e1 : val 1 = _ := hd 1 (memB_mem.1 rfl);have e2 : val 2 = _ := hd 2 (memB_mem.1 rfl);have ha := ha.s2 (d := 243) (e := 242) rfl e2 rfl e1
         exact ss_val ha rfl rfl (ix_22 (by show some (Value.slice Aj _ _) = _; rw [ej3]) rfl hlt) rfl rfl
        | 4, _ =>
         intro val fl w1 a hb ha hd hfl;obtain ⟨hgb, hg0⟩ := hb;have hb := below_row hdn hgb hbm.size;have e3 : val 3 = _ := hd 3 (memB_mem.1 rfl);have ha := ha.s1 (d := 244) rfl e3
         exact ss_val ha rfl rfl (ld_3 rfl (cell_on (hbm.trans hb) lj3 xj3)) rfl rfl
        | 5, _ =>
         intro val fl w1 a hb ha hd hfl;obtain ⟨hgb, hg0⟩ := hb;have hb := below_row hdn hgb hbm.size;have e4 : val 4 = _ := hd 4 (memB_mem.1 rfl);have ha := ha.s1 (d := 245) rfl e4;refine ss_call ha rfl rfl (cA1 cF46 rfl) (lload_any _ _) rfl ?_
         rintro e w' ⟨rfl, hb'⟩
         exact ⟨_, rfl, hb', rfl⟩
        | 6, _ =>
         intro val fl w1 a hb ha hd hfl;obtain ⟨hgb, hg0⟩ := hb;have hb := below_row hdn hgb hbm.size;have e5 : val 5 = _ := hd 5 (memB_mem.1 rfl);have ha := ha.s1 (d := 246) rfl e5
         exact ss_newS ha rfl rfl (bs_29_1 rfl) rfl (fun g w' hq _ hge => fun _ => ⟨g, rfl, hq, Nat.le_trans hgb.size hge⟩)
        | 7, _ =>
         exact absurd (by simp) hs_
        | 8, _ =>
         intro val fl w1 a hb ha hd hfl;obtain ⟨hgb, hg0⟩ := hb;have hb := below_row hdn hgb hbm.size;have ha := ha.s0 (d := 26) rfl
         exact ss_val ha rfl rfl (x_move rfl) rfl rfl
        | 9, _ =>
         intro val fl w1 a hb ha hd hfl;obtain ⟨hgb, hg0⟩ := hb;have hb := below_row hdn hgb hbm.size;have ha := ha.s0 (d := 10) rfl
         exact ss_val ha rfl rfl (x_move rfl) rfl rfl
        | 10, _ =>
         intro val fl w1 a hb ha hd hfl;obtain ⟨hgb, hg0⟩ := hb;have hb := below_row hdn hgb hbm.size;have ha := ha.s0 (d := 29) rfl
         exact ss_val ha rfl rfl (x_move rfl) rfl rfl
        | 11, _ =>
         intro val fl w1 a hb ha hd hfl;obtain ⟨hgb, hg0⟩ := hb;have hb := below_row hdn hgb hbm.size;have e9 : val 9 = _ := hd 9 (memB_mem.1 rfl);have e10 : val 10 = _ := hd 10 (memB_mem.1 rfl);have ha := ha.s2 (d := 251) (e := 250) rfl e10 rfl e9
         exact ss_val ha rfl rfl (ix_22 (by show some (Value.slice Ad _ _) = _; rw [ep3]) rfl hiw) rfl rfl
        | 12, _ =>
         intro val fl w1 a hb ha hd hfl;obtain ⟨hgb, hg0⟩ := hb;have hb := below_row hdn hgb hbm.size;have e11 : val 11 = _ := hd 11 (memB_mem.1 rfl);have ha := ha.s1 (d := 252) rfl e11
         exact ss_val ha rfl rfl (ld_3 rfl (cell_on (hbm.trans hb) lp3 xk3)) rfl rfl
        | 13, _ =>
         intro val fl w1 a hb ha hd hfl;obtain ⟨hgb, hg0⟩ := hb;have hb := below_row hdn hgb hbm.size;have e12 : val 12 = _ := hd 12 (memB_mem.1 rfl);have ha := ha.s1 (d := 253) rfl e12
         exact ss_val ha rfl rfl (bd_70_1 rfl) rfl rfl
        | 14, _ =>
         intro val fl w1 a hb ha hd hfl;obtain ⟨hgb, hg0⟩ := hb;have hb := below_row hdn hgb hbm.size;have e13 : val 13 = _ := hd 13 (memB_mem.1 rfl);have ha := ha.s1 (d := 254) rfl e13
         exact ss_newS ha rfl rfl (bs_65_1 rfl) rfl (fun g w' hq _ hge => ⟨g, rfl, hq, Nat.le_trans hgb.size hge⟩)
        | k + 15, h => exact absurd h (by omega)
       ·simp only [List.mem_singleton] at hi_; subst hi_
        intro val fl w1 a hb hfi ha hd hfl;obtain ⟨hgb, hg0⟩ := hb;have hb := below_row hdn hgb hbm.size;have e0 : val 0 = _ := hd 0 (memB_mem.1 rfl);obtain ⟨g6_, e6, q6_, h6_⟩ := hd 6 (memB_mem.1 rfl) hfi;change val 6 = _ at e6;have ha := ha.s2 (d := 247) (e := 241) rfl e6 rfl e0;refine ts_push ev_elem ha rfl rfl rfl (hg0 hfi) (rd_one (l := [.int .i64 1, .int .i64 (js.getD i 0)]) q6_ rfl) (by intro u hu; simp only [List.mem_cons, List.not_mem_nil, or_false] at hu; rcases hu with rfl | rfl <;> rfl) (by omega) rfl (Nat.le_trans hbm.size hgb.size) ?_
        intro v' w' ho' hgr hat;refine ⟨v', rfl, hgr.size, ⟨grown_three hgb hgr, fun h => by rw [fset_eq] at h; cases h⟩, ⟨ho', fun b hb' => ?_⟩, fun j _ hj hn hA => ?_⟩
        ·rcases hat with h | h
         ·exact .inl (h ▸ hb')
         ·refine .inr ?_
          change v'.ownBlock = some b at hb';rw [h] at hb'
          injection hb' with hb'
          have := hgb.size
          omega
        ·exact phiS_cons_st (C := fun j => j ≠ 7 ∧ 7 ∉ clsAt [[], [], [], [1, 2], [1, 2, 3], [1, 2, 3, 4], [1, 2, 3, 4, 5], [0, 1, 2, 3, 4, 5, 6], [], [], [], [9, 10], [9, 10, 11], [9, 10, 11, 12], [9, 10, 11, 12, 13], [0, 1, 2, 3, 4, 5, 6, 7, 8, 9, 10, 11, 12, 13, 14], [0, 1, 2, 3, 4, 5, 6, 7, 8, 9, 10, 11, 12, 13, 14, 15], [0, 1, 2, 3, 4, 5, 6, 7, 8, 9, 10, 11, 12, 13, 14, 15, 16]] j) (fun _ _ h => by rw [fset_eq] at h; cases h) (phiS_cons_st (C := fun j => j ≠ 7 ∧ 7 ∉ clsAt [[], [], [], [1, 2], [1, 2, 3], [1, 2, 3, 4], [1, 2, 3, 4, 5], [0, 1, 2, 3, 4, 5, 6], [], [], [], [9, 10], [9, 10, 11], [9, 10, 11, 12], [9, 10, 11, 12, 13], [0, 1, 2, 3, 4, 5, 6, 7, 8, 9, 10, 11, 12, 13, 14], [0, 1, 2, 3, 4, 5, 6, 7, 8, 9, 10, 11, 12, 13, 14, 15], [0, 1, 2, 3, 4, 5, 6, 7, 8, 9, 10, 11, 12, 13, 14, 15, 16]] j) (fun hc => absurd rfl hc.1) (phiS_cons_st (C := fun j => j ≠ 7 ∧ 7 ∉ clsAt [[], [], [], [1, 2], [1, 2, 3], [1, 2, 3, 4], [1, 2, 3, 4, 5], [0, 1, 2, 3, 4, 5, 6], [], [], [], [9, 10], [9, 10, 11], [9, 10, 11, 12], [9, 10, 11, 12, 13], [0, 1, 2, 3, 4, 5, 6, 7, 8, 9, 10, 11, 12, 13, 14], [0, 1, 2, 3, 4, 5, 6, 7, 8, 9, 10, 11, 12, 13, 14, 15], [0, 1, 2, 3, 4, 5, 6, 7, 8, 9, 10, 11, 12, 13, 14, 15, 16]] j) (fun _ ⟨g, h1, h2, h3⟩ => ⟨g, h1, h2.grown hgr (fun h => by have := (hdn.lt _ h.symm).2; omega), h3⟩) (fun _ _ h => h))) j ⟨hj, hn⟩
       ·intro val fl w' hfl hb halc hd
        obtain ⟨hgb, _⟩ := hb;have hb := below_row hdn hgb hbm.size;have e0 : val 0 = _ := hd 0 (by omega)
        have e1 : val 1 = _ := hd 1 (by omega)
        have e2 : val 2 = _ := hd 2 (by omega)
        have e3 : val 3 = _ := hd 3 (by omega)
        have e4 : val 4 = _ := hd 4 (by omega)
        have e5 : val 5 = _ := hd 5 (by omega)
        obtain ⟨ho7, hn7⟩ := hd 7 (by omega)
        change w'.ownsRow _ _ _ (val 7) _ _ at ho7;have e8 : val 8 = _ := hd 8 (by omega)
        have e9 : val 9 = _ := hd 9 (by omega)
        have e10 : val 10 = _ := hd 10 (by omega)
        have e11 : val 11 = _ := hd 11 (by omega)
        have e12 : val 12 = _ := hd 12 (by omega)
        have e13 : val 13 = _ := hd 13 (by omega)
        obtain ⟨ga14, e14, qa14, hga14⟩ := hd 14 (by omega)
        change val 14 = _ at e14;refine EL.ends (cs := [_, _, _, _, _, _, val 6, val 7, _, _, _, _, _, _, _]) ⟨e0, e1, e2, e3, e4, e5, rfl, rfl, e8, e9, e10, e11, e12, e13, e14, trivial⟩ rfl ?_;replace q1 := blk_grown q1 hdn rfl hgb;replace q3 := blk_grown q3 hdn rfl hgb;replace hst := own_grown hst hdn rfl hgb;have n1_10 : g1 ≠ ga14 := Nat.ne_of_lt (Nat.lt_of_lt_of_le lt_1 hga14);have n3_10 : g3 ≠ ga14 := Nat.ne_of_lt (Nat.lt_of_lt_of_le lt_3 hga14);have bhbw_10 := Nat.le_trans hbw.size hga14;have bhbo_10 := Nat.le_trans hbo.size hga14;have bhbm_10 := Nat.le_trans hbm.size hga14;replace hbw := hbw.trans (hb.mono hbwm.size);replace hbo := hbo.trans (hb.mono hbom.size);replace hbm := hbm.trans (hb.mono (Nat.le_refl _));clear hdn;have hdn := own_ev ho7;refine EL.push st_elem rfl rfl hst (rd_one (l := [.int .i64 0, .int .i64 (wd.getD i 0)]) qa14 rfl) (by intro u hu; simp only [List.mem_cons, List.not_mem_nil, or_false] at hu; rcases hu with rfl | rfl <;> rfl) (by omega) rfl hbm.size rfl ?_
        intro v9 w9 hst9 hgr hb_ hat;have hbm9 := hbm.trans hb_;have hdn9 := own_grown hdn hst rfl hgr;clear hdn hst hbm hgr hb_ hat;have hdn := hdn9;have hst := hst9;have hbm := hbm9;clear hdn9 hst9 hbm9;have q1 := q1m.below hbm q1m.lt;have q3 := q3m.below hbm q3m.lt;have hx := own_below hxm hbm (Nat.le_refl _);have hjs := own_below hjsm hbm (Nat.le_refl _);have hbd := own_below hbdm hbm (Nat.le_refl _);have hbf := own_below hbfm hbm (Nat.le_refl _);have hbw := hbwm.trans (hbm.mono hbwm.size);have hbo := hbom.trans (hbm.mono hbom.size);refine EL.as rfl rfl (EL.as rfl rfl (EL.nil (EX.blk (EX.seq (EC.region (EL.mv rfl rfl ?_))))));refine EL.val (x_add rfl rfl (c := ((i + 1 : Nat) : Int)) ((IntWalk.i64_in _ ⟨by first | omega | (simp only; omega), by first | omega | (simp only; omega)⟩).trans (by first | omega | (simp only; omega)))) rfl ?_
        refine EL.as rfl rfl (EL.nil ?_);refine EX.roundD (i + 1, (val 7), v9) ⟨rfl, rfl, rfl, rfl, rfl, trivial⟩ (by repeat first | with_reducible exact .refl _ | refine sp_ rfl ?_ | exact .refl _ | refine sd_ rfl ?_ | refine sn_ ?_) ⟨hlt, (by simp only; rw [evs_next]; exact hdn), (by simp only; rw [take_snoc (d := 0) hiw, List.map_append, stps_app]; exact hst), hbm⟩ (by simp only; omega)
    ·
     obtain rfl : i = js.length := by omega
     have htk : wd.take js.length = wd := by rw [← hdl, List.take_length]
     rw [htk] at hst ⊢;obtain ⟨An, cn_, rfl, _⟩ := (Rd.of_own hdn).shape;obtain ⟨As, cs_, rfl, _⟩ := (Rd.of_own hst).shape;refine EC.seq (EC.seq (EC.region (EL.mv rfl rfl (EL.mv rfl rfl (EL.val (ln_22 rfl) rfl ?_)))));refine EL.val (x_lss rfl rfl (decide_eq_false (show ¬(((js.length : Nat) : Int) < ((js.length : Nat) : Int)) by omega))) rfl ?_
     refine EL.nil (EX.seq (EC.no rfl (EC.exit (EX.seq_exit (EX.seq_exit (EX.blk_here (EX.seq ?_)))))));refine EC.cutD [6, 257, 258, 259, 260, 261, 262, 263, 264, 265, 266, 267, 268, 269, 270, 271, 272, 273] (fun _ : Unit => []) (fun _ W => wx = W) ?_ ?_
     ·
      refine EC.seq (EC.region (EL.mv rfl rfl ?_))
      by_cases hn0 : 0 < numW wd
      ·
       have hj0 : 0 < js.length := by have := numW_bd wd; omega
       obtain ⟨bf3, of3, ef3, _, xf3⟩ := ints_cells wf (wf.length - 1) (by omega) wx wx.heap.size _ _ _ (Rd.of_own hbf)
       have hlast := few_last hfw hcd hpl hj0;rw [← hfl] at hlast;refine EL.val (x_gtr (r := true) rfl rfl (decide_eq_true hn0)) rfl (EL.mv rfl rfl (EL.mg rfl rfl rfl rfl (EL.mg rfl rfl rfl rfl (EL.valg rfl rfl (ln_22 rfl) rfl ?_))));refine EL.valg rfl rfl (x_sub rfl rfl (c := ((wf.length - 1 : Nat) : Int)) ((IntWalk.i64_in _ ⟨by omega, by omega⟩).trans (by omega))) rfl ?_
       refine EL.valg rfl rfl (ix_22 (by show some (Value.slice Af _ _) = _; rw [ef3]) rfl (by omega)) rfl ?_
       refine EL.valg rfl rfl (ld_3 rfl xf3) rfl (EL.mg rfl rfl rfl rfl ?_);refine EL.valg rfl rfl (x_neq (r := false) rfl rfl (decide_eq_false (fun h => h hlast))) rfl ?_
       refine EL.pt rfl rfl rfl (EL.mv rfl rfl (EL.mg rfl rfl rfl rfl (EL.mg rfl rfl rfl rfl ?_)));refine EL.valg rfl rfl (x_neq (r := false) rfl rfl (decide_eq_false (fun h => h hpl.cost.symm))) rfl ?_
       refine EL.pf rfl rfl rfl (EL.nil (EX.seq (EC.no rfl (EC.skip ?_))))
       exact EX.cutE () trivial (by repeat first | with_reducible exact (Sub.refl _).del _ | refine sp_ rfl ?_ | exact (Sub.refl _).del _ | refine sd_ rfl ?_ | refine sn_ ?_) rfl
      ·
       refine EL.val (x_gtr (r := false) rfl rfl (decide_eq_false hn0)) rfl (EL.mv rfl rfl (EL.skip rfl rfl rfl rfl (EL.skip rfl rfl rfl rfl (EL.skip rfl rfl rfl rfl (EL.skip rfl rfl rfl rfl (EL.skip rfl rfl rfl rfl (EL.skip rfl rfl rfl rfl (EL.skip rfl rfl rfl rfl (EL.skip rfl rfl rfl rfl ?_)))))))));refine EL.pf rfl rfl rfl (EL.mv rfl rfl (EL.mg rfl rfl rfl rfl (EL.mg rfl rfl rfl rfl ?_)));refine EL.valg rfl rfl (x_neq (r := false) rfl rfl (decide_eq_false (fun h => h hpl.cost.symm))) rfl ?_
       refine EL.pf rfl rfl rfl (EL.nil (EX.seq (EC.no rfl (EC.skip ?_))))
       exact EX.cutE () trivial (by repeat first | with_reducible exact (Sub.refl _).del _ | refine sp_ rfl ?_ | exact (Sub.refl _).del _ | refine sd_ rfl ?_ | refine sn_ ?_) rfl
     ·
      rintro _ _ rfl
      refine EC.seq (EC.region (EL.val (ld_28 rfl (q3.at (j := 0) rfl) (q3.at (j := 1) rfl) (q3.at (j := 2) rfl) (q3.at (j := 3) rfl) (q3.at (j := 4) rfl) (q3.at (j := 5) rfl)) rfl (EL.mv rfl rfl ?_)));have hzd := done_ref (ws := wd) hrb hz hl30 hj8 hjE hkk hdl;have hln := evsP_len wd js js.length;refine EL.call (cA2 cF13 rfl rfl) rfl (Aud_to ((hR.below hbo).more hbo.size) (Nat.le_refl _) hs hzd (Rd.of_own hdn) (by rw [List.length_append]; omega)) ?_
      rintro e w11 ⟨⟨Ab, cb, rfl, hbb⟩, hc11⟩
      refine ⟨_, rfl, ?_⟩;replace hbb := own_less hbb (Nat.zero_le _);replace q1 := q1.bl hc11;replace q3 := q3.bl hc11;replace hx := own_below hx hc11 (Nat.le_refl _);replace hjs := own_below hjs hc11 (Nat.le_refl _);replace hbd := own_below hbd hc11 (Nat.le_refl _);replace hbf := own_below hbf hc11 (Nat.le_refl _);replace hdn := own_below hdn hc11 (Nat.le_refl _);replace hst := own_below hst hc11 (Nat.le_refl _);replace hbw := bo_ hbw hc11;replace hbo := bo_ hbo hc11;replace hbm := bo_ hbm hc11;clear hc11;have hau := aud_len2 (rules_ok hrb) (l := (l ++ evsP wd js js.length)) (by rw [List.length_append]; omega)
      refine EL.mv rfl rfl (EL.xt rfl rfl rfl (EL.xt rfl rfl rfl (EL.as rfl rfl (EL.as rfl rfl (EL.nil (EX.seq (EC.seq (EC.seq (EC.region ?_)))))))));refine EL.mv rfl rfl ?_;refine EL.val (x_neq (r := false) rfl rfl (decide_eq_false (fun h => h rfl))) rfl ?_
      refine EL.nil (EX.seq (EC.no rfl (EC.skip (EX.seq (EC.seq (EC.seq (EC.region (EL.as rfl rfl (EL.nil ?_)))))))));refine EX.seq (EC.block ?_);have hbl := Below.refl w11.heap.size w11;refine EC.loopD [6, 32, 282, 283, 284, 285, 286, 287, 288, 289, 290, 291, 292, 293, 294, 295] (fun x : Nat => [(32, .int .i64 (x : Nat))]) (fun x W => x ≤ (audE ru (l ++ evsP wd js js.length)).length ∧ Below w11.heap.size w11 W) (fun x => (audE ru (l ++ evsP wd js js.length)).length - x) 0 ⟨Nat.zero_le _, hbl⟩ ⟨rfl, trivial⟩ ?_
      clear hbl
      rintro i wx ⟨hi, hbl⟩
      replace q1 := q1.bl hbl;replace q3 := q3.bl hbl;replace hx := own_below hx hbl (Nat.le_refl _);replace hjs := own_below hjs hbl (Nat.le_refl _);replace hbd := own_below hbd hbl (Nat.le_refl _);replace hbf := own_below hbf hbl (Nat.le_refl _);replace hdn := own_below hdn hbl (Nat.le_refl _);replace hst := own_below hst hbl (Nat.le_refl _);replace hbb := own_below hbb hbl (Nat.le_refl _);replace hbw := hbw.trans (hbl.mono hbw.size);replace hbo := hbo.trans (hbl.mono hbo.size);replace hbm := hbm.trans (hbl.mono hbm.size)
      by_cases hlt : i < (audE ru (l ++ evsP wd js js.length)).length
      ·
       obtain ⟨bb1, ob1, eb1, _, xb1, _, _⟩ := brs_cells (audE ru (l ++ evsP wd js js.length)) i hlt wx wx.heap.size _ _ _ (Rd.of_own hbb);refine EC.seq (EC.seq (EC.region (EL.mv rfl rfl (EL.mv rfl rfl (EL.val (ln_32 rfl) rfl ?_)))));refine EL.val (x_lss rfl rfl (decide_eq_true (show (((i : Nat) : Int) < (((audE ru (l ++ evsP wd js js.length)).length : Nat) : Int)) by omega))) rfl ?_
       refine EL.nil (EX.seq (EC.yes rfl (EC.skip (EX.seq (EC.seq (EC.block (EC.seq (EC.region (EL.mv rfl rfl ?_)))))))));refine EL.mv rfl rfl ?_;refine EL.val (ix_32 (by show some (Value.slice Ab _ _) = _; rw [eb1]) rfl hlt) rfl ?_
       refine EL.val (fa_46_0 rfl) rfl (EL.val (ld_3 rfl xb1) rfl (EL.mv rfl rfl (EL.val (ln_29 rfl) rfl ?_)));refine EL.val (x_geq (r := false) rfl rfl (decide_eq_false (by have := plan_aud hrb hz hl30 hj8 hjE hpl (getD_mem hlt ⟨0, 0, false⟩); omega))) rfl ?_
       refine EL.nil (EX.seq (EC.no rfl (EC.skip (EX.blk (EX.seq (EC.region (EL.mv rfl rfl ?_)))))));refine EL.val (x_add rfl rfl (c := ((i + 1 : Nat) : Int)) ((IntWalk.i64_in _ ⟨by first | omega | (simp only; omega), by first | omega | (simp only; omega)⟩).trans (by first | omega | (simp only; omega)))) rfl ?_
       refine EL.as rfl rfl (EL.nil ?_);refine EX.roundD (i + 1) ⟨rfl, trivial⟩ (by repeat first | with_reducible exact .refl _ | refine sp_ rfl ?_ | exact .refl _ | refine sd_ rfl ?_ | refine sn_ ?_) ⟨hlt, hbl⟩ (by omega)
      ·
       obtain rfl : i = (audE ru (l ++ evsP wd js js.length)).length := by omega
       clear hbl;refine EC.seq (EC.seq (EC.region (EL.mv rfl rfl (EL.mv rfl rfl (EL.val (ln_32 rfl) rfl ?_)))));refine EL.val (x_lss rfl rfl (decide_eq_false (show ¬((((audE ru (l ++ evsP wd js js.length)).length : Nat) : Int) < (((audE ru (l ++ evsP wd js js.length)).length : Nat) : Int)) by omega))) rfl ?_
       refine EL.nil (EX.seq (EC.no rfl (EC.exit (EX.seq_exit (EX.seq_exit (EX.blk_here (EX.seq (EC.seq (EC.seq ?_)))))))));refine EC.region (EL.mv rfl rfl (EL.val (ln_22 rfl) rfl ?_))
       by_cases hj6 : 6 < js.length
       ·
        refine EL.val (x_gtr (r := true) rfl rfl (decide_eq_true (by omega))) rfl ?_
        refine EL.nil (EX.seq (EC.yes rfl (EC.seq (EC.region (EL.call (cA0 cF12) rfl (known_any _) ?_)))))
        rintro e w12 ⟨rfl, hc12⟩
        refine ⟨_, rfl, ?_⟩;replace q1 := q1.bl hc12;replace q3 := q3.bl hc12;replace hx := own_below hx hc12 (Nat.le_refl _);replace hjs := own_below hjs hc12 (Nat.le_refl _);replace hbd := own_below hbd hc12 (Nat.le_refl _);replace hbf := own_below hbf hc12 (Nat.le_refl _);replace hdn := own_below hdn hc12 (Nat.le_refl _);replace hst := own_below hst hc12 (Nat.le_refl _);replace hbb := own_below hbb hc12 (Nat.le_refl _);replace hbw := bo_ hbw hc12;replace hbo := bo_ hbo hc12;replace hbm := bo_ hbm hc12;clear hc12;refine EL.as rfl rfl (EL.nil (EX.seq (EC.ret (EX.seq_ret ?_))))
        exact EX.done (res1 rfl rfl) ⟨rfl, hbw⟩
       ·
        have h6 : js.length ≤ 6 := by omega
        have hvg := ver_got hpl;have hdw := hdl;have hkw := hkk;refine EL.val (x_gtr (r := false) rfl rfl (decide_eq_false (by omega))) rfl ?_
        refine EL.nil (EX.seq (EC.no rfl (EC.skip (EX.seq (EC.seq ?_)))));have lt_1 := q1.lt;have lt_3 := q3.lt;refine EC.regionP [[], [], [1], [1, 2], [], [1, 2, 4], [], [0, 1, 2, 3, 4, 5, 6], [0, 1, 2, 3, 4, 5, 6, 7], [0, 1, 2, 3, 4, 5, 6, 7, 8], [0, 1, 2, 3, 4, 5, 6, 7, 8], [0, 1, 2, 3, 4, 5, 6, 7, 8], [0, 1, 2, 3, 4, 5, 6, 7, 8], [0, 1, 2, 3, 4, 5, 6, 7, 8, 9], [0, 1, 2, 3, 4, 5, 6, 7, 8, 9, 10, 13], [0, 1, 2, 3, 4, 5, 6, 7, 8, 9, 10, 11, 13, 14], [0, 1, 2, 3, 4, 5, 6, 7, 8, 9, 10, 11, 12, 13, 14, 15]] 17 [] (phi (fun i_ r => match i_ with | 0 => r 0 = .agg #[.slice Al ru.levels.length cl, .int .i64 ru.fade.lo, .int .i64 ru.fade.hi, .slice Aa ru.allow.length ca, .slice Ap ru.apart.length cp, .slice Ak ru.kinds.length ck] | 1 => r 1 = .slice Ax l.length cx | 4 => r 4 = .slice Aj js.length cj | 6 => r 6 = .slice As js.length cs_ | 8 => r 8 = .tuple #[.int .i64 (VG ru l js wd).1, .int .i64 (VG ru l js wd).2.1, .int .i64 (VG ru l js wd).2.2, .int .i64 0] | 9 => r 9 = .int .i64 (VG ru l js wd).1 | 10 => r 10 = .int .i64 (VG ru l js wd).2.1 | 11 => r 11 = .int .i64 (VG ru l js wd).2.2 | 12 => r 12 = .int .i64 0 | 13 => r 13 = .int .i64 (VG ru l js wd).1 | 14 => r 14 = .int .i64 (VG ru l js wd).2.1 | 15 => r 15 = .int .i64 (VG ru l js wd).2.2 | 16 => r 16 = .int .i64 0 | _ => True) [(2, fun r w_ => ∃ (A : Option Addr) (c : Nat), r 2 = .slice A l.length c ∧ Rd w_ w_.heap.size 2 (.slice A l.length c) l.length (evsC l)), (3, fun r w_ => ∃ (g_ : Nat) (A : Option Addr) (c : Nat), r 3 = .slice (some ⟨g_, 0, none⟩) 1 1 ∧ Blk w_ g_ 29 #[.slice A l.length c] ∧ Rd w_ w_.heap.size 2 (.slice A l.length c) l.length (evsC l)), (5, fun r w_ => ∃ v, r 5 = v ∧ Rd w_ w_.heap.size 1 v js.length (ints js)), (7, fun r w_ => ∃ u_ : Unit, r 7 = .tuple #[.int .i64 (VG ru l js wd).1, .int .i64 (VG ru l js wd).2.1, .int .i64 (VG ru l js wd).2.2, .int .i64 0])]) (by kernel_rfl) rfl rfl (phi_cons (fun _ _ _ hb ⟨A, c, h1, h2⟩ => ⟨A, c, h1, (h2.below hb).more hb.size⟩) (phi_cons (fun _ _ _ hb ⟨g, A, c, h1, h2, h3⟩ => ⟨g, A, c, h1, h2.below hb h2.lt, (h3.below hb).more hb.size⟩) (phi_cons mono_rd2 (phi_cons (fun _ _ _ _ h => h) (phi_nil))))) (fun i_ hi_ => ?_) ?_
        ·match i_, hi_ with
         | 0, _ =>
          intro val w1 a hb ha hd;have ha := ha.s0 (d := 7) rfl
          exact hs_val ha rfl rfl (ld_28 rfl ((q3.below hb q3.lt).at (j := 0) rfl) ((q3.below hb q3.lt).at (j := 1) rfl) ((q3.below hb q3.lt).at (j := 2) rfl) ((q3.below hb q3.lt).at (j := 3) rfl) ((q3.below hb q3.lt).at (j := 4) rfl) ((q3.below hb q3.lt).at (j := 5) rfl)) rfl rfl
         | 1, _ =>
          intro val w1 a hb ha hd;have ha := ha.s0 (d := 8) rfl
          exact hs_val ha rfl rfl (x_move rfl) rfl rfl
         | 2, _ =>
          intro val w1 a hb ha hd;have e1 : val 1 = _ := hd 1 (memB_mem.1 rfl);have ha := ha.s1 (d := 302) rfl e1;refine hs_call ha rfl rfl (cA1 cF15 rfl) (events_any (Rd.of_own (own_below hx hb (Nat.le_refl _))) (Nat.le_refl _) (by omega)) rfl ?_
          rintro e w' ⟨⟨v2, rfl, hJ⟩, hb'⟩
          obtain ⟨A, c9, rfl, _⟩ := (Rd.of_own hJ).shape
          exact ⟨_, rfl, hb', ⟨A, c9, rfl, Rd.of_own hJ⟩⟩
         | 3, _ =>
          intro val w1 a hb ha hd;obtain ⟨Av2_, cv2_, e2, hJ2_⟩ := hd 2 (memB_mem.1 rfl);have ha := ha.s1 (d := 303) rfl e2;change val 2 = _ at e2
          exact hs_newS ha rfl rfl (bs_96_1 rfl) rfl (fun g w' hq hb' hge => ⟨g, Av2_, cv2_, rfl, hq, (hJ2_.below hb').more hb'.size⟩)
         | 4, _ =>
          intro val w1 a hb ha hd;have ha := ha.s0 (d := 9) rfl
          exact hs_val ha rfl rfl (x_move rfl) rfl rfl
         | 5, _ =>
          intro val w1 a hb ha hd;have e4 : val 4 = _ := hd 4 (memB_mem.1 rfl);have ha := ha.s1 (d := 305) rfl e4;refine hs_call ha rfl rfl (cA1 cF23 rfl) (numbers_any (Rd.of_own (own_below hjs hb (Nat.le_refl _))) (Nat.le_refl _) (by omega)) rfl ?_
          rintro e w' ⟨⟨v2, rfl, hJ⟩, hb'⟩
          exact ⟨_, rfl, hb', ⟨v2, rfl, Rd.of_own hJ⟩⟩
         | 6, _ =>
          intro val w1 a hb ha hd;have ha := ha.s0 (d := 26) rfl
          exact hs_val ha rfl rfl (x_move rfl) rfl rfl
         | 7, _ =>
          intro val w1 a hb ha hd;have e0 : val 0 = _ := hd 0 (memB_mem.1 rfl);obtain ⟨gb3_, Av3_, cv3_, e3, qb3_, hJ3_⟩ := hd 3 (memB_mem.1 rfl);obtain ⟨v5_, e5, hJ5_⟩ := hd 5 (memB_mem.1 rfl);have e6 : val 6 = _ := hd 6 (memB_mem.1 rfl);have ha := ha.sub (Sub.ins (d := 307) (Sub.ins (d := 306) (Sub.ins (d := 304) (Sub.ins (d := 301) (Sub.nil _) (dep_get rfl e0)) (dep_get rfl e3)) (dep_get rfl e5)) (dep_get rfl e6));have hT := le_one qb3_ hJ3_;have hS : Rd w1 w1.heap.size 2 (.slice As js.length cs_) ((wd).map stp1).length (stpsC ((wd).map stp1)) := by rw [List.length_map, hdw]; exact Rd.of_own (own_below hst hb (Nat.le_refl _))
          refine hs_call ha rfl rfl (cA4 cF40 rfl rfl rfl rfl) (Ver_to ((hR.below (hbo.trans (hb.mono hbo.size))).more (Nat.le_trans hbo.size hb.size)) (Nat.le_refl _) hs hrb hz (by omega) hjE h6 hT hJ5_ hdw hkw hS) rfl ?_
          rintro e w' ⟨rfl, hb'⟩
          exact ⟨_, rfl, hb', ⟨(), rfl⟩⟩
         | 8, _ =>
          intro val w1 a hb ha hd;obtain ⟨_, e7⟩ := hd 7 (memB_mem.1 rfl);have ha := ha.s1 (d := 308) rfl e7
          exact hs_val ha rfl rfl (x_move rfl) rfl rfl
         | 9, _ =>
          intro val w1 a hb ha hd;have e8 : val 8 = _ := hd 8 (memB_mem.1 rfl);have ha := ha.s1 (d := 300) rfl e8
          exact hs_val ha rfl rfl (x_extract rfl rfl) rfl rfl
         | 10, _ =>
          intro val w1 a hb ha hd;have e8 : val 8 = _ := hd 8 (memB_mem.1 rfl);have ha := ha.s1 (d := 300) rfl e8
          exact hs_val ha rfl rfl (x_extract rfl rfl) rfl rfl
         | 11, _ =>
          intro val w1 a hb ha hd;have e8 : val 8 = _ := hd 8 (memB_mem.1 rfl);have ha := ha.s1 (d := 300) rfl e8
          exact hs_val ha rfl rfl (x_extract rfl rfl) rfl rfl
         | 12, _ =>
          intro val w1 a hb ha hd;have e8 : val 8 = _ := hd 8 (memB_mem.1 rfl);have ha := ha.s1 (d := 300) rfl e8
          exact hs_val ha rfl rfl (x_extract rfl rfl) rfl rfl
         | 13, _ =>
          intro val w1 a hb ha hd;have e9 : val 9 = _ := hd 9 (memB_mem.1 rfl);have ha := ha.s1 (d := 309) rfl e9
          exact hs_val ha rfl rfl (x_assign rfl) rfl rfl
         | 14, _ =>
          intro val w1 a hb ha hd;have e10 : val 10 = _ := hd 10 (memB_mem.1 rfl);have ha := ha.s1 (d := 310) rfl e10
          exact hs_val ha rfl rfl (x_assign rfl) rfl rfl
         | 15, _ =>
          intro val w1 a hb ha hd;have e11 : val 11 = _ := hd 11 (memB_mem.1 rfl);have ha := ha.s1 (d := 311) rfl e11
          exact hs_val ha rfl rfl (x_assign rfl) rfl rfl
         | 16, _ =>
          intro val w1 a hb ha hd;have e12 : val 12 = _ := hd 12 (memB_mem.1 rfl);have ha := ha.s1 (d := 312) rfl e12
          exact hs_val ha rfl rfl (x_assign rfl) rfl rfl
         | k + 17, h => exact absurd h (by omega)
        ·intro val wR39 hb halc hd
         have e0 : val 0 = _ := hd 0 (by omega)
         have e1 : val 1 = _ := hd 1 (by omega)
         obtain ⟨Av2_, cv2_, e2, hJ2_⟩ := hd 2 (by omega)
         obtain ⟨gb3_, Av3_, cv3_, e3, qb3_, hJ3_⟩ := hd 3 (by omega)
         have e4 : val 4 = _ := hd 4 (by omega)
         obtain ⟨v5_, e5, hJ5_⟩ := hd 5 (by omega)
         have e6 : val 6 = _ := hd 6 (by omega)
         obtain ⟨_, e7⟩ := hd 7 (by omega)
         have e8 : val 8 = _ := hd 8 (by omega)
         have e9 : val 9 = _ := hd 9 (by omega)
         have e10 : val 10 = _ := hd 10 (by omega)
         have e11 : val 11 = _ := hd 11 (by omega)
         have e12 : val 12 = _ := hd 12 (by omega)
         have e13 : val 13 = _ := hd 13 (by omega)
         have e14 : val 14 = _ := hd 14 (by omega)
         have e15 : val 15 = _ := hd 15 (by omega)
         have e16 : val 16 = _ := hd 16 (by omega)
         refine EL.ends (cs := [_, _, _, _, _, _, _, _, _, _, _, _, _, _, _, _, _]) ⟨e0, e1, e2, e3, e4, e5, e6, e7, e8, e9, e10, e11, e12, e13, e14, e15, e16, trivial⟩ rfl ?_;replace q1 := q1.bl hb;replace q3 := q3.bl hb;replace hx := own_below hx hb (Nat.le_refl _);replace hjs := own_below hjs hb (Nat.le_refl _);replace hbd := own_below hbd hb (Nat.le_refl _);replace hbf := own_below hbf hb (Nat.le_refl _);replace hdn := own_below hdn hb (Nat.le_refl _);replace hst := own_below hst hb (Nat.le_refl _);replace hbb := own_below hbb hb (Nat.le_refl _);replace hbw := bo_ hbw hb;replace hbo := bo_ hbo hb;replace hbm := bo_ hbm hb;clear hb;clear hJ2_ hJ5_ hJ3_ qb3_;refine EL.nil (EX.seq (EC.seq (EC.seq (EC.region (EL.mv rfl rfl ?_)))));refine EL.val (x_neq (r := false) rfl rfl (decide_eq_false (fun h => h rfl))) rfl ?_
         refine EL.mv rfl rfl (EL.mg rfl rfl rfl rfl ?_);refine EL.valg rfl rfl (x_neq (r := false) rfl rfl (decide_eq_false (fun h => h (by rw [hvg])))) rfl ?_
         refine EL.pf rfl rfl rfl (EL.mv rfl rfl (EL.mg rfl rfl rfl rfl (EL.mg rfl rfl rfl rfl ?_)));refine EL.valg rfl rfl (x_neq (r := false) rfl rfl (decide_eq_false (fun h => h (by rw [hvg])))) rfl ?_
         refine EL.pf rfl rfl rfl (EL.mv rfl rfl (EL.mg rfl rfl rfl rfl (EL.mg rfl rfl rfl rfl ?_)));refine EL.valg rfl rfl (x_neq (r := false) rfl rfl (decide_eq_false (fun h => h (by rw [hvg]; exact hpl.cost.symm)))) rfl ?_
         refine EL.pf rfl rfl rfl (EL.nil (EX.seq (EC.no rfl (EC.skip (EX.seq (EC.seq (EC.seq (EC.region (EL.mv rfl rfl ?_)))))))));refine EL.val (ln_22 rfl) rfl ?_
         by_cases hjp : 0 < js.length
         ·
          obtain ⟨m, hm, hmj⟩ : ∃ m : Nat, ay.tmod (js.length : Nat) = ((m : Nat) : Int) ∧ m < js.length := ⟨(ay.tmod (js.length : Nat)).toNat, by have := byte_rem hay (m := (js.length : Nat)) (by omega); omega, by have := byte_rem hay (m := (js.length : Nat)) (by omega); omega⟩
          have hmw : m < wd.length := by omega
          obtain ⟨bp4, op4, ep4, _, xk4⟩ := ints_cells wd m hmw wR39 wR39.heap.size _ _ _ (Rd.of_own hbd);refine EL.val (x_gtr (r := true) rfl rfl (decide_eq_true (by omega))) rfl ?_
          refine EL.mv rfl rfl (EL.mg rfl rfl rfl rfl (EL.mg rfl rfl rfl rfl (EL.valg rfl rfl (cv_5_3 rfl (wrap_byte hay)) rfl (EL.mg rfl rfl rfl rfl (EL.valg rfl rfl (ln_22 rfl) rfl ?_)))));refine EL.valg rfl rfl (x_rem rfl rfl (by omega) hm) rfl ?_
          refine EL.valg rfl rfl (ix_22 (by show some (Value.slice Ad _ _) = _; rw [ep4]) rfl hmw) rfl ?_
          refine EL.valg rfl rfl (ld_3 rfl xk4) rfl ?_
          by_cases hkm : 0 ≤ wd.getD m 0
          ·
           obtain ⟨gs, ds_, hvs, _, _⟩ := own_shapeZ hst hjp (by omega)
           injection hvs with hvs1 _ hvs2
           refine EL.valg rfl rfl (x_geq (r := true) rfl rfl (decide_eq_true hkm)) rfl (EL.pt rfl rfl rfl (EL.nil (EX.seq (EC.yes rfl (EC.seq (EC.region (EL.mv rfl rfl (EL.mv rfl rfl (EL.val (cv_5_3 rfl (wrap_byte hay)) rfl ?_)))))))));refine EL.mv rfl rfl (EL.val (ln_22 rfl) rfl ?_);refine EL.val (x_rem rfl rfl (by omega) hm) rfl ?_
           refine EL.val (ix_65 (by show some (Value.slice As _ _) = _; rw [hvs1]) rfl hmj) rfl ?_
           refine EL.val (fa_70_1 rfl) rfl ?_;have hrow := hst;rw [hvs1] at hrow;refine EL.storeRow (l' := [.int .i64 (-1)]) rfl rfl hrow sz_3 rfl rfl (by rw [stpsC_len, List.length_map]; omega) rfl ?_
           intro ws2 hy2 hgs2;rw [spl_stp hmw] at hy2;have hst9 : ws2.ownsRow wR4.heap.size 70 2 (.slice As js.length cs_) js.length (stpsC ((wd.set m (-1)).map stp1)) := by rw [hvs1]; exact hy2
           have hbm9 := hbm.trans (Kp.own (S := [70]) hrow rfl (Nat.le_refl _) hbm.size hgs2).below;clear hst hdn hbb hbm hrow q1 q3 hx hjs hbd hbf hbw hbo;have hst := hst9;have hbm := hbm9;clear hst9 hbm9;have q1 := q1m.below hbm q1m.lt;have q3 := q3m.below hbm q3m.lt;have hx := own_below hxm hbm (Nat.le_refl _);have hjs := own_below hjsm hbm (Nat.le_refl _);have hbd := own_below hbdm hbm (Nat.le_refl _);have hbf := own_below hbfm hbm (Nat.le_refl _);have hbw := hbwm.trans (hbm.mono hbwm.size);have hbo := hbom.trans (hbm.mono hbom.size);have hln2 : ((m : Nat) : Int) ≤ (VG ru l js (wd.set m (-1))).1 := less_not hpl hmw hkm;have hds : (wd.set m (-1)).length = js.length := by rw [List.length_set]; exact hdl
           have hks := kinds_set hkk m;refine EL.nil (EX.seq (EC.seq ?_));have lt_1 := q1.lt;have lt_3 := q3.lt;refine EC.regionP [[], [], [1], [1, 2], [], [1, 2, 4], [], [0, 1, 2, 3, 4, 5, 6], [0, 1, 2, 3, 4, 5, 6, 7], [0, 1, 2, 3, 4, 5, 6, 7, 8], [0, 1, 2, 3, 4, 5, 6, 7, 8], [0, 1, 2, 3, 4, 5, 6, 7, 8], [0, 1, 2, 3, 4, 5, 6, 7, 8], [0, 1, 2, 3, 4, 5, 6, 7, 8, 9], [0, 1, 2, 3, 4, 5, 6, 7, 8, 9, 10, 13], [0, 1, 2, 3, 4, 5, 6, 7, 8, 9, 10, 11, 13, 14], [0, 1, 2, 3, 4, 5, 6, 7, 8, 9, 10, 11, 12, 13, 14, 15]] 17 [] (phi (fun i_ r => match i_ with | 0 => r 0 = .agg #[.slice Al ru.levels.length cl, .int .i64 ru.fade.lo, .int .i64 ru.fade.hi, .slice Aa ru.allow.length ca, .slice Ap ru.apart.length cp, .slice Ak ru.kinds.length ck] | 1 => r 1 = .slice Ax l.length cx | 4 => r 4 = .slice Aj js.length cj | 6 => r 6 = .slice As js.length cs_ | 8 => r 8 = .tuple #[.int .i64 (VG ru l js (wd.set m (-1))).1, .int .i64 (VG ru l js (wd.set m (-1))).2.1, .int .i64 (VG ru l js (wd.set m (-1))).2.2, .int .i64 0] | 9 => r 9 = .int .i64 (VG ru l js (wd.set m (-1))).1 | 10 => r 10 = .int .i64 (VG ru l js (wd.set m (-1))).2.1 | 11 => r 11 = .int .i64 (VG ru l js (wd.set m (-1))).2.2 | 12 => r 12 = .int .i64 0 | 13 => r 13 = .int .i64 (VG ru l js (wd.set m (-1))).1 | 14 => r 14 = .int .i64 (VG ru l js (wd.set m (-1))).2.1 | 15 => r 15 = .int .i64 (VG ru l js (wd.set m (-1))).2.2 | 16 => r 16 = .int .i64 0 | _ => True) [(2, fun r w_ => ∃ (A : Option Addr) (c : Nat), r 2 = .slice A l.length c ∧ Rd w_ w_.heap.size 2 (.slice A l.length c) l.length (evsC l)), (3, fun r w_ => ∃ (g_ : Nat) (A : Option Addr) (c : Nat), r 3 = .slice (some ⟨g_, 0, none⟩) 1 1 ∧ Blk w_ g_ 29 #[.slice A l.length c] ∧ Rd w_ w_.heap.size 2 (.slice A l.length c) l.length (evsC l)), (5, fun r w_ => ∃ v, r 5 = v ∧ Rd w_ w_.heap.size 1 v js.length (ints js)), (7, fun r w_ => ∃ u_ : Unit, r 7 = .tuple #[.int .i64 (VG ru l js (wd.set m (-1))).1, .int .i64 (VG ru l js (wd.set m (-1))).2.1, .int .i64 (VG ru l js (wd.set m (-1))).2.2, .int .i64 0])]) (by kernel_rfl) rfl rfl (phi_cons (fun _ _ _ hb ⟨A, c, h1, h2⟩ => ⟨A, c, h1, (h2.below hb).more hb.size⟩) (phi_cons (fun _ _ _ hb ⟨g, A, c, h1, h2, h3⟩ => ⟨g, A, c, h1, h2.below hb h2.lt, (h3.below hb).more hb.size⟩) (phi_cons mono_rd2 (phi_cons (fun _ _ _ _ h => h) (phi_nil))))) (fun i_ hi_ => ?_) ?_
           ·match i_, hi_ with
            | 0, _ =>
             intro val w1 a hb ha hd;have ha := ha.s0 (d := 7) rfl
             exact hs_val ha rfl rfl (ld_28 rfl ((q3.below hb q3.lt).at (j := 0) rfl) ((q3.below hb q3.lt).at (j := 1) rfl) ((q3.below hb q3.lt).at (j := 2) rfl) ((q3.below hb q3.lt).at (j := 3) rfl) ((q3.below hb q3.lt).at (j := 4) rfl) ((q3.below hb q3.lt).at (j := 5) rfl)) rfl rfl
            | 1, _ =>
             intro val w1 a hb ha hd;have ha := ha.s0 (d := 8) rfl
             exact hs_val ha rfl rfl (x_move rfl) rfl rfl
            | 2, _ =>
             intro val w1 a hb ha hd;have e1 : val 1 = _ := hd 1 (memB_mem.1 rfl);have ha := ha.s1 (d := 353) rfl e1;refine hs_call ha rfl rfl (cA1 cF15 rfl) (events_any (Rd.of_own (own_below hx hb (Nat.le_refl _))) (Nat.le_refl _) (by omega)) rfl ?_
             rintro e w' ⟨⟨v2, rfl, hJ⟩, hb'⟩
             obtain ⟨A, c9, rfl, _⟩ := (Rd.of_own hJ).shape
             exact ⟨_, rfl, hb', ⟨A, c9, rfl, Rd.of_own hJ⟩⟩
            | 3, _ =>
             intro val w1 a hb ha hd;obtain ⟨Av2_, cv2_, e2, hJ2_⟩ := hd 2 (memB_mem.1 rfl);have ha := ha.s1 (d := 354) rfl e2;change val 2 = _ at e2
             exact hs_newS ha rfl rfl (bs_96_1 rfl) rfl (fun g w' hq hb' hge => ⟨g, Av2_, cv2_, rfl, hq, (hJ2_.below hb').more hb'.size⟩)
            | 4, _ =>
             intro val w1 a hb ha hd;have ha := ha.s0 (d := 9) rfl
             exact hs_val ha rfl rfl (x_move rfl) rfl rfl
            | 5, _ =>
             intro val w1 a hb ha hd;have e4 : val 4 = _ := hd 4 (memB_mem.1 rfl);have ha := ha.s1 (d := 356) rfl e4;refine hs_call ha rfl rfl (cA1 cF23 rfl) (numbers_any (Rd.of_own (own_below hjs hb (Nat.le_refl _))) (Nat.le_refl _) (by omega)) rfl ?_
             rintro e w' ⟨⟨v2, rfl, hJ⟩, hb'⟩
             exact ⟨_, rfl, hb', ⟨v2, rfl, Rd.of_own hJ⟩⟩
            | 6, _ =>
             intro val w1 a hb ha hd;have ha := ha.s0 (d := 26) rfl
             exact hs_val ha rfl rfl (x_move rfl) rfl rfl
            | 7, _ =>
             intro val w1 a hb ha hd;have e0 : val 0 = _ := hd 0 (memB_mem.1 rfl);obtain ⟨gb3_, Av3_, cv3_, e3, qb3_, hJ3_⟩ := hd 3 (memB_mem.1 rfl);obtain ⟨v5_, e5, hJ5_⟩ := hd 5 (memB_mem.1 rfl);have e6 : val 6 = _ := hd 6 (memB_mem.1 rfl);have ha := ha.sub (Sub.ins (d := 358) (Sub.ins (d := 357) (Sub.ins (d := 355) (Sub.ins (d := 352) (Sub.nil _) (dep_get rfl e0)) (dep_get rfl e3)) (dep_get rfl e5)) (dep_get rfl e6));have hT := le_one qb3_ hJ3_;have hS : Rd w1 w1.heap.size 2 (.slice As js.length cs_) (((wd.set m (-1))).map stp1).length (stpsC (((wd.set m (-1))).map stp1)) := by rw [List.length_map, hds]; exact Rd.of_own (own_below hst hb (Nat.le_refl _))
             refine hs_call ha rfl rfl (cA4 cF40 rfl rfl rfl rfl) (Ver_to ((hR.below (hbo.trans (hb.mono hbo.size))).more (Nat.le_trans hbo.size hb.size)) (Nat.le_refl _) hs hrb hz (by omega) hjE h6 hT hJ5_ hds hks hS) rfl ?_
             rintro e w' ⟨rfl, hb'⟩
             exact ⟨_, rfl, hb', ⟨(), rfl⟩⟩
            | 8, _ =>
             intro val w1 a hb ha hd;obtain ⟨_, e7⟩ := hd 7 (memB_mem.1 rfl);have ha := ha.s1 (d := 359) rfl e7
             exact hs_val ha rfl rfl (x_move rfl) rfl rfl
            | 9, _ =>
             intro val w1 a hb ha hd;have e8 : val 8 = _ := hd 8 (memB_mem.1 rfl);have ha := ha.s1 (d := 351) rfl e8
             exact hs_val ha rfl rfl (x_extract rfl rfl) rfl rfl
            | 10, _ =>
             intro val w1 a hb ha hd;have e8 : val 8 = _ := hd 8 (memB_mem.1 rfl);have ha := ha.s1 (d := 351) rfl e8
             exact hs_val ha rfl rfl (x_extract rfl rfl) rfl rfl
            | 11, _ =>
             intro val w1 a hb ha hd;have e8 : val 8 = _ := hd 8 (memB_mem.1 rfl);have ha := ha.s1 (d := 351) rfl e8
             exact hs_val ha rfl rfl (x_extract rfl rfl) rfl rfl
            | 12, _ =>
             intro val w1 a hb ha hd;have e8 : val 8 = _ := hd 8 (memB_mem.1 rfl);have ha := ha.s1 (d := 351) rfl e8
             exact hs_val ha rfl rfl (x_extract rfl rfl) rfl rfl
            | 13, _ =>
             intro val w1 a hb ha hd;have e9 : val 9 = _ := hd 9 (memB_mem.1 rfl);have ha := ha.s1 (d := 360) rfl e9
             exact hs_val ha rfl rfl (x_assign rfl) rfl rfl
            | 14, _ =>
             intro val w1 a hb ha hd;have e10 : val 10 = _ := hd 10 (memB_mem.1 rfl);have ha := ha.s1 (d := 361) rfl e10
             exact hs_val ha rfl rfl (x_assign rfl) rfl rfl
            | 15, _ =>
             intro val w1 a hb ha hd;have e11 : val 11 = _ := hd 11 (memB_mem.1 rfl);have ha := ha.s1 (d := 362) rfl e11
             exact hs_val ha rfl rfl (x_assign rfl) rfl rfl
            | 16, _ =>
             intro val w1 a hb ha hd;have e12 : val 12 = _ := hd 12 (memB_mem.1 rfl);have ha := ha.s1 (d := 363) rfl e12
             exact hs_val ha rfl rfl (x_assign rfl) rfl rfl
            | k + 17, h => exact absurd h (by omega)
           ·intro val wR44 hb halc hd
            have e0 : val 0 = _ := hd 0 (by omega)
            have e1 : val 1 = _ := hd 1 (by omega)
            obtain ⟨Av2_, cv2_, e2, hJ2_⟩ := hd 2 (by omega)
            obtain ⟨gb3_, Av3_, cv3_, e3, qb3_, hJ3_⟩ := hd 3 (by omega)
            have e4 : val 4 = _ := hd 4 (by omega)
            obtain ⟨v5_, e5, hJ5_⟩ := hd 5 (by omega)
            have e6 : val 6 = _ := hd 6 (by omega)
            obtain ⟨_, e7⟩ := hd 7 (by omega)
            have e8 : val 8 = _ := hd 8 (by omega)
            have e9 : val 9 = _ := hd 9 (by omega)
            have e10 : val 10 = _ := hd 10 (by omega)
            have e11 : val 11 = _ := hd 11 (by omega)
            have e12 : val 12 = _ := hd 12 (by omega)
            have e13 : val 13 = _ := hd 13 (by omega)
            have e14 : val 14 = _ := hd 14 (by omega)
            have e15 : val 15 = _ := hd 15 (by omega)
            have e16 : val 16 = _ := hd 16 (by omega)
            refine EL.ends (cs := [_, _, _, _, _, _, _, _, _, _, _, _, _, _, _, _, _]) ⟨e0, e1, e2, e3, e4, e5, e6, e7, e8, e9, e10, e11, e12, e13, e14, e15, e16, trivial⟩ rfl ?_;replace q1 := q1.bl hb;replace q3 := q3.bl hb;replace hx := own_below hx hb (Nat.le_refl _);replace hjs := own_below hjs hb (Nat.le_refl _);replace hbd := own_below hbd hb (Nat.le_refl _);replace hbf := own_below hbf hb (Nat.le_refl _);replace hst := own_below hst hb (Nat.le_refl _);replace hbw := bo_ hbw hb;replace hbo := bo_ hbo hb;replace hbm := bo_ hbm hb;clear hb;clear hJ2_ hJ5_ hJ3_ qb3_;refine EL.nil (EX.seq (EC.seq (EC.region (EL.mv rfl rfl ?_))));refine EL.val (x_neq (r := false) rfl rfl (decide_eq_false (fun h => h rfl))) rfl ?_
            refine EL.mv rfl rfl (EL.mg rfl rfl rfl rfl (EL.mg rfl rfl rfl rfl (EL.valg rfl rfl (cv_5_3 rfl (wrap_byte hay)) rfl (EL.mg rfl rfl rfl rfl (EL.valg rfl rfl (ln_22 rfl) rfl ?_)))));refine EL.valg rfl rfl (x_rem rfl rfl (by omega) hm) rfl ?_
            refine EL.valg rfl rfl (x_lss (r := false) rfl rfl (decide_eq_false (Int.not_lt.2 hln2))) rfl (EL.pf rfl rfl rfl (EL.nil (EX.seq (EC.no rfl (EC.skip (EX.seq (EC.seq (EC.region (EL.call (cA0 cF12) rfl (known_any _) ?_)))))))))
            rintro e w13 ⟨rfl, hc13⟩
            refine ⟨_, rfl, ?_⟩;replace q1 := q1.bl hc13;replace q3 := q3.bl hc13;replace hx := own_below hx hc13 (Nat.le_refl _);replace hjs := own_below hjs hc13 (Nat.le_refl _);replace hbd := own_below hbd hc13 (Nat.le_refl _);replace hbf := own_below hbf hc13 (Nat.le_refl _);replace hst := own_below hst hc13 (Nat.le_refl _);replace hbw := bo_ hbw hc13;replace hbo := bo_ hbo hc13;replace hbm := bo_ hbm hc13;clear hc13;refine EL.as rfl rfl (EL.nil (EX.seq (EC.ret ?_)))
            exact EX.done (res1 rfl rfl) ⟨rfl, hbw⟩
          ·
           refine EL.valg rfl rfl (x_geq (r := false) rfl rfl (decide_eq_false hkm)) rfl (EL.pt rfl rfl rfl (EL.nil (EX.seq (EC.no rfl (EC.skip (EX.seq (EC.seq (EC.region (EL.call (cA0 cF12) rfl (known_any _) ?_)))))))))
           rintro e w14 ⟨rfl, hc14⟩
           refine ⟨_, rfl, ?_⟩;replace q1 := q1.bl hc14;replace q3 := q3.bl hc14;replace hx := own_below hx hc14 (Nat.le_refl _);replace hjs := own_below hjs hc14 (Nat.le_refl _);replace hbd := own_below hbd hc14 (Nat.le_refl _);replace hbf := own_below hbf hc14 (Nat.le_refl _);replace hdn := own_below hdn hc14 (Nat.le_refl _);replace hst := own_below hst hc14 (Nat.le_refl _);replace hbb := own_below hbb hc14 (Nat.le_refl _);replace hbw := bo_ hbw hc14;replace hbo := bo_ hbo hc14;replace hbm := bo_ hbm hc14;clear hc14;refine EL.as rfl rfl (EL.nil (EX.seq (EC.ret ?_)))
           exact EX.done (res1 rfl rfl) ⟨rfl, hbw⟩
         ·
          refine EL.val (x_gtr (r := false) rfl rfl (decide_eq_false (by omega))) rfl ?_
          refine EL.mv rfl rfl (EL.skip rfl rfl rfl rfl (EL.skip rfl rfl rfl rfl (EL.skip rfl rfl rfl rfl (EL.skip rfl rfl rfl rfl (EL.skip rfl rfl rfl rfl (EL.skip rfl rfl rfl rfl (EL.skip rfl rfl rfl rfl (EL.skip rfl rfl rfl rfl (EL.skip rfl rfl rfl rfl ?_)))))))));refine EL.pf rfl rfl rfl (EL.nil (EX.seq (EC.no rfl (EC.skip (EX.seq (EC.seq (EC.region (EL.call (cA0 cF12) rfl (known_any _) ?_))))))))
          rintro e w15 ⟨rfl, hc15⟩
          refine ⟨_, rfl, ?_⟩;replace q1 := q1.bl hc15;replace q3 := q3.bl hc15;replace hx := own_below hx hc15 (Nat.le_refl _);replace hjs := own_below hjs hc15 (Nat.le_refl _);replace hbd := own_below hbd hc15 (Nat.le_refl _);replace hbf := own_below hbf hc15 (Nat.le_refl _);replace hdn := own_below hdn hc15 (Nat.le_refl _);replace hst := own_below hst hc15 (Nat.le_refl _);replace hbb := own_below hbb hc15 (Nat.le_refl _);replace hbw := bo_ hbw hc15;replace hbo := bo_ hbo hc15;replace hbm := bo_ hbm hc15;clear hc15;refine EL.as rfl rfl (EL.nil (EX.seq (EC.ret ?_)))
          exact EX.done (res1 rfl rfl) ⟨rfl, hbw⟩
   ·
    have hne : codeS ru l js ≠ 0 := by rw [hcd]; decide
    have hwd := hfd.2 hne;have hwd0 : wd.length = 0 := by rw [hwd.1]; rfl
    have hwf0 : wf.length = 0 := by rw [hff.2 hne]; rfl
    refine EL.val (x_neq (r := true) rfl rfl (decide_eq_true hne)) rfl (EL.nil (EX.seq (EC.yes rfl (EC.seq ?_))));obtain ⟨hct, hc0, hc7, hca⟩ := code_take hz hjE hcd;obtain ⟨gj, dj, hej, _, _⟩ := own_shapeZ hjs (by omega) (by omega)
    injection hej with hej1 _ hej2
    have hcap := own_capV hjs;have hl0 : (js.take (atS ru l js)).length = atS ru l js := by rw [List.length_take]; omega
    have hl1 : (js.take (atS ru l js + 1)).length = atS ru l js + 1 := by rw [List.length_take]; omega
    have lt_1 := q1.lt;have lt_3 := q3.lt;refine EC.regionP [[], [], [1], [], [], [], [5], [4, 5, 6], [4, 5, 6, 7], [3, 4, 5, 6, 7, 8], [1, 2, 3, 4, 5, 6, 7, 8, 9], [0, 1, 2, 3, 4, 5, 6, 7, 8, 9, 10], [0, 1, 2, 3, 4, 5, 6, 7, 8, 9, 10, 11], [0, 1, 2, 3, 4, 5, 6, 7, 8, 9, 10, 11, 12], [0, 1, 2, 3, 4, 5, 6, 7, 8, 9, 10, 11, 12], [0, 1, 2, 3, 4, 5, 6, 7, 8, 9, 10, 11, 12], [0, 1, 2, 3, 4, 5, 6, 7, 8, 9, 10, 11, 12], [0, 1, 2, 3, 4, 5, 6, 7, 8, 9, 10, 11, 12, 13], [0, 1, 2, 3, 4, 5, 6, 7, 8, 9, 10, 11, 12, 13, 14, 17], [0, 1, 2, 3, 4, 5, 6, 7, 8, 9, 10, 11, 12, 13, 14, 15, 17, 18], [0, 1, 2, 3, 4, 5, 6, 7, 8, 9, 10, 11, 12, 13, 14, 15, 16, 17, 18, 19]] 21 [] (phi (fun i_ r => match i_ with | 0 => r 0 = .agg #[.slice Al ru.levels.length cl, .int .i64 ru.fade.lo, .int .i64 ru.fade.hi, .slice Aa ru.allow.length ca, .slice Ap ru.apart.length cp, .slice Ak ru.kinds.length ck] | 1 => r 1 = .slice Ax l.length cx | 3 => r 3 = .slice Aj js.length cj | 4 => r 4 = .int .i64 ((atS ru l js) : Nat) | 5 => r 5 = .slice Aj js.length cj | 6 => r 6 = .int .i64 (js.length : Nat) | 7 => r 7 = .int .i64 ((atS ru l js) : Nat) | 8 => r 8 = .int .i64 ((atS ru l js) : Nat) | 9 => r 9 = .slice (some ⟨gj, 0, none⟩) (atS ru l js) cj | 15 => r 15 = .int .i64 ((atS ru l (js.take (atS ru l js))) : Nat) | 16 => r 16 = .int .i64 (codeS ru l (js.take (atS ru l js))) | 19 => r 19 = .int .i64 ((atS ru l (js.take (atS ru l js))) : Nat) | 20 => r 20 = .int .i64 (codeS ru l (js.take (atS ru l js))) | _ => True) [(2, fun r w_ => ∃ v, r 2 = v ∧ Rd w_ w_.heap.size 2 v l.length (evsC l)), (10, fun r w_ => ∃ v, r 10 = v ∧ Rd w_ w_.heap.size 1 v (js.take (atS ru l js)).length (ints (js.take (atS ru l js)))), (11, fun r w_ => ∃ (A : Option Addr) (c : Nat) (ws : List Int) (co : Int), r 11 = .tuple #[.slice A ws.length c, .int .i64 co, .int .i64 ((atS ru l (js.take (atS ru l js))) : Nat), .int .i64 (codeS ru l (js.take (atS ru l js)))] ∧ w_.ownsRow 0 3 1 (.slice A ws.length c) ws.length (ints ws) ∧ PlanW ru l (js.take (atS ru l js)) ws co), (12, fun r w_ => ∃ (A : Option Addr) (c : Nat) (ws : List Int) (co : Int), r 11 = .tuple #[.slice A ws.length c, .int .i64 co, .int .i64 ((atS ru l (js.take (atS ru l js))) : Nat), .int .i64 (codeS ru l (js.take (atS ru l js)))] ∧ r 12 = .tuple #[.slice A ws.length c, .int .i64 co, .int .i64 ((atS ru l (js.take (atS ru l js))) : Nat), .int .i64 (codeS ru l (js.take (atS ru l js)))]), (13, fun r w_ => ∃ (A : Option Addr) (c : Nat) (ws : List Int) (co : Int), r 11 = .tuple #[.slice A ws.length c, .int .i64 co, .int .i64 ((atS ru l (js.take (atS ru l js))) : Nat), .int .i64 (codeS ru l (js.take (atS ru l js)))] ∧ r 13 = .slice A ws.length c), (14, fun r w_ => ∃ (A : Option Addr) (c : Nat) (ws : List Int) (co : Int), r 11 = .tuple #[.slice A ws.length c, .int .i64 co, .int .i64 ((atS ru l (js.take (atS ru l js))) : Nat), .int .i64 (codeS ru l (js.take (atS ru l js)))] ∧ r 14 = .int .i64 co), (17, fun r w_ => ∃ (A : Option Addr) (c : Nat) (ws : List Int) (co : Int), r 11 = .tuple #[.slice A ws.length c, .int .i64 co, .int .i64 ((atS ru l (js.take (atS ru l js))) : Nat), .int .i64 (codeS ru l (js.take (atS ru l js)))] ∧ r 17 = .slice A ws.length c), (18, fun r w_ => ∃ (A : Option Addr) (c : Nat) (ws : List Int) (co : Int), r 11 = .tuple #[.slice A ws.length c, .int .i64 co, .int .i64 ((atS ru l (js.take (atS ru l js))) : Nat), .int .i64 (codeS ru l (js.take (atS ru l js)))] ∧ r 18 = .int .i64 co)]) (by kernel_rfl) rfl rfl (phi_cons mono_rd2 (phi_cons mono_rd2 (phi_cons (fun _ _ _ hb ⟨A, c, ws, co, h1, h2, h3⟩ => ⟨A, c, ws, co, h1, own_below h2 hb (Nat.le_refl _), h3⟩) (phi_cons (fun _ _ _ _ h => h) (phi_cons (fun _ _ _ _ h => h) (phi_cons (fun _ _ _ _ h => h) (phi_cons (fun _ _ _ _ h => h) (phi_cons (fun _ _ _ _ h => h) (phi_nil))))))))) (fun i_ hi_ => ?_) ?_
    ·match i_, hi_ with
     | 0, _ =>
      intro val w1 a hb ha hd;have ha := ha.s0 (d := 7) rfl
      exact hs_val ha rfl rfl (ld_28 rfl ((q3.below hb q3.lt).at (j := 0) rfl) ((q3.below hb q3.lt).at (j := 1) rfl) ((q3.below hb q3.lt).at (j := 2) rfl) ((q3.below hb q3.lt).at (j := 3) rfl) ((q3.below hb q3.lt).at (j := 4) rfl) ((q3.below hb q3.lt).at (j := 5) rfl)) rfl rfl
     | 1, _ =>
      intro val w1 a hb ha hd;have ha := ha.s0 (d := 8) rfl
      exact hs_val ha rfl rfl (x_move rfl) rfl rfl
     | 2, _ =>
      intro val w1 a hb ha hd;have e1 : val 1 = _ := hd 1 (memB_mem.1 rfl);have ha := ha.s1 (d := 80) rfl e1;refine hs_call ha rfl rfl (cA1 cF15 rfl) (events_any (Rd.of_own (own_below hx hb (Nat.le_refl _))) (Nat.le_refl _) (by omega)) rfl ?_
      rintro e w' ⟨⟨v2, rfl, hJ⟩, hb'⟩
      exact ⟨_, rfl, hb', ⟨v2, rfl, Rd.of_own hJ⟩⟩
     | 3, _ =>
      intro val w1 a hb ha hd;have ha := ha.s0 (d := 9) rfl
      exact hs_val ha rfl rfl (x_move rfl) rfl rfl
     | 4, _ =>
      intro val w1 a hb ha hd;have ha := ha.s0 (d := 12) rfl
      exact hs_val ha rfl rfl (x_move rfl) rfl rfl
     | 5, _ =>
      intro val w1 a hb ha hd;have ha := ha.s0 (d := 9) rfl
      exact hs_val ha rfl rfl (x_move rfl) rfl rfl
     | 6, _ =>
      intro val w1 a hb ha hd;have e5 : val 5 = _ := hd 5 (memB_mem.1 rfl);have ha := ha.s1 (d := 84) rfl e5
      exact hs_val ha rfl rfl (ln_22 rfl) rfl rfl
     | 7, _ =>
      intro val w1 a hb ha hd;have e4 : val 4 = _ := hd 4 (memB_mem.1 rfl);have e6 : val 6 = _ := hd 6 (memB_mem.1 rfl);have ha := ha.s2 (d := 85) (e := 83) rfl e6 rfl e4
      exact hs_val ha rfl rfl (mm_min rfl rfl (by omega)) rfl rfl
     | 8, _ =>
      intro val w1 a hb ha hd;have e7 : val 7 = _ := hd 7 (memB_mem.1 rfl);have ha := ha.s1 (d := 86) rfl e7
      exact hs_val ha rfl rfl (mm_max rfl rfl (by omega)) rfl rfl
     | 9, _ =>
      intro val w1 a hb ha hd;have e3 : val 3 = _ := hd 3 (memB_mem.1 rfl);have e8 : val 8 = _ := hd 8 (memB_mem.1 rfl);have ha := ha.s2 (d := 87) (e := 82) rfl e8 rfl e3
      exact hs_val ha rfl rfl (slh_22 (by show some (Value.slice Aj _ _) = _; rw [hej1]) rfl (by omega)) rfl rfl
     | 10, _ =>
      intro val w1 a hb ha hd;have e9 : val 9 = _ := hd 9 (memB_mem.1 rfl);have ha := ha.s1 (d := 88) rfl e9;have hjt := rd_takeW (k := (atS ru l js)) (show Rd w1 w1.heap.size 1 (.slice (some ⟨gj, 0, none⟩) js.length cj) js.length (ints js) by rw [← hej1]; exact Rd.of_own (own_below hjs hb (Nat.le_refl _))) (by omega)
      refine hs_call ha rfl rfl (cA1 cF23 rfl) (numbers_any (l := (js.take (atS ru l js))) (by rw [hl0]; exact hjt) (Nat.le_refl _) (by omega)) rfl ?_
      rintro e w' ⟨⟨v2, rfl, hJ⟩, hb'⟩
      exact ⟨_, rfl, hb', ⟨v2, rfl, Rd.of_own hJ⟩⟩
     | 11, _ =>
      intro val w1 a hb ha hd;have e0 : val 0 = _ := hd 0 (memB_mem.1 rfl);obtain ⟨v2_, e2, hJ2_⟩ := hd 2 (memB_mem.1 rfl);obtain ⟨v10_, e10, hJ10_⟩ := hd 10 (memB_mem.1 rfl);have ha := ha.sub (Sub.ins (d := 89) (Sub.ins (d := 81) (Sub.ins (d := 79) (Sub.nil _) (dep_get rfl e0)) (dep_get rfl e2)) (dep_get rfl e10));refine hs_call ha rfl rfl (cA3 cF24 rfl rfl rfl) (Plan_to ((hR.below (hbo.trans (hb.mono hbo.size))).more (Nat.le_trans hbo.size hb.size)) (Nat.le_refl _) hs hJ2_ (by omega) hJ10_ (by omega)) rfl ?_
      rintro e w' ⟨⟨A, c, ws, co, rfl, ho, hf⟩, hb'⟩
      exact ⟨_, rfl, hb', ⟨A, c, ws, co, rfl, own_less ho (Nat.zero_le _), hf⟩⟩
     | 12, _ =>
      intro val w1 a hb ha hd;obtain ⟨Ae, ce, we, oe, e11, hbe, hfe⟩ := hd 11 (memB_mem.1 rfl);have ha := ha.s1 (d := 90) rfl e11
      exact hs_val ha rfl rfl (x_move rfl) ⟨_, _, _, _, e11, rfl⟩ rfl
     | 13, _ =>
      intro val w1 a hb ha hd;obtain ⟨A12_, c12_, u12_, o12_, x12_, e12⟩ := hd 12 (memB_mem.1 rfl);have ha := ha.s1 (d := 78) rfl e12
      exact hs_val ha rfl rfl (x_extract rfl rfl) ⟨_, _, _, _, x12_, rfl⟩ rfl
     | 14, _ =>
      intro val w1 a hb ha hd;obtain ⟨A12_, c12_, u12_, o12_, x12_, e12⟩ := hd 12 (memB_mem.1 rfl);have ha := ha.s1 (d := 78) rfl e12
      exact hs_val ha rfl rfl (x_extract rfl rfl) ⟨_, _, _, _, x12_, rfl⟩ rfl
     | 15, _ =>
      intro val w1 a hb ha hd;obtain ⟨A12_, c12_, u12_, o12_, x12_, e12⟩ := hd 12 (memB_mem.1 rfl);have ha := ha.s1 (d := 78) rfl e12
      exact hs_val ha rfl rfl (x_extract rfl rfl) rfl rfl
     | 16, _ =>
      intro val w1 a hb ha hd;obtain ⟨A12_, c12_, u12_, o12_, x12_, e12⟩ := hd 12 (memB_mem.1 rfl);have ha := ha.s1 (d := 78) rfl e12
      exact hs_val ha rfl rfl (x_extract rfl rfl) rfl rfl
     | 17, _ =>
      intro val w1 a hb ha hd;obtain ⟨A13_, c13_, u13_, o13_, x13_, e13⟩ := hd 13 (memB_mem.1 rfl);have ha := ha.s1 (d := 91) rfl e13
      exact hs_val ha rfl rfl (x_assign rfl) ⟨_, _, _, _, x13_, rfl⟩ rfl
     | 18, _ =>
      intro val w1 a hb ha hd;obtain ⟨A14_, c14_, u14_, o14_, x14_, e14⟩ := hd 14 (memB_mem.1 rfl);have ha := ha.s1 (d := 92) rfl e14
      exact hs_val ha rfl rfl (x_assign rfl) ⟨_, _, _, _, x14_, rfl⟩ rfl
     | 19, _ =>
      intro val w1 a hb ha hd;have e15 : val 15 = _ := hd 15 (memB_mem.1 rfl);have ha := ha.s1 (d := 93) rfl e15
      exact hs_val ha rfl rfl (x_assign rfl) rfl rfl
     | 20, _ =>
      intro val w1 a hb ha hd;have e16 : val 16 = _ := hd 16 (memB_mem.1 rfl);have ha := ha.s1 (d := 94) rfl e16
      exact hs_val ha rfl rfl (x_assign rfl) rfl rfl
     | k + 21, h => exact absurd h (by omega)
    ·intro val wR8 hb halc hd
     have e0 : val 0 = _ := hd 0 (by omega)
     have e1 : val 1 = _ := hd 1 (by omega)
     obtain ⟨v2_, e2, hJ2_⟩ := hd 2 (by omega)
     have e3 : val 3 = _ := hd 3 (by omega)
     have e4 : val 4 = _ := hd 4 (by omega)
     have e5 : val 5 = _ := hd 5 (by omega)
     have e6 : val 6 = _ := hd 6 (by omega)
     have e7 : val 7 = _ := hd 7 (by omega)
     have e8 : val 8 = _ := hd 8 (by omega)
     have e9 : val 9 = _ := hd 9 (by omega)
     obtain ⟨v10_, e10, hJ10_⟩ := hd 10 (by omega)
     obtain ⟨Ae, ce, we, oe, e11, hbe, hfe⟩ := hd 11 (by omega)
     obtain ⟨A12_, c12_, u12_, o12_, x12_, e12⟩ := hd 12 (by omega)
     obtain ⟨A13_, c13_, u13_, o13_, x13_, e13⟩ := hd 13 (by omega)
     obtain ⟨A14_, c14_, u14_, o14_, x14_, e14⟩ := hd 14 (by omega)
     have e15 : val 15 = _ := hd 15 (by omega)
     have e16 : val 16 = _ := hd 16 (by omega)
     obtain ⟨A17_, c17_, u17_, o17_, x17_, e17⟩ := hd 17 (by omega)
     obtain ⟨A18_, c18_, u18_, o18_, x18_, e18⟩ := hd 18 (by omega)
     have e19 : val 19 = _ := hd 19 (by omega)
     have e20 : val 20 = _ := hd 20 (by omega)
     have y12_ := tupA4 (e11.symm.trans x12_);rw [← y12_.1, ← y12_.2] at e12;have y13_ := tupA4 (e11.symm.trans x13_);rw [← y13_.1] at e13;have y14_ := tupA4 (e11.symm.trans x14_);rw [← y14_.2] at e14;have y17_ := tupA4 (e11.symm.trans x17_);rw [← y17_.1] at e17;have y18_ := tupA4 (e11.symm.trans x18_);rw [← y18_.2] at e18;refine EL.ends (cs := [_, _, _, _, _, _, _, _, _, _, _, _, _, _, _, _, _, _, _, _, _]) ⟨e0, e1, e2, e3, e4, e5, e6, e7, e8, e9, e10, e11, e12, e13, e14, e15, e16, e17, e18, e19, e20, trivial⟩ rfl ?_;replace q1 := q1.bl hb;replace q3 := q3.bl hb;replace hx := own_below hx hb (Nat.le_refl _);replace hjs := own_below hjs hb (Nat.le_refl _);replace hbd := own_below hbd hb (Nat.le_refl _);replace hbf := own_below hbf hb (Nat.le_refl _);replace hbw := bo_ hbw hb;replace hbo := bo_ hbo hb;clear hb;clear hJ2_ hJ10_;refine EL.nil (EX.seq (EC.seq ?_));have lt_1 := q1.lt;have lt_3 := q3.lt;refine EC.regionP [[], [], [1], [], [], [4], [], [6], [4, 5, 6, 7], [4, 5, 6, 7, 8], [3, 4, 5, 6, 7, 8, 9], [1, 2, 3, 4, 5, 6, 7, 8, 9, 10], [0, 1, 2, 3, 4, 5, 6, 7, 8, 9, 10, 11], [0, 1, 2, 3, 4, 5, 6, 7, 8, 9, 10, 11, 12], [0, 1, 2, 3, 4, 5, 6, 7, 8, 9, 10, 11, 12, 13], [0, 1, 2, 3, 4, 5, 6, 7, 8, 9, 10, 11, 12, 13], [0, 1, 2, 3, 4, 5, 6, 7, 8, 9, 10, 11, 12, 13], [0, 1, 2, 3, 4, 5, 6, 7, 8, 9, 10, 11, 12, 13], [0, 1, 2, 3, 4, 5, 6, 7, 8, 9, 10, 11, 12, 13, 14], [0, 1, 2, 3, 4, 5, 6, 7, 8, 9, 10, 11, 12, 13, 14, 15, 18], [0, 1, 2, 3, 4, 5, 6, 7, 8, 9, 10, 11, 12, 13, 14, 15, 16, 18, 19], [0, 1, 2, 3, 4, 5, 6, 7, 8, 9, 10, 11, 12, 13, 14, 15, 16, 17, 18, 19, 20]] 22 [] (phi (fun i_ r => match i_ with | 0 => r 0 = .agg #[.slice Al ru.levels.length cl, .int .i64 ru.fade.lo, .int .i64 ru.fade.hi, .slice Aa ru.allow.length ca, .slice Ap ru.apart.length cp, .slice Ak ru.kinds.length ck] | 1 => r 1 = .slice Ax l.length cx | 3 => r 3 = .slice Aj js.length cj | 4 => r 4 = .int .i64 ((atS ru l js) : Nat) | 5 => r 5 = .int .i64 ((atS ru l js + 1) : Nat) | 6 => r 6 = .slice Aj js.length cj | 7 => r 7 = .int .i64 (js.length : Nat) | 8 => r 8 = .int .i64 ((atS ru l js + 1) : Nat) | 9 => r 9 = .int .i64 ((atS ru l js + 1) : Nat) | 10 => r 10 = .slice (some ⟨gj, 0, none⟩) (atS ru l js + 1) cj | 16 => r 16 = .int .i64 ((atS ru l (js.take (atS ru l js + 1))) : Nat) | 17 => r 17 = .int .i64 (codeS ru l (js.take (atS ru l js + 1))) | 20 => r 20 = .int .i64 ((atS ru l (js.take (atS ru l js + 1))) : Nat) | 21 => r 21 = .int .i64 (codeS ru l (js.take (atS ru l js + 1))) | _ => True) [(2, fun r w_ => ∃ v, r 2 = v ∧ Rd w_ w_.heap.size 2 v l.length (evsC l)), (11, fun r w_ => ∃ v, r 11 = v ∧ Rd w_ w_.heap.size 1 v (js.take (atS ru l js + 1)).length (ints (js.take (atS ru l js + 1)))), (12, fun r w_ => ∃ (A : Option Addr) (c : Nat) (ws : List Int) (co : Int), r 12 = .tuple #[.slice A ws.length c, .int .i64 co, .int .i64 ((atS ru l (js.take (atS ru l js + 1))) : Nat), .int .i64 (codeS ru l (js.take (atS ru l js + 1)))] ∧ w_.ownsRow 0 3 1 (.slice A ws.length c) ws.length (ints ws) ∧ PlanW ru l (js.take (atS ru l js + 1)) ws co), (13, fun r w_ => ∃ (A : Option Addr) (c : Nat) (ws : List Int) (co : Int), r 12 = .tuple #[.slice A ws.length c, .int .i64 co, .int .i64 ((atS ru l (js.take (atS ru l js + 1))) : Nat), .int .i64 (codeS ru l (js.take (atS ru l js + 1)))] ∧ r 13 = .tuple #[.slice A ws.length c, .int .i64 co, .int .i64 ((atS ru l (js.take (atS ru l js + 1))) : Nat), .int .i64 (codeS ru l (js.take (atS ru l js + 1)))]), (14, fun r w_ => ∃ (A : Option Addr) (c : Nat) (ws : List Int) (co : Int), r 12 = .tuple #[.slice A ws.length c, .int .i64 co, .int .i64 ((atS ru l (js.take (atS ru l js + 1))) : Nat), .int .i64 (codeS ru l (js.take (atS ru l js + 1)))] ∧ r 14 = .slice A ws.length c), (15, fun r w_ => ∃ (A : Option Addr) (c : Nat) (ws : List Int) (co : Int), r 12 = .tuple #[.slice A ws.length c, .int .i64 co, .int .i64 ((atS ru l (js.take (atS ru l js + 1))) : Nat), .int .i64 (codeS ru l (js.take (atS ru l js + 1)))] ∧ r 15 = .int .i64 co), (18, fun r w_ => ∃ (A : Option Addr) (c : Nat) (ws : List Int) (co : Int), r 12 = .tuple #[.slice A ws.length c, .int .i64 co, .int .i64 ((atS ru l (js.take (atS ru l js + 1))) : Nat), .int .i64 (codeS ru l (js.take (atS ru l js + 1)))] ∧ r 18 = .slice A ws.length c), (19, fun r w_ => ∃ (A : Option Addr) (c : Nat) (ws : List Int) (co : Int), r 12 = .tuple #[.slice A ws.length c, .int .i64 co, .int .i64 ((atS ru l (js.take (atS ru l js + 1))) : Nat), .int .i64 (codeS ru l (js.take (atS ru l js + 1)))] ∧ r 19 = .int .i64 co)]) (by kernel_rfl) rfl rfl (phi_cons mono_rd2 (phi_cons mono_rd2 (phi_cons (fun _ _ _ hb ⟨A, c, ws, co, h1, h2, h3⟩ => ⟨A, c, ws, co, h1, own_below h2 hb (Nat.le_refl _), h3⟩) (phi_cons (fun _ _ _ _ h => h) (phi_cons (fun _ _ _ _ h => h) (phi_cons (fun _ _ _ _ h => h) (phi_cons (fun _ _ _ _ h => h) (phi_cons (fun _ _ _ _ h => h) (phi_nil))))))))) (fun i_ hi_ => ?_) ?_
     ·match i_, hi_ with
      | 0, _ =>
       intro val w1 a hb ha hd;have ha := ha.s0 (d := 7) rfl
       exact hs_val ha rfl rfl (ld_28 rfl ((q3.below hb q3.lt).at (j := 0) rfl) ((q3.below hb q3.lt).at (j := 1) rfl) ((q3.below hb q3.lt).at (j := 2) rfl) ((q3.below hb q3.lt).at (j := 3) rfl) ((q3.below hb q3.lt).at (j := 4) rfl) ((q3.below hb q3.lt).at (j := 5) rfl)) rfl rfl
      | 1, _ =>
       intro val w1 a hb ha hd;have ha := ha.s0 (d := 8) rfl
       exact hs_val ha rfl rfl (x_move rfl) rfl rfl
      | 2, _ =>
       intro val w1 a hb ha hd;have e1 : val 1 = _ := hd 1 (memB_mem.1 rfl);have ha := ha.s1 (d := 97) rfl e1;refine hs_call ha rfl rfl (cA1 cF15 rfl) (events_any (Rd.of_own (own_below hx hb (Nat.le_refl _))) (Nat.le_refl _) (by omega)) rfl ?_
       rintro e w' ⟨⟨v2, rfl, hJ⟩, hb'⟩
       exact ⟨_, rfl, hb', ⟨v2, rfl, Rd.of_own hJ⟩⟩
      | 3, _ =>
       intro val w1 a hb ha hd;have ha := ha.s0 (d := 9) rfl
       exact hs_val ha rfl rfl (x_move rfl) rfl rfl
      | 4, _ =>
       intro val w1 a hb ha hd;have ha := ha.s0 (d := 12) rfl
       exact hs_val ha rfl rfl (x_move rfl) rfl rfl
      | 5, _ =>
       intro val w1 a hb ha hd;have e4 : val 4 = _ := hd 4 (memB_mem.1 rfl);have ha := ha.s1 (d := 100) rfl e4
       exact hs_val ha rfl rfl (x_add rfl rfl (c := (((atS ru l js + 1) : Nat) : Int)) ((IntWalk.i64_in _ ⟨by omega, by omega⟩).trans (by omega))) rfl rfl
      | 6, _ =>
       intro val w1 a hb ha hd;have ha := ha.s0 (d := 9) rfl
       exact hs_val ha rfl rfl (x_move rfl) rfl rfl
      | 7, _ =>
       intro val w1 a hb ha hd;have e6 : val 6 = _ := hd 6 (memB_mem.1 rfl);have ha := ha.s1 (d := 102) rfl e6
       exact hs_val ha rfl rfl (ln_22 rfl) rfl rfl
      | 8, _ =>
       intro val w1 a hb ha hd;have e5 : val 5 = _ := hd 5 (memB_mem.1 rfl);have e7 : val 7 = _ := hd 7 (memB_mem.1 rfl);have ha := ha.s2 (d := 103) (e := 101) rfl e7 rfl e5
       exact hs_val ha rfl rfl (mm_min rfl rfl (by omega)) rfl rfl
      | 9, _ =>
       intro val w1 a hb ha hd;have e8 : val 8 = _ := hd 8 (memB_mem.1 rfl);have ha := ha.s1 (d := 104) rfl e8
       exact hs_val ha rfl rfl (mm_max rfl rfl (by omega)) rfl rfl
      | 10, _ =>
       intro val w1 a hb ha hd;have e3 : val 3 = _ := hd 3 (memB_mem.1 rfl);have e9 : val 9 = _ := hd 9 (memB_mem.1 rfl);have ha := ha.s2 (d := 105) (e := 99) rfl e9 rfl e3
       exact hs_val ha rfl rfl (slh_22 (by show some (Value.slice Aj _ _) = _; rw [hej1]) rfl (by omega)) rfl rfl
      | 11, _ =>
       intro val w1 a hb ha hd;have e10 : val 10 = _ := hd 10 (memB_mem.1 rfl);have ha := ha.s1 (d := 106) rfl e10;have hjt := rd_takeW (k := (atS ru l js + 1)) (show Rd w1 w1.heap.size 1 (.slice (some ⟨gj, 0, none⟩) js.length cj) js.length (ints js) by rw [← hej1]; exact Rd.of_own (own_below hjs hb (Nat.le_refl _))) (by omega)
       refine hs_call ha rfl rfl (cA1 cF23 rfl) (numbers_any (l := (js.take (atS ru l js + 1))) (by rw [hl1]; exact hjt) (Nat.le_refl _) (by omega)) rfl ?_
       rintro e w' ⟨⟨v2, rfl, hJ⟩, hb'⟩
       exact ⟨_, rfl, hb', ⟨v2, rfl, Rd.of_own hJ⟩⟩
      | 12, _ =>
       intro val w1 a hb ha hd;have e0 : val 0 = _ := hd 0 (memB_mem.1 rfl);obtain ⟨v2_, e2, hJ2_⟩ := hd 2 (memB_mem.1 rfl);obtain ⟨v11_, e11, hJ11_⟩ := hd 11 (memB_mem.1 rfl);have ha := ha.sub (Sub.ins (d := 107) (Sub.ins (d := 98) (Sub.ins (d := 96) (Sub.nil _) (dep_get rfl e0)) (dep_get rfl e2)) (dep_get rfl e11));refine hs_call ha rfl rfl (cA3 cF24 rfl rfl rfl) (Plan_to ((hR.below (hbo.trans (hb.mono hbo.size))).more (Nat.le_trans hbo.size hb.size)) (Nat.le_refl _) hs hJ2_ (by omega) hJ11_ (by omega)) rfl ?_
       rintro e w' ⟨⟨A, c, ws, co, rfl, ho, hf⟩, hb'⟩
       exact ⟨_, rfl, hb', ⟨A, c, ws, co, rfl, own_less ho (Nat.zero_le _), hf⟩⟩
      | 13, _ =>
       intro val w1 a hb ha hd;obtain ⟨Ag, cg, wg, og, e12, hbg_, hfg⟩ := hd 12 (memB_mem.1 rfl);have ha := ha.s1 (d := 108) rfl e12
       exact hs_val ha rfl rfl (x_move rfl) ⟨_, _, _, _, e12, rfl⟩ rfl
      | 14, _ =>
       intro val w1 a hb ha hd;obtain ⟨A13_, c13_, u13_, o13_, x13_, e13⟩ := hd 13 (memB_mem.1 rfl);have ha := ha.s1 (d := 95) rfl e13
       exact hs_val ha rfl rfl (x_extract rfl rfl) ⟨_, _, _, _, x13_, rfl⟩ rfl
      | 15, _ =>
       intro val w1 a hb ha hd;obtain ⟨A13_, c13_, u13_, o13_, x13_, e13⟩ := hd 13 (memB_mem.1 rfl);have ha := ha.s1 (d := 95) rfl e13
       exact hs_val ha rfl rfl (x_extract rfl rfl) ⟨_, _, _, _, x13_, rfl⟩ rfl
      | 16, _ =>
       intro val w1 a hb ha hd;obtain ⟨A13_, c13_, u13_, o13_, x13_, e13⟩ := hd 13 (memB_mem.1 rfl);have ha := ha.s1 (d := 95) rfl e13
       exact hs_val ha rfl rfl (x_extract rfl rfl) rfl rfl
      | 17, _ =>
       intro val w1 a hb ha hd;obtain ⟨A13_, c13_, u13_, o13_, x13_, e13⟩ := hd 13 (memB_mem.1 rfl);have ha := ha.s1 (d := 95) rfl e13
       exact hs_val ha rfl rfl (x_extract rfl rfl) rfl rfl
      | 18, _ =>
       intro val w1 a hb ha hd;obtain ⟨A14_, c14_, u14_, o14_, x14_, e14⟩ := hd 14 (memB_mem.1 rfl);have ha := ha.s1 (d := 109) rfl e14
       exact hs_val ha rfl rfl (x_assign rfl) ⟨_, _, _, _, x14_, rfl⟩ rfl
      | 19, _ =>
       intro val w1 a hb ha hd;obtain ⟨A15_, c15_, u15_, o15_, x15_, e15⟩ := hd 15 (memB_mem.1 rfl);have ha := ha.s1 (d := 110) rfl e15
       exact hs_val ha rfl rfl (x_assign rfl) ⟨_, _, _, _, x15_, rfl⟩ rfl
      | 20, _ =>
       intro val w1 a hb ha hd;have e16 : val 16 = _ := hd 16 (memB_mem.1 rfl);have ha := ha.s1 (d := 111) rfl e16
       exact hs_val ha rfl rfl (x_assign rfl) rfl rfl
      | 21, _ =>
       intro val w1 a hb ha hd;have e17 : val 17 = _ := hd 17 (memB_mem.1 rfl);have ha := ha.s1 (d := 112) rfl e17
       exact hs_val ha rfl rfl (x_assign rfl) rfl rfl
      | k + 22, h => exact absurd h (by omega)
     ·intro val wR9 hb halc hd
      have e0 : val 0 = _ := hd 0 (by omega)
      have e1 : val 1 = _ := hd 1 (by omega)
      obtain ⟨v2_, e2, hJ2_⟩ := hd 2 (by omega)
      have e3 : val 3 = _ := hd 3 (by omega)
      have e4 : val 4 = _ := hd 4 (by omega)
      have e5 : val 5 = _ := hd 5 (by omega)
      have e6 : val 6 = _ := hd 6 (by omega)
      have e7 : val 7 = _ := hd 7 (by omega)
      have e8 : val 8 = _ := hd 8 (by omega)
      have e9 : val 9 = _ := hd 9 (by omega)
      have e10 : val 10 = _ := hd 10 (by omega)
      obtain ⟨v11_, e11, hJ11_⟩ := hd 11 (by omega)
      obtain ⟨Ag, cg, wg, og, e12, hbg_, hfg⟩ := hd 12 (by omega)
      obtain ⟨A13_, c13_, u13_, o13_, x13_, e13⟩ := hd 13 (by omega)
      obtain ⟨A14_, c14_, u14_, o14_, x14_, e14⟩ := hd 14 (by omega)
      obtain ⟨A15_, c15_, u15_, o15_, x15_, e15⟩ := hd 15 (by omega)
      have e16 : val 16 = _ := hd 16 (by omega)
      have e17 : val 17 = _ := hd 17 (by omega)
      obtain ⟨A18_, c18_, u18_, o18_, x18_, e18⟩ := hd 18 (by omega)
      obtain ⟨A19_, c19_, u19_, o19_, x19_, e19⟩ := hd 19 (by omega)
      have e20 : val 20 = _ := hd 20 (by omega)
      have e21 : val 21 = _ := hd 21 (by omega)
      have y13_ := tupA4 (e12.symm.trans x13_);rw [← y13_.1, ← y13_.2] at e13;have y14_ := tupA4 (e12.symm.trans x14_);rw [← y14_.1] at e14;have y15_ := tupA4 (e12.symm.trans x15_);rw [← y15_.2] at e15;have y18_ := tupA4 (e12.symm.trans x18_);rw [← y18_.1] at e18;have y19_ := tupA4 (e12.symm.trans x19_);rw [← y19_.2] at e19;refine EL.ends (cs := [_, _, _, _, _, _, _, _, _, _, _, _, _, _, _, _, _, _, _, _, _, _]) ⟨e0, e1, e2, e3, e4, e5, e6, e7, e8, e9, e10, e11, e12, e13, e14, e15, e16, e17, e18, e19, e20, e21, trivial⟩ rfl ?_;replace q1 := q1.bl hb;replace q3 := q3.bl hb;replace hx := own_below hx hb (Nat.le_refl _);replace hjs := own_below hjs hb (Nat.le_refl _);replace hbd := own_below hbd hb (Nat.le_refl _);replace hbf := own_below hbf hb (Nat.le_refl _);replace hbe := own_below hbe hb (Nat.le_refl _);replace hbw := bo_ hbw hb;replace hbo := bo_ hbo hb;clear hb;clear hJ2_ hJ11_;refine EL.nil (EX.seq (EC.seq (EC.region (EL.mv rfl rfl (EL.val (x_eql (r := true) rfl rfl (decide_eq_true hcd)) rfl (EL.mv rfl rfl (EL.mg rfl rfl rfl rfl ?_)))))));refine EL.valg rfl rfl (x_geq (r := true) rfl rfl (decide_eq_true (by omega))) rfl ?_
      refine EL.pt rfl rfl rfl (EL.mv rfl rfl (EL.mg rfl rfl rfl rfl (EL.mg rfl rfl rfl rfl (EL.valg rfl rfl (ln_22 rfl) rfl ?_))));refine EL.valg rfl rfl (x_lss (r := true) rfl rfl (decide_eq_true (by omega))) rfl ?_
      refine EL.pt rfl rfl rfl (EL.mv rfl rfl (EL.mg rfl rfl rfl rfl (EL.valg rfl rfl (x_eql (r := true) rfl rfl (decide_eq_true hc0)) rfl (EL.pt rfl rfl rfl (EL.mv rfl rfl (EL.mg rfl rfl rfl rfl (EL.valg rfl rfl (x_eql (r := true) rfl rfl (decide_eq_true hc7)) rfl (EL.pt rfl rfl rfl (EL.mv rfl rfl ?_)))))))));refine EL.mg rfl rfl rfl rfl (EL.mg rfl rfl rfl rfl ?_);refine EL.valg rfl rfl (x_eql (r := true) rfl rfl (decide_eq_true (by rw [hca]))) rfl ?_
      refine EL.pt rfl rfl rfl (EL.mv rfl rfl (EL.mg rfl rfl rfl rfl (EL.valg rfl rfl (ln_22 rfl) rfl (EL.mg rfl rfl rfl rfl (EL.valg rfl rfl (ln_22 rfl) rfl ?_)))));refine EL.valg rfl rfl (x_add rfl rfl (IntWalk.i64_in _ ⟨by omega, by omega⟩)) rfl ?_
      refine EL.valg rfl rfl (x_eql (r := true) rfl rfl (decide_eq_true (by omega))) rfl ?_
      refine EL.pt rfl rfl rfl (EL.mv rfl rfl (EL.mg rfl rfl rfl rfl (EL.valg rfl rfl (x_eql (r := true) rfl rfl (decide_eq_true hwd.2)) rfl (EL.pt rfl rfl rfl (EL.mv rfl rfl (EL.callg rfl rfl (cA0 cF12) rfl (known_any _) ?_))))))
      rintro e w16 ⟨rfl, hc16⟩
      refine ⟨_, rfl, ?_⟩;replace q1 := q1.bl hc16;replace q3 := q3.bl hc16;replace hx := own_below hx hc16 (Nat.le_refl _);replace hjs := own_below hjs hc16 (Nat.le_refl _);replace hbd := own_below hbd hc16 (Nat.le_refl _);replace hbf := own_below hbf hc16 (Nat.le_refl _);replace hbe := own_below hbe hc16 (Nat.le_refl _);replace hbg_ := own_below hbg_ hc16 (Nat.le_refl _);replace hbw := bo_ hbw hc16;replace hbo := bo_ hbo hc16;clear hc16;refine EL.pt rfl rfl rfl (EL.as rfl rfl (EL.nil (EX.seq (EC.ret (EX.seq_ret ?_)))))
      exact EX.done (res1 rfl rfl) ⟨rfl, hbw⟩
end Go.Proofs.Ytdkedhcbdbpccaa
