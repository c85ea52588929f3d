/- WsFew, ExX41, ExX43, X43: what WashFewestProof needs of them (merged by trimpack.py). -/
import Derived.Test.YtdkedhcbdbpccaaFewestT5
set_option linter.unusedVariables false
set_option linter.unusedSimpArgs false
namespace Go.Proofs.Ytdkedhcbdbpccaa
open Go Go.RowKit
def wsOf (t : List St) : List Int := t.map (·.wash)
def runF (ru : Rules) (m : Nat) : List Nat → List St → List (List Tr) → Prop
 | [], [], _ => True
 | c :: js, x :: t, s => (x.tank < m ∧ x.wash ∈ kindsL ru.kinds.length) ∧ ∃ u, goT ru c s x.tank x.wash = some u ∧ runF ru m js t u
 | _, _, _ => False
section
variable {ru : Rules} {m : Nat}
theorem runF_len : ∀ {js : List Nat} {t : List St} {s : List (List Tr)}, runF ru m js t s → t.length = js.length
 | [], [], _, _ => rfl
 | c :: js, x :: t, s, h => by
  obtain ⟨_, u, _, h⟩ := h;rw [List.length_cons, List.length_cons, runF_len h]
theorem runF_steps : ∀ {js : List Nat} {t : List St} {s : List (List Tr)}, runF ru m js t s → ∀ x ∈ t, x.tank < m ∧ x.wash ∈ kindsL ru.kinds.length
 | [], [], _, _, x, hx => absurd hx List.not_mem_nil
 | c :: js, y :: t, s, h, x, hx => by
  obtain ⟨h0, u, _, h⟩ := h
  rcases List.mem_cons.1 hx with rfl | hx
  ·exact h0
  ·exact runF_steps h x hx
theorem runF_take : ∀ {js : List Nat} {t : List St} {s : List (List Tr)} (k : Nat), runF ru m js t s → runF ru m (js.take k) (t.take k) s
 | js, t, _, 0, _ => by rw [List.take_zero, List.take_zero]; exact trivial
 | [], [], _, k + 1, _ => trivial
 | c :: js, x :: t, s, k + 1, h => by
  obtain ⟨h0, u, hg, h⟩ := h;rw [List.take_succ_cons, List.take_succ_cons]
  exact ⟨h0, u, hg, runF_take k h⟩
theorem compl_run : ∀ (js : List Nat) (s : List (List Tr)) (p : Pl), ∀ y ∈ compl (extY (yardOf ru m)) js (s, p), ∃ t, runF ru m js t s ∧ y.2 = ⟨p.steps ++ t, p.washes + numW (wsOf t), p.cost + costW ru (wsOf t)⟩
 | [], s, p, y, hy => by
  rw [compl, List.mem_singleton] at hy;subst hy;refine ⟨[], trivial, ?_⟩
  simp [wsOf, numW, costW]
 | c :: js, s, p, y, hy => by
  rw [compl, List.mem_flatMap] at hy;obtain ⟨x, hx, hy⟩ := hy;obtain ⟨i, k, u, hi, hk, hg, rfl⟩ := extY_mem.1 hx;obtain ⟨t, ht, e⟩ := compl_run js u _ y hy;refine ⟨⟨i, k⟩ :: t, ⟨⟨hi, hk⟩, u, hg, ht⟩, ?_⟩;rw [e];have e2 : (yardOf ru m).cost k = kcost ru k := rfl;rw [e2]
  simp only [wsOf, addS, List.append_assoc, List.map_cons, List.cons_append, List.nil_append, Int.add_assoc, numW, costW]
theorem run_compl : ∀ (js : List Nat) (t : List St) (s : List (List Tr)) (p : Pl), runF ru m js t s → ∃ y ∈ compl (extY (yardOf ru m)) js (s, p), y.2 = ⟨p.steps ++ t, p.washes + numW (wsOf t), p.cost + costW ru (wsOf t)⟩
 | [], [], s, p, _ => ⟨(s, p), by rw [compl]; exact List.mem_singleton.2 rfl, by simp [wsOf, numW, costW]⟩
 | c :: js, x :: t, s, p, h => by
  obtain ⟨⟨hi, hk⟩, u, hg, h⟩ := h;obtain ⟨y, hy, e⟩ := run_compl js t u (addS p ⟨x.tank, x.wash⟩ (numK x.wash) (kcost ru x.wash)) h;refine ⟨y, ?_, ?_⟩
  ·rw [compl, List.mem_flatMap]
   exact ⟨_, extY_mem.2 ⟨x.tank, x.wash, u, hi, hk, hg, rfl⟩, hy⟩
  ·rw [e]
   simp only [wsOf, addS, List.append_assoc, List.map_cons, List.cons_append, List.nil_append, Int.add_assoc, numW, costW]
theorem verF_run : ∀ (js : List Nat) (t : List St) (s : List (List Tr)) (i : Nat) (wa co : Int), runF ru m js t s → verG (goT ru) (kcost ru) js (t.map toStp) i s wa co = (-1, wa + numW (wsOf t), co + costW ru (wsOf t))
 | [], [], s, i, wa, co, _ => by
  rw [verG]
  ·simp [wsOf, numW, costW]
  ·simp
 | c :: js, x :: t, s, i, wa, co, h => by
  obtain ⟨_, u, hg, h⟩ := h;rw [List.map_cons, verG];have e : goT ru c s (toStp x).tank.toNat (toStp x).wash = some u := by
   show goT ru c s ((x.tank : Nat) : Int).toNat x.wash = some u
   rw [Int.toNat_natCast]
   exact hg
  rw [e]
  show verG _ _ js (t.map toStp) (i + 1) u (wa + numK x.wash) (co + kcost ru x.wash) = _
  rw [verF_run js t u _ _ _ h]
  simp only [wsOf, List.map_cons, numW, costW, Int.add_assoc]
theorem run_verF : ∀ (js : List Nat) (xs : List Stp) (s : List (List Tr)) (i : Nat) (wa co : Int), xs.length = js.length → xs.all (stB ru m) = true → (verG (goT ru) (kcost ru) js xs i s wa co).1 = -1 → ∃ t, xs = t.map toStp ∧ runF ru m js t s
 | [], [], _, _, _, _, _, _, _ => ⟨[], rfl, trivial⟩
 | [], _ :: _, _, _, _, _, h, _, _ => absurd h (by simp)
 | _ :: _, [], _, _, _, _, h, _, _ => absurd h (by simp)
 | c :: js, x :: xs, s, i, wa, co, hl, hk, hv => by
  rw [List.all_cons, Bool.and_eq_true] at hk;obtain ⟨n, e, hn, hw⟩ := stB_iff hk.1;have e2 : x.tank.toNat = n := by omega
  rw [verG] at hv
  cases hg : goT ru c s x.tank.toNat x.wash with
  | none =>
   rw [hg] at hv;have : ((i : Nat) : Int) = -1 := hv
   omega
  | some u =>
   rw [hg] at hv;obtain ⟨t, ht, hr⟩ := run_verF js xs u (i + 1) _ _ (by simpa using hl) hk.2 hv
   rw [e2] at hg;refine ⟨⟨n, x.wash⟩ :: t, ?_, ⟨hn, hw⟩, u, hg, hr⟩;rw [List.map_cons, ← ht]
   congr 1
   cases x
   simp only [toStp] at *
   rw [e]
theorem ver_bd : ∀ (js : List Nat) (xs : List Stp) (s : List (List Tr)) (i : Nat) (wa co : Int), (verG (goT ru) (kcost ru) js xs i s wa co).1 = -1 ∨ ((i : Nat) : Int) ≤ (verG (goT ru) (kcost ru) js xs i s wa co).1 ∧ (verG (goT ru) (kcost ru) js xs i s wa co).1 < ((i + js.length : Nat) : Int)
 | [], xs, s, i, wa, co => by
  left
  rw [verG]
  simp
 | c :: js, [], s, i, wa, co => by
  left
  rw [verG]
  simp
 | c :: js, x :: xs, s, i, wa, co => by
  rw [verG]
  cases hg : goT ru c s x.tank.toNat x.wash with
  | none =>
   right
   rw [List.length_cons]
   exact ⟨Int.le_refl _, by show ((i : Nat) : Int) < _; omega⟩
  | some u =>
   rcases ver_bd js xs u (i + 1) (wa + numK x.wash) (co + kcost ru x.wash) with h | ⟨h1, h2⟩
   ·exact .inl h
   ·right
    rw [List.length_cons]
    show ((i : Nat) : Int) ≤ (verG _ _ js xs (i + 1) u _ _).1 ∧ (verG _ _ js xs (i + 1) u _ _).1 < _
    omega
theorem embed : ∀ (js : List Nat) (ws : List Int) (s s' : List (List Tr)), runW ru js ws s → 0 < s.length → 0 < s'.length → s'.getD 0 [] = s.getD 0 [] → 0 < m → runF ru m js (ws.map one) s'
 | [], [], _, _, _, _, _, _, _ => trivial
 | c :: js, k :: ws, s, s', h, h1, h2, h3, hm => by
  obtain ⟨hk, u, hg, h⟩ := h
  unfold goT at hg
  split at hg
  ·rename_i hmay
   injection hg with hg
   subst hg;refine ⟨⟨hm, hk⟩, s'.set 0 (loadT ru (wayT ru (s'.getD 0 []) k) c), ?_, ?_⟩
   ·show goT ru c s' 0 k = _
    unfold goT
    rw [h3, if_pos hmay]
   ·refine embed js ws _ _ h (by rw [List.length_set]; exact h1) (by rw [List.length_set]; exact h2) ?_ hm
    rw [setD, setD, if_pos ⟨rfl, h2⟩, if_pos ⟨rfl, h1⟩, h3]
  ·cases hg
end
/-! ### The best steps of a fleet -/
structure FleetOk (ru : Rules) (T : List (List Ev)) (js : List Int) (st : List St) (c : Int) : Prop where
 run : runF ru T.length (js.map Int.toNat) st (fillF ru T T.length)
 cost : c = costW ru (wsOf st)
 is : IsBest (compl (extY (yardOf ru T.length)) (js.map Int.toNat) (fillF ru T T.length, pl0)) ⟨st, numW (wsOf st), c⟩
theorem fleet_ok {ru : Rules} {T : List (List Ev)} {js : List Int} {p : Pl} (h : IsBest (compl (extY (yardOf ru T.length)) (js.map Int.toNat) (fillF ru T T.length, pl0)) p) : FleetOk ru T js p.steps p.cost := by
 obtain ⟨t, ht, e⟩ := compl_run _ _ _ _ h.1.choose_spec;have e0 : p = ⟨t, numW (wsOf t), costW ru (wsOf t)⟩ := by
  rw [show p = _ from e]
  simp [pl0]
 rw [e0] at h ⊢
 exact ⟨ht, rfl, h⟩
theorem FleetOk.best {ru : Rules} {T : List (List Ev)} {js : List Int} {st t : List St} {c : Int} (h : FleetOk ru T js st c) (ht : runF ru T.length (js.map Int.toNat) t (fillF ru T T.length)) : cmpP ⟨st, numW (wsOf st), c⟩ ⟨t, numW (wsOf t), costW ru (wsOf t)⟩ ≤ 0 := by
 obtain ⟨y, hy, e⟩ := run_compl _ t _ pl0 ht;have h1 := h.is.2 y hy;rw [e] at h1
 simpa [pl0] using h1
theorem cmpP_le {p q : Pl} (h : cmpP p q ≤ 0) : p.washes ≤ q.washes ∧ (p.washes = q.washes → p.cost ≤ q.cost ∧ (p.cost = q.cost → cmpL cmpSt p.steps q.steps ≤ 0)) := by
 refine ⟨cmpP_washes h, fun e => ?_⟩
 unfold cmpP at h
 have e0 : c3 p.washes q.washes = 0 := by unfold c3; rw [if_neg (by omega), if_neg (by omega)]
 rw [e0, or3, if_pos rfl] at h
 by_cases e1 : q.cost < p.cost
 ·have : c3 p.cost q.cost = 1 := by unfold c3; rw [if_neg (by omega), if_pos e1]
  rw [this, or3, if_neg (by decide)] at h
  exact absurd h (by decide)
 ·refine ⟨by omega, fun e2 => ?_⟩
  have e3 : c3 p.cost q.cost = 0 := by unfold c3; rw [if_neg (by omega), if_neg (by omega)]
  rw [e3, or3, if_pos rfl] at h
  exact h
def lessP : List Stp → List Stp → Bool
 | x :: xs, y :: ys => if x.tank = y.tank ∧ x.wash = y.wash then lessP xs ys else decide (x.tank < y.tank) || (decide (x.tank = y.tank) && decide (x.wash < y.wash))
 | _, _ => false
theorem lessP_cmp : ∀ (a b : List St), lessP (a.map toStp) (b.map toStp) = true → cmpL cmpSt a b < 0
 | [], b, h => absurd h (by simp [lessP])
 | x :: a, [], h => absurd h (by simp [lessP])
 | x :: a, y :: b, h => by
  rw [List.map_cons, List.map_cons] at h
  unfold lessP at h
  show or3 (cmpSt x y) (cmpL cmpSt a b) < 0
  split at h
  ·rename_i e
   have e1 : ((x.tank : Nat) : Int) = ((y.tank : Nat) : Int) := e.1;have e2 : x.wash = y.wash := e.2;have e3 : x = y := by
    cases x
    cases y
    simp only at e1 e2
    rw [show _ = _ from Int.ofNat.inj e1, e2]
   rw [e3, cmp_st.self, or3, if_pos rfl]
   exact lessP_cmp a b h
  ·rename_i e
   simp only [Bool.or_eq_true, Bool.and_eq_true, decide_eq_true_eq] at h
   have h' : ((x.tank : Nat) : Int) < ((y.tank : Nat) : Int) ∨ ((x.tank : Nat) : Int) = ((y.tank : Nat) : Int) ∧ x.wash < y.wash := h;have hlt : cmpSt x y < 0 := by
    unfold cmpSt or3 c3
    rcases h' with h1 | ⟨h1, h2⟩
    ·rw [if_neg (by rw [if_pos h1]; decide), if_pos h1]
     decide
    ·rw [if_pos (by rw [if_neg (by omega), if_neg (by omega)]), if_pos h2]
     decide
   rw [or3, if_neg (by omega)]
   exact hlt
/-- what Verify accepts is not better than the best -/
theorem not_better {ru : Rules} {T : List (List Ev)} {js : List Int} {st t : List St} {c : Int} (h : FleetOk ru T js st c) (ht : runF ru T.length (js.map Int.toNat) t (fillF ru T T.length)) :
  numW (wsOf st) ≤ numW (wsOf t) ∧ (numW (wsOf t) = numW (wsOf st) → c ≤ costW ru (wsOf t) ∧ (costW ru (wsOf t) = c → lessP (t.map toStp) (st.map toStp) = false)) := by
 obtain ⟨h1, h2⟩ := cmpP_le (h.best ht);refine ⟨h1, fun e => ?_⟩
 obtain ⟨h3, h4⟩ := h2 e.symm;refine ⟨h3, fun e2 => ?_⟩
 have h5 := h4 e2.symm
 cases hl : lessP (t.map toStp) (st.map toStp) with
 | false => rfl
 | true =>
  have h6 := lessP_cmp _ _ hl;have h7 := cmp_st.list.anti t st;have h8 : cmpL cmpSt st t ≤ 0 := h5
  omega
/-! ### Verify and Fleet -/
theorem yardT_ok {ru : Rules} {T : List (List Ev)} {js : List Int} (hrb : rulesB ru = true) (h1 : 0 < T.length) (h3 : T.length ≤ 3) (hz : ∀ k, k < T.length → refE ru (T.getD k []) = 0) (hj : jobsE ru js 10 = 0) (h6 : js.length ≤ 6) : yardE ru T js = 0 := by
 unfold yardE
 rw [if_pos hrb, if_neg (by omega), if_neg (by omega), if_pos (tanksE_none hz)]
 unfold jobsE at hj ⊢
 rw [if_neg (by omega)] at hj ⊢
 exact hj
theorem codeF_two {ru : Rules} {T : List (List Ev)} {js : List Int} (hy : yardE ru T js = 0) : codeF ru T js = 0 ∨ codeF ru T js = 7 := by
 unfold codeF
 rw [if_pos hy]
 split
 ·exact .inr rfl
 ·exact .inl rfl
theorem codeF_some {ru : Rules} {T : List (List Ev)} {js : List Int} (hy : yardE ru T js = 0) : codeF ru T js = 0 ↔ compl (extY (yardOf ru T.length)) (js.map Int.toNat) (fillF ru T T.length, pl0) ≠ [] := by
 have h := depth_iff (ext := extY (yardOf ru T.length)) (js.map Int.toNat) (fillF ru T T.length, pl0) (js.map Int.toNat).length (Nat.le_refl _);rw [List.take_length, List.length_map] at h
 unfold codeF
 rw [if_pos hy, ← h]
 show (if depF ru T js < js.length then (7 : Int) else 0) = 0 ↔ js.length ≤ depF ru T js
 split
 ·rename_i h1
  exact ⟨fun e => absurd e (by decide), fun e => by omega⟩
 ·exact ⟨fun _ => by omega, fun _ => rfl⟩
theorem verE_ok {ru : Rules} {T : List (List Ev)} {js : List Int} {xs : List Stp} (hy : yardE ru T js = 0) (hl : xs.length = js.length) (hx : xs.all (stB ru T.length) = true) : verE ru T js xs = 0 ∧ verT ru T js xs = verG (goT ru) (kcost ru) (js.map Int.toNat) xs 0 (fillF ru T T.length) 0 0 := by
 have he : verE ru T js xs = 0 := by
  unfold verE
  rw [if_neg (by rw [hy]; simp), if_neg (by rw [hl]; simp), if_pos hx]
 refine ⟨he, ?_⟩
 unfold verT
 rw [if_pos he]
theorem run_stB {ru : Rules} {m : Nat} {js : List Nat} {t : List St} {s : List (List Tr)} (h : runF ru m js t s) : (t.map toStp).all (stB ru m) = true := by
 rw [List.all_map, List.all_eq_true];intro x hx;obtain ⟨h1, h2⟩ := runF_steps h x hx;have h3 := kinds_bd h2
 show stB ru m ⟨((x.tank : Nat) : Int), x.wash⟩ = true
 unfold stB
 rw [Bool.and_eq_true, inB_iff, inB_iff]
 exact ⟨by simp only; omega, by simp only; omega⟩
structure VerW (ru : Rules) (T : List (List Ev)) (js : List Int) (xs : List Stp) (b w c : Int) : Prop where
 lo : -1 ≤ b
 hi : b < js.length ∨ b = -1
 run : b = -1 → ∃ t, xs = t.map toStp ∧ runF ru T.length (js.map Int.toNat) t (fillF ru T T.length) ∧ w = numW (wsOf t) ∧ c = costW ru (wsOf t)
 back : ∀ t, xs = t.map toStp → runF ru T.length (js.map Int.toNat) t (fillF ru T T.length) → b = -1 ∧ w = numW (wsOf t) ∧ c = costW ru (wsOf t)
theorem ver_w {ru : Rules} {T : List (List Ev)} {js : List Int} {xs : List Stp} (hy : yardE ru T js = 0) (hl : xs.length = js.length) (hx : xs.all (stB ru T.length) = true) : VerW ru T js xs (verT ru T js xs).1 (verT ru T js xs).2.1 (verT ru T js xs).2.2 := by
 rw [(verE_ok hy hl hx).2];have hb := ver_bd (ru := ru) (js.map Int.toNat) xs (fillF ru T T.length) 0 0 0;rw [List.length_map] at hb;refine ⟨by omega, by omega, fun h => ?_, fun t e ht => ?_⟩
 ·obtain ⟨t, e, ht⟩ := run_verF (m := T.length) (js.map Int.toNat) xs (fillF ru T T.length) 0 0 0 (by rw [List.length_map]; exact hl) hx h
  have h2 := verF_run _ _ _ 0 0 0 ht;rw [← e, Int.zero_add, Int.zero_add] at h2
  exact ⟨t, e, ht, by rw [h2], by rw [h2]⟩
 ·have h2 := verF_run _ _ _ 0 0 0 ht
  rw [← e, Int.zero_add, Int.zero_add] at h2;rw [h2]
  exact ⟨rfl, rfl, rfl⟩
/-- nothing can be accepted where there is no best -/
theorem ver_none {ru : Rules} {T : List (List Ev)} {js : List Int} {xs : List Stp} {b w c : Int} (hy : yardE ru T js = 0) (hc : codeF ru T js ≠ 0) (h : VerW ru T js xs b w c) : 0 ≤ b := by
 have h1 := h.lo;refine Classical.byContradiction fun hn => ?_
 obtain ⟨t, _, ht, _⟩ := h.run (by omega)
 obtain ⟨y, hy2, _⟩ := run_compl _ t _ pl0 ht
 exact hc ((codeF_some hy).2 (List.ne_nil_of_mem hy2))
theorem atF_bd {ru : Rules} {T : List (List Ev)} {js : List Int} (hy : yardE ru T js = 0) (hc : codeF ru T js ≠ 0) : atF ru T js < js.length := by
 unfold codeF at hc
 unfold atF
 rw [if_pos hy] at hc ⊢
 split at hc
 ·rename_i h
  rw [if_pos h]
  exact h
 ·exact absurd rfl hc
/-! ### One tank alone -/
theorem codeF_one {ru : Rules} {l : List Ev} {js : List Int} (hrb : rulesB ru = true) (hz : refE ru l = 0) (hj : jobsE ru js 10 = 0) (h6 : js.length ≤ 6) : codeF ru [l] js = codeS ru l js := by
 have hy : yardE ru [l] js = 0 := yardT_ok hrb (by simp) (by simp) (fun k hk => by
  obtain rfl : k = 0 := by simpa using hk
  exact hz) hj h6
 have he : errS ru l js = 0 := by unfold errS; rw [if_pos hz, hj]
 have hd : depF ru [l] js = depS ru l js := by
  unfold depF depS
  show depthR _ _ (fillF ru [l] 1, pl0) = _
  rw [fill_one]
  rfl
 unfold codeF codeS
 rw [if_pos hy, if_pos he, hd]
theorem one_same {ru : Rules} {l : List Ev} {js : List Int} {st : List St} {c : Int} {p : Pl} (h : FleetOk ru [l] js st c) (hp : IsBest (compl (extY (yardOf ru 1)) (js.map Int.toNat) (st3 ru l, pl0)) p) : st = p.steps ∧ c = p.cost := by
 have h1 := h.is;have e : (fillF ru [l] [l].length) = st3 ru l := fill_one ru l;rw [e] at h1;have h2 := IsBest.one hp h1;rw [h2]
 exact ⟨rfl, rfl⟩
theorem fleet_le {ru : Rules} {T : List (List Ev)} {js : List Int} {st : List St} {c : Int} (h : FleetOk ru T js st c) (h0 : 0 < T.length) {l : List Ev} (hl : T.getD 0 [] = l) {ws : List Int} {co : Int} (hp : PlanOk ru l js ws co) : numW (wsOf st) ≤ numW ws := by
 have hf : (fillF ru T T.length).getD 0 [] = (st3 ru l).getD 0 [] := by
  show (if 0 < T.length then tkE ru (T.getD 0 []) else tank0) = tkE ru l
  rw [if_pos h0, hl]
 have h1 := embed (m := T.length) _ ws (st3 ru l) (fillF ru T T.length) hp.run (by simp [st3]) (by simp [fillF]) hf h0
 have h2 := cmpP_washes (h.best h1);have e : wsOf (ws.map one) = ws := by
  unfold wsOf
  rw [List.map_map]
  conv => rhs; rw [← List.map_id ws]
  rfl
 rw [e] at h2
 exact h2
/-! ### All but the last -/
theorem wsOf_take (t : List St) (k : Nat) : wsOf (t.take k) = (wsOf t).take k := by unfold wsOf; rw [List.map_take]
theorem numW_take : ∀ (l : List Int) (k : Nat), numW (l.take k) ≤ numW l
 | l, 0 => by rw [List.take_zero, numW]; exact (numW_bd l).1
 | [], k + 1 => Int.le_refl _
 | x :: l, k + 1 => by
  have := numW_take l k;rw [List.take_succ_cons, numW, numW]
  omega
theorem fleet_take {ru : Rules} {T : List (List Ev)} {js : List Int} {st : List St} {c : Int} (h : FleetOk ru T js st c) (k : Nat) (hy : yardE ru T (js.take k) = 0) : codeF ru T (js.take k) = 0 ∧ ∀ {su : List St} {co : Int}, FleetOk ru T (js.take k) su co → numW (wsOf su) ≤ numW (wsOf st) := by
 have h1 := runF_take k h.run;rw [← List.map_take] at h1;refine ⟨?_, fun h2 => ?_⟩
 ·obtain ⟨y, hy2, _⟩ := run_compl _ _ _ pl0 h1
  exact (codeF_some hy).2 (List.ne_nil_of_mem hy2)
 ·have h3 := cmpP_washes (h2.best h1)
  have h4 := numW_take (wsOf st) k;rw [← wsOf_take] at h4
  exact Int.le_trans h3 h4
theorem fleet_len {ru : Rules} {T : List (List Ev)} {js : List Int} {st : List St} {c : Int} (h : FleetOk ru T js st c) : st.length = js.length := by rw [runF_len h.run, List.length_map]
section
variable {n : Nat} {σ : Sg} {w : World} {dst : Option Tmp} {ty : TypeId} {pos : String} {af : Array Edge} {g : Option (Nat × Bool)} {x y z : Operand} {at' : Array TypeId}
theorem cF31 : cF 31 := fun _ _ => by simp [go_sem]
end
section
variable {n : Nat} {σ : Sg} {w : World} {dst : Option Tmp} {ty : TypeId} {pos : String} {af : Array Edge} {g : Option (Nat × Bool)} {x y z : Operand} {at' : Array TypeId}
theorem bx_110 {v0 v1 : Value} (hx : evS σ x = some (.agg #[v0, v1])) (a : Act) (ha : Env n σ a) : (execOp a.eval ⟨dst, .box 110 x, ty, pos, af, g⟩).run Try.prog w = .ok (.value (.pointer (some ⟨w.heap.size, 0, none⟩))) (w.alloc (.cells #[v0, v1] 110)) := by
 simp only [execOp, ha.eval hx]
 simp [go_sem]
theorem bx_112 {v0 v1 v2 : Value} (hx : evS σ x = some (.agg #[v0, v1, v2])) (a : Act) (ha : Env n σ a) : (execOp a.eval ⟨dst, .box 112 x, ty, pos, af, g⟩).run Try.prog w = .ok (.value (.pointer (some ⟨w.heap.size, 0, none⟩))) (w.alloc (.cells #[v0, v1, v2] 112)) := by
 simp only [execOp, ha.eval hx]
 simp [go_sem]
theorem fa_112_1 {b o : Nat} (hx : evS σ x = some (.pointer (some ⟨b, o, none⟩))) : Gives Try.prog n σ w ⟨dst, .fieldAddr 112 x 1, ty, pos, af, g⟩ (.pointer (some ⟨b, o + 1, none⟩)) := fun a ha => by
 simp only [execOp, ha.eval hx]
 simp [go_sem]
theorem ld_79 {b o : Nat} {v0 : Value} (hx : evS σ x = some (.pointer (some ⟨b, o, none⟩))) (c0 : w.cell? ⟨b, o, none⟩ = some v0) : Gives Try.prog n σ w ⟨dst, .load 79 x, ty, pos, af, g⟩ (v0) := fun a ha => by
 simp only [execOp, ha.eval hx]
 simp [go_sem, c0]
theorem ixa_110 {b o k : Nat} (hx : evS σ x = some (.pointer (some ⟨b, o, none⟩))) (hy : evS σ y = some (.int .i64 (k : Int))) (hk : k < 2) : Gives Try.prog n σ w ⟨dst, .indexAddr 110 x y, ty, pos, af, g⟩ (.pointer (some ⟨b, o + k, none⟩)) := fun a ha => by
 have k0 : (0 : Int) ≤ (k : Int) := Int.natCast_nonneg _;have k1 : (k : Int) < 2 := by omega
 simp only [execOp, ha.eval hx, ha.eval hy]
 simp [go_sem, k0, k1]
theorem fa_112_0 {b o : Nat} (hx : evS σ x = some (.pointer (some ⟨b, o, none⟩))) : Gives Try.prog n σ w ⟨dst, .fieldAddr 112 x 0, ty, pos, af, g⟩ (.pointer (some ⟨b, o, none⟩)) := fun a ha => by
 simp only [execOp, ha.eval hx]
 simp [go_sem]
theorem sz_76 : (Try.prog.info? 76).map (·.size) = some 1 := by kernel_rfl
theorem fa_112_2 {b o : Nat} (hx : evS σ x = some (.pointer (some ⟨b, o, none⟩))) : Gives Try.prog n σ w ⟨dst, .fieldAddr 112 x 2, ty, pos, af, g⟩ (.pointer (some ⟨b, o + 2, none⟩)) := fun a ha => by
 simp only [execOp, ha.eval hx]
 simp [go_sem]
theorem cF44 : cF 44 := fun _ _ => by simp [go_sem]
theorem slh_96 {b o m c hi : Nat} (hx : evS σ x = some (.slice (some ⟨b, o, none⟩) m c)) (hh : evS σ y = some (.int .i64 (hi : Int))) (h2 : hi ≤ c) : Gives Try.prog n σ w ⟨dst, .slice 96 x none (some y) none, ty, pos, af, g⟩ (.slice (some ⟨b, o, none⟩) hi c) := fun a ha => by
 have k1 : (0 : Int) ≤ (hi : Int) := Int.natCast_nonneg _;have k3 : (hi : Int) ≤ (c : Int) := by omega
 simp only [execOp, Option.map_some, Option.map_none, ha.eval hx, ha.eval hh]
 by_cases e : c = 0
 ·subst e; obtain rfl : hi = 0 := by omega
  simp [go_sem]
 ·simp [go_sem, k1, k3, h2, e]
end
theorem less_eq {a b : List Stp} {i : Nat} (h1 : i < a.length) (h2 : i < b.length) (h : (a.getD i stp0).tank = (b.getD i stp0).tank ∧ (a.getD i stp0).wash = (b.getD i stp0).wash) : lessP (a.drop i) (b.drop i) = lessP (a.drop (i + 1)) (b.drop (i + 1)) := by
 rw [List.drop_eq_getElem_cons h1, List.drop_eq_getElem_cons h2];rw [getD_in h1, getD_in h2] at h
 conv => lhs; unfold lessP
 rw [if_pos h]
theorem less_ne {a b : List Stp} {i : Nat} (hle : lessP a b = lessP (a.drop i) (b.drop i)) (h1 : i < a.length) (h2 : i < b.length) (h : ¬((a.getD i stp0).tank = (b.getD i stp0).tank ∧ (a.getD i stp0).wash = (b.getD i stp0).wash)) : lessP a b = (decide ((a.getD i stp0).tank < (b.getD i stp0).tank) || (decide ((a.getD i stp0).tank = (b.getD i stp0).tank) && decide ((a.getD i stp0).wash < (b.getD i stp0).wash))) := by
 rw [hle, List.drop_eq_getElem_cons h1, List.drop_eq_getElem_cons h2];rw [getD_in h1, getD_in h2] at h ⊢
 conv => lhs; unfold lessP
 rw [if_neg h]
theorem lessP_any {a b : List Stp} {va vb : Value} {w : World} {B : Nat} (hra : Rd w B 2 va a.length (stpsC a)) (hrb : Rd w B 2 vb b.length (stpsC b)) (hB : B ≤ w.heap.size) (hl : a.length = b.length) (hn : a.length ≤ 1048576) :
  Calls Try.prog 44 #[va, vb] w fun e w' => e = .returned (.bool (lessP a b)) ∧ Below w.heap.size w w' := by
 obtain ⟨Aa, ca, rfl, _⟩ := hra.shape;obtain ⟨Ab, cb, rfl, _⟩ := hrb.shape;have hbw := Below.refl w.heap.size w;refine EC.enter 58 Try.func44 rfl rfl rfl (EC.seq (EC.region (EL.as rfl rfl (EL.nil (EX.seq (EC.seq (EC.seq (EC.region (EL.as rfl rfl ?_)))))))));refine EL.nil (EX.seq (EC.block ?_));refine EC.loopD [4, 5, 6, 7, 8, 9, 10, 11, 12, 13, 14, 15, 16, 17, 18, 19, 20, 21, 22, 23, 24, 25, 26, 27, 28, 29, 30, 31, 32, 33, 34, 35, 36, 37, 38, 39, 40, 41, 42, 43, 44, 45, 46, 47, 48, 49, 50, 51, 52, 53, 54, 55, 56, 57] (fun x : Nat => [(5, .int .i64 (x : Nat))]) (fun x W => (x ≤ a.length ∧ lessP a b = lessP (a.drop x) (b.drop x)) ∧ Below w.heap.size w W) (fun x => a.length - x) 0 ⟨⟨Nat.zero_le _, rfl⟩, hbw⟩ ⟨rfl, trivial⟩ ?_
 clear hbw
 rintro i wx ⟨⟨hi, hle⟩, hbw⟩
 by_cases hlt : i < a.length
 ·
  have hlb : i < b.length := by omega
  obtain ⟨b1_, o1_, e1_, _, x0, x1⟩ := stps_cells a i hlt wx B _ _ _ (hra.below (hbw.mono hB));obtain ⟨b2_, o2_, e2_, _, y0, y1⟩ := stps_cells b i hlb wx B _ _ _ (hrb.below (hbw.mono hB))
  by_cases hq : (a.getD i stp0).tank = (b.getD i stp0).tank ∧ (a.getD i stp0).wash = (b.getD i stp0).wash
  ·
   refine EC.seq (EC.seq (EC.region (EL.mv rfl rfl (EL.mv rfl rfl (EL.val (ln_65 rfl) rfl ?_)))));refine EL.val (x_lss rfl rfl (decide_eq_true (show (((i : Nat) : Int) < ((a.length : Nat) : Int)) by omega))) rfl ?_
   refine EL.nil (EX.seq (EC.yes rfl (EC.skip (EX.seq (EC.seq (EC.block (EC.seq ?_)))))));refine EC.regionQ (by kernel_rfl) (by kernel_rfl) ?_
   refine EQ.mv rfl rfl (EQ.mv rfl rfl ?_);refine EQ.val (fun _ hw => (ix_65 (by show some (Value.slice Aa _ _) = _; rw [e1_]) rfl hlt)) rfl ?_
   refine EQ.val (fun _ hw => (ld_70 rfl (below_load hw x0) (below_load hw x1))) rfl ?_
   refine EQ.mv rfl rfl (EQ.mv rfl rfl ?_);refine EQ.val (fun _ hw => (ix_65 (by show some (Value.slice Ab _ _) = _; rw [e2_]) rfl hlb)) rfl ?_
   refine EQ.val (fun _ hw => (ld_70 rfl (below_load hw y0) (below_load hw y1))) rfl ?_
   refine EQ.val (fun _ hw => (neq_70 (r := false) rfl rfl (decide_eq_false (fun h => h hq)))) rfl ?_
   refine EQ.fin (fun w1 hw_ => ?_)
   replace hbw := bo_ hbw hw_;clear hw_;refine EX.seq (EC.no rfl (EC.skip (EX.blk (EX.seq (EC.region (EL.mv rfl rfl ?_))))));refine EL.val (x_add rfl rfl (c := ((i + 1 : Nat) : Int)) ((IntWalk.i64_in _ ⟨by first | omega | (simp only; omega), by first | omega | (simp only; omega)⟩).trans (by first | omega | (simp only; omega)))) rfl ?_
   refine EL.as rfl rfl (EL.nil ?_);refine EX.roundD (i + 1) ⟨rfl, trivial⟩ (by repeat first | with_reducible exact .refl _ | refine sp_ rfl ?_ | exact .refl _ | refine sd_ rfl ?_ | refine sn_ ?_) ⟨⟨hlt, hle.trans (less_eq hlt hlb hq)⟩, hbw⟩ (by omega)
  ·
   obtain ⟨c1_, p1_, f1_, _, u0, u1⟩ := stps_cells a i hlt wx B _ _ _ (hra.below (hbw.mono hB));refine EC.seq (EC.seq (EC.region (EL.mv rfl rfl (EL.mv rfl rfl (EL.val (ln_65 rfl) rfl ?_)))));refine EL.val (x_lss rfl rfl (decide_eq_true (show (((i : Nat) : Int) < ((a.length : Nat) : Int)) by omega))) rfl ?_
   refine EL.nil (EX.seq (EC.yes rfl (EC.skip (EX.seq (EC.seq (EC.block (EC.seq ?_)))))));refine EC.regionQ (by kernel_rfl) (by kernel_rfl) ?_
   refine EQ.mv rfl rfl (EQ.mv rfl rfl ?_);refine EQ.val (fun _ hw => (ix_65 (by show some (Value.slice Aa _ _) = _; rw [e1_]) rfl hlt)) rfl ?_
   refine EQ.val (fun _ hw => (ld_70 rfl (below_load hw x0) (below_load hw x1))) rfl ?_
   refine EQ.mv rfl rfl (EQ.mv rfl rfl ?_);refine EQ.val (fun _ hw => (ix_65 (by show some (Value.slice Ab _ _) = _; rw [e2_]) rfl hlb)) rfl ?_
   refine EQ.val (fun _ hw => (ld_70 rfl (below_load hw y0) (below_load hw y1))) rfl ?_
   refine EQ.val (fun _ hw => (neq_70 (r := true) rfl rfl (decide_eq_true hq))) rfl ?_
   refine EQ.fin (fun w2 hw_ => ?_)
   replace hbw := bo_ hbw hw_;clear hw_;refine EX.seq (EC.yes rfl (EC.seq ?_));clear x0 x1 y0 y1 e1_ e2_ u0 u1 f1_;obtain ⟨b3_, o3_, e3_, _, x0, x1⟩ := stps_cells a i hlt w2 B _ _ _ (hra.below (hbw.mono hB));obtain ⟨b4_, o4_, e4_, _, y0, y1⟩ := stps_cells b i hlb w2 B _ _ _ (hrb.below (hbw.mono hB))
   by_cases h1 : (a.getD i stp0).tank < (b.getD i stp0).tank
   ·
    refine EC.regionQ (by kernel_rfl) (by kernel_rfl) ?_
    refine EQ.mv rfl rfl (EQ.mv rfl rfl ?_);refine EQ.val (fun _ hw => (ix_65 (by show some (Value.slice Aa _ _) = _; rw [e3_]) rfl hlt)) rfl ?_
    refine EQ.val (fun _ hw => (fa_70_0 rfl)) rfl ?_
    refine EQ.val (fun _ hw => (ld_3 rfl (below_load hw x0))) rfl ?_
    refine EQ.mv rfl rfl (EQ.mv rfl rfl ?_);refine EQ.val (fun _ hw => (ix_65 (by show some (Value.slice Ab _ _) = _; rw [e4_]) rfl hlb)) rfl ?_
    refine EQ.val (fun _ hw => (fa_70_0 rfl)) rfl ?_
    refine EQ.val (fun _ hw => (ld_3 rfl (below_load hw y0))) rfl ?_
    refine EQ.val (fun _ hw => (x_lss (r := true) rfl rfl (decide_eq_true h1))) rfl ?_
    refine EQ.mv rfl rfl (EQ.skip rfl rfl rfl rfl (EQ.skip rfl rfl rfl rfl (EQ.skip rfl rfl rfl rfl (EQ.skip rfl rfl rfl rfl (EQ.skip rfl rfl rfl rfl (EQ.skip rfl rfl rfl rfl (EQ.skip rfl rfl rfl rfl (EQ.skip rfl rfl rfl rfl (EQ.skip rfl rfl rfl rfl ?_)))))))));refine EQ.skip rfl rfl rfl rfl (EQ.skip rfl rfl rfl rfl (EQ.skip rfl rfl rfl rfl (EQ.skip rfl rfl rfl rfl (EQ.skip rfl rfl rfl rfl (EQ.skip rfl rfl rfl rfl (EQ.skip rfl rfl rfl rfl (EQ.skip rfl rfl rfl rfl (EQ.skip rfl rfl rfl rfl (EQ.skip rfl rfl rfl rfl ?_)))))))));refine EQ.skip rfl rfl rfl rfl (EQ.skip rfl rfl rfl rfl (EQ.skip rfl rfl rfl rfl (EQ.skip rfl rfl rfl rfl (EQ.skip rfl rfl rfl rfl ?_))));refine EQ.val (fun _ hw => (x_pick_t rfl rfl)) rfl ?_
    refine EQ.val (fun _ hw => (x_assign rfl)) rfl ?_
    refine EQ.fin (fun w3 hw_ => ?_)
    replace hbw := bo_ hbw hw_;clear hw_;refine EX.seq (EC.ret (EX.blk_ret (EX.seq_ret (EX.seq_ret (EX.blk_ret (EX.seq_ret ?_))))))
    exact EX.done (res1 rfl rfl) ⟨by rw [less_ne hle hlt hlb hq, decide_eq_true h1] <;> rfl, hbw⟩
   ·
    by_cases h2 : (a.getD i stp0).tank = (b.getD i stp0).tank
    ·
     by_cases h3 : (a.getD i stp0).wash < (b.getD i stp0).wash
     ·
      refine EC.regionQ (by kernel_rfl) (by kernel_rfl) ?_
      refine EQ.mv rfl rfl (EQ.mv rfl rfl ?_);refine EQ.val (fun _ hw => (ix_65 (by show some (Value.slice Aa _ _) = _; rw [e3_]) rfl hlt)) rfl ?_
      refine EQ.val (fun _ hw => (fa_70_0 rfl)) rfl ?_
      refine EQ.val (fun _ hw => (ld_3 rfl (below_load hw x0))) rfl ?_
      refine EQ.mv rfl rfl (EQ.mv rfl rfl ?_);refine EQ.val (fun _ hw => (ix_65 (by show some (Value.slice Ab _ _) = _; rw [e4_]) rfl hlb)) rfl ?_
      refine EQ.val (fun _ hw => (fa_70_0 rfl)) rfl ?_
      refine EQ.val (fun _ hw => (ld_3 rfl (below_load hw y0))) rfl ?_
      refine EQ.val (fun _ hw => (x_lss (r := false) rfl rfl (decide_eq_false h1))) rfl ?_
      refine EQ.mv rfl rfl (EQ.mg rfl rfl rfl rfl (EQ.mg rfl rfl rfl rfl ?_));refine EQ.valg rfl rfl (fun _ hw => (ix_65 (by show some (Value.slice Aa _ _) = _; rw [e3_]) rfl hlt)) rfl ?_
      refine EQ.valg rfl rfl (fun _ hw => (fa_70_0 rfl)) rfl ?_
      refine EQ.valg rfl rfl (fun _ hw => (ld_3 rfl (below_load hw x0))) rfl ?_
      refine EQ.mg rfl rfl rfl rfl (EQ.mg rfl rfl rfl rfl ?_);refine EQ.valg rfl rfl (fun _ hw => (ix_65 (by show some (Value.slice Ab _ _) = _; rw [e4_]) rfl hlb)) rfl ?_
      refine EQ.valg rfl rfl (fun _ hw => (fa_70_0 rfl)) rfl ?_
      refine EQ.valg rfl rfl (fun _ hw => (ld_3 rfl (below_load hw y0))) rfl ?_
      refine EQ.valg rfl rfl (fun _ hw => (x_eql (r := true) rfl rfl (decide_eq_true h2))) rfl ?_
      refine EQ.mg rfl rfl rfl rfl (EQ.mg rfl rfl rfl rfl (EQ.mg rfl rfl rfl rfl ?_));refine EQ.valg rfl rfl (fun _ hw => (ix_65 (by show some (Value.slice Aa _ _) = _; rw [e3_]) rfl hlt)) rfl ?_
      refine EQ.valg rfl rfl (fun _ hw => (fa_70_1 rfl)) rfl ?_
      refine EQ.valg rfl rfl (fun _ hw => (ld_3 rfl (below_load hw x1))) rfl ?_
      refine EQ.mg rfl rfl rfl rfl (EQ.mg rfl rfl rfl rfl ?_);refine EQ.valg rfl rfl (fun _ hw => (ix_65 (by show some (Value.slice Ab _ _) = _; rw [e4_]) rfl hlb)) rfl ?_
      refine EQ.valg rfl rfl (fun _ hw => (fa_70_1 rfl)) rfl ?_
      refine EQ.valg rfl rfl (fun _ hw => (ld_3 rfl (below_load hw y1))) rfl ?_
      refine EQ.valg rfl rfl (fun _ hw => (x_lss (r := true) rfl rfl (decide_eq_true h3))) rfl ?_
      refine EQ.valg rfl rfl (fun _ hw => (x_pick_t rfl rfl)) rfl ?_
      refine EQ.val (fun _ hw => (x_pick_f rfl rfl)) rfl ?_
      refine EQ.val (fun _ hw => (x_assign rfl)) rfl ?_
      refine EQ.fin (fun w4 hw_ => ?_)
      replace hbw := bo_ hbw hw_;clear hw_;refine EX.seq (EC.ret (EX.blk_ret (EX.seq_ret (EX.seq_ret (EX.blk_ret (EX.seq_ret ?_))))))
      exact EX.done (res1 rfl rfl) ⟨by rw [less_ne hle hlt hlb hq, decide_eq_false h1, decide_eq_true h2, decide_eq_true h3] <;> rfl, hbw⟩
     ·
      refine EC.regionQ (by kernel_rfl) (by kernel_rfl) ?_
      refine EQ.mv rfl rfl (EQ.mv rfl rfl ?_);refine EQ.val (fun _ hw => (ix_65 (by show some (Value.slice Aa _ _) = _; rw [e3_]) rfl hlt)) rfl ?_
      refine EQ.val (fun _ hw => (fa_70_0 rfl)) rfl ?_
      refine EQ.val (fun _ hw => (ld_3 rfl (below_load hw x0))) rfl ?_
      refine EQ.mv rfl rfl (EQ.mv rfl rfl ?_);refine EQ.val (fun _ hw => (ix_65 (by show some (Value.slice Ab _ _) = _; rw [e4_]) rfl hlb)) rfl ?_
      refine EQ.val (fun _ hw => (fa_70_0 rfl)) rfl ?_
      refine EQ.val (fun _ hw => (ld_3 rfl (below_load hw y0))) rfl ?_
      refine EQ.val (fun _ hw => (x_lss (r := false) rfl rfl (decide_eq_false h1))) rfl ?_
      refine EQ.mv rfl rfl (EQ.mg rfl rfl rfl rfl (EQ.mg rfl rfl rfl rfl ?_));refine EQ.valg rfl rfl (fun _ hw => (ix_65 (by show some (Value.slice Aa _ _) = _; rw [e3_]) rfl hlt)) rfl ?_
      refine EQ.valg rfl rfl (fun _ hw => (fa_70_0 rfl)) rfl ?_
      refine EQ.valg rfl rfl (fun _ hw => (ld_3 rfl (below_load hw x0))) rfl ?_
      refine EQ.mg rfl rfl rfl rfl (EQ.mg rfl rfl rfl rfl ?_);refine EQ.valg rfl rfl (fun _ hw => (ix_65 (by show some (Value.slice Ab _ _) = _; rw [e4_]) rfl hlb)) rfl ?_
      refine EQ.valg rfl rfl (fun _ hw => (fa_70_0 rfl)) rfl ?_
      refine EQ.valg rfl rfl (fun _ hw => (ld_3 rfl (below_load hw y0))) rfl ?_
      refine EQ.valg rfl rfl (fun _ hw => (x_eql (r := true) rfl rfl (decide_eq_true h2))) rfl ?_
      refine EQ.mg rfl rfl rfl rfl (EQ.mg rfl rfl rfl rfl (EQ.mg rfl rfl rfl rfl ?_));refine EQ.valg rfl rfl (fun _ hw => (ix_65 (by show some (Value.slice Aa _ _) = _; rw [e3_]) rfl hlt)) rfl ?_
      refine EQ.valg rfl rfl (fun _ hw => (fa_70_1 rfl)) rfl ?_
      refine EQ.valg rfl rfl (fun _ hw => (ld_3 rfl (below_load hw x1))) rfl ?_
      refine EQ.mg rfl rfl rfl rfl (EQ.mg rfl rfl rfl rfl ?_);refine EQ.valg rfl rfl (fun _ hw => (ix_65 (by show some (Value.slice Ab _ _) = _; rw [e4_]) rfl hlb)) rfl ?_
      refine EQ.valg rfl rfl (fun _ hw => (fa_70_1 rfl)) rfl ?_
      refine EQ.valg rfl rfl (fun _ hw => (ld_3 rfl (below_load hw y1))) rfl ?_
      refine EQ.valg rfl rfl (fun _ hw => (x_lss (r := false) rfl rfl (decide_eq_false h3))) rfl ?_
      refine EQ.valg rfl rfl (fun _ hw => (x_pick_t rfl rfl)) rfl ?_
      refine EQ.val (fun _ hw => (x_pick_f rfl rfl)) rfl ?_
      refine EQ.val (fun _ hw => (x_assign rfl)) rfl ?_
      refine EQ.fin (fun w5 hw_ => ?_)
      replace hbw := bo_ hbw hw_;clear hw_;refine EX.seq (EC.ret (EX.blk_ret (EX.seq_ret (EX.seq_ret (EX.blk_ret (EX.seq_ret ?_))))))
      exact EX.done (res1 rfl rfl) ⟨by rw [less_ne hle hlt hlb hq, decide_eq_false h1, decide_eq_true h2, decide_eq_false h3] <;> rfl, hbw⟩
    ·
     refine EC.regionQ (by kernel_rfl) (by kernel_rfl) ?_
     refine EQ.mv rfl rfl (EQ.mv rfl rfl ?_);refine EQ.val (fun _ hw => (ix_65 (by show some (Value.slice Aa _ _) = _; rw [e3_]) rfl hlt)) rfl ?_
     refine EQ.val (fun _ hw => (fa_70_0 rfl)) rfl ?_
     refine EQ.val (fun _ hw => (ld_3 rfl (below_load hw x0))) rfl ?_
     refine EQ.mv rfl rfl (EQ.mv rfl rfl ?_);refine EQ.val (fun _ hw => (ix_65 (by show some (Value.slice Ab _ _) = _; rw [e4_]) rfl hlb)) rfl ?_
     refine EQ.val (fun _ hw => (fa_70_0 rfl)) rfl ?_
     refine EQ.val (fun _ hw => (ld_3 rfl (below_load hw y0))) rfl ?_
     refine EQ.val (fun _ hw => (x_lss (r := false) rfl rfl (decide_eq_false h1))) rfl ?_
     refine EQ.mv rfl rfl (EQ.mg rfl rfl rfl rfl (EQ.mg rfl rfl rfl rfl ?_));refine EQ.valg rfl rfl (fun _ hw => (ix_65 (by show some (Value.slice Aa _ _) = _; rw [e3_]) rfl hlt)) rfl ?_
     refine EQ.valg rfl rfl (fun _ hw => (fa_70_0 rfl)) rfl ?_
     refine EQ.valg rfl rfl (fun _ hw => (ld_3 rfl (below_load hw x0))) rfl ?_
     refine EQ.mg rfl rfl rfl rfl (EQ.mg rfl rfl rfl rfl ?_);refine EQ.valg rfl rfl (fun _ hw => (ix_65 (by show some (Value.slice Ab _ _) = _; rw [e4_]) rfl hlb)) rfl ?_
     refine EQ.valg rfl rfl (fun _ hw => (fa_70_0 rfl)) rfl ?_
     refine EQ.valg rfl rfl (fun _ hw => (ld_3 rfl (below_load hw y0))) rfl ?_
     refine EQ.valg rfl rfl (fun _ hw => (x_eql (r := false) rfl rfl (decide_eq_false h2))) rfl ?_
     refine EQ.mg rfl rfl rfl rfl (EQ.skip rfl rfl rfl rfl (EQ.skip rfl rfl rfl rfl (EQ.skip rfl rfl rfl rfl (EQ.skip rfl rfl rfl rfl (EQ.skip rfl rfl rfl rfl (EQ.skip rfl rfl rfl rfl (EQ.skip rfl rfl rfl rfl (EQ.skip rfl rfl rfl rfl (EQ.skip rfl rfl rfl rfl ?_)))))))));refine EQ.skip rfl rfl rfl rfl (EQ.skip rfl rfl rfl rfl ?_);refine EQ.valg rfl rfl (fun _ hw => (x_pick_f rfl rfl)) rfl ?_
     refine EQ.val (fun _ hw => (x_pick_f rfl rfl)) rfl ?_
     refine EQ.val (fun _ hw => (x_assign rfl)) rfl ?_
     refine EQ.fin (fun w6 hw_ => ?_)
     replace hbw := bo_ hbw hw_;clear hw_;refine EX.seq (EC.ret (EX.blk_ret (EX.seq_ret (EX.seq_ret (EX.blk_ret (EX.seq_ret ?_))))))
     exact EX.done (res1 rfl rfl) ⟨by rw [less_ne hle hlt hlb hq, decide_eq_false h1, decide_eq_false h2] <;> rfl, hbw⟩
 ·
  obtain rfl : i = a.length := by omega
  refine EC.seq (EC.seq (EC.region (EL.mv rfl rfl (EL.mv rfl rfl (EL.val (ln_65 rfl) rfl ?_)))));refine EL.val (x_lss rfl rfl (decide_eq_false (show ¬(((a.length : Nat) : Int) < ((a.length : Nat) : Int)) by omega))) rfl ?_
  refine EL.nil (EX.seq (EC.no rfl (EC.exit (EX.seq_exit (EX.seq_exit (EX.blk_here (EX.seq (EC.seq (EC.region ?_)))))))));refine EL.as rfl rfl (EL.nil (EX.seq (EC.ret ?_)))
  exact EX.done (res1 rfl rfl) ⟨by rw [hle, List.drop_length]; unfold lessP; rfl, hbw⟩
theorem mono_rd2 {i z n : Nat} {xs : List Value} : Mono fun r w => ∃ v, r i = v ∧ Rd w w.heap.size z v n xs := fun _ _ _ hb ⟨v, h1, h2⟩ => ⟨v, h1, (h2.below hb).more hb.size⟩
theorem tupA4 {a b c d e f_ g k : Value} (h : Value.tuple #[a, b, e, g] = .tuple #[c, d, f_, k]) : a = c ∧ b = d := by
 injection h with h
 have h := congrArg Array.toList h
 simp at h
 exact ⟨h.1, h.2.1⟩
theorem own_capV {W : World} {base e n c : Nat} {A : Option Addr} {xs : List Value} (h : W.ownsRow base e 1 (.slice A n c) n xs) : n ≤ c := by
 obtain ⟨A', c', e, h⟩ := (Rd.of_own h).shape
 injection e with _ _ e
 omega
theorem rd_takeW {w : World} {B b o n c k : Nat} {js : List Int} (h : Rd w B 1 (.slice (some ⟨b, o, none⟩) n c) n (ints js)) (hk : k ≤ n) : Rd w B 1 (.slice (some ⟨b, o, none⟩) k c) k (ints (js.take k)) := by
 have e : ints (js.take k) = (ints js).take k := by unfold ints; rw [List.map_take]
 rw [e];obtain ⟨hl, A, c', e, hc, hr⟩ := h
 injection e with e1 _ e3
 subst e1;subst e3;refine ⟨by rw [List.length_take]; omega, _, _, rfl, by omega, fun h0 => ?_⟩
 obtain ⟨b', o', e, hb, hcell⟩ := hr (by omega)
 refine ⟨b', o', e, hb, fun j u hu => hcell j u ?_⟩
 rw [List.getElem?_take] at hu
 split at hu
 ·exact hu
 ·cases hu
theorem rdLL_one {w : World} {B b n c : Nat} {tt : List (List Ev)} {us : List Value} {l : List Ev} (h : RdLL evC 2 w B (.slice (some ⟨b, 0, none⟩) n c) tt us) (h0 : 0 < tt.length) (hl : tt.getD 0 [] = l) : RdLL evC 2 w B (.slice (some ⟨b, 0, none⟩) 1 c) [l] [us.getD 0 undef] := by
 refine ⟨rfl, ?_, fun i hi => ?_⟩
 ·obtain ⟨hl2, A, c', e, hc, hr⟩ := h.rd
  injection e with e1 e2 e3
  subst e1;subst e3;refine ⟨rfl, _, _, rfl, by simp; omega, fun _ => ?_⟩
  obtain ⟨b', o', e, hb, hcell⟩ := hr (by omega)
  refine ⟨b', o', e, hb, fun j u hu => hcell j u ?_⟩
  obtain rfl : j = 0 := by
   have := (List.getElem?_eq_some_iff.1 hu).1
   simpa using this
  have hu' : us.getD 0 undef = u := by simpa using hu
  rw [← hu', List.getElem?_eq_getElem (by rw [h.len]; exact h0), getD_in (by rw [h.len]; exact h0)]
 ·obtain rfl : i = 0 := by simpa using hi
  have := h.row 0 h0;rw [hl] at this
  exact this
theorem one_htn {l : List Ev} (h : l.length ≤ 30) : ∀ i, i < [l].length → ([l].getD i []).length ≤ 1048576 := fun i hi => by
 obtain rfl : i = 0 := by simpa using hi
 show l.length ≤ _
 omega
theorem numK_y {k : Int} (h : 0 ≤ k) : numK k = 1 := if_neg (by omega)
theorem numK_n {k : Int} (h : ¬0 ≤ k) : numK k = 0 := if_pos (by omega)
theorem wsOf_len (t : List St) : (wsOf t).length = t.length := List.length_map ..
theorem wsOf_at {t : List St} {i : Nat} (h : i < t.length) : (wsOf t).getD i 0 = (t.getD i st0).wash := map_getD h
/-- the steps that are tried -/
def sxOf (n K : Nat) (ys : List (Int × Int)) (i : Nat) : Stp := if i < ys.length then ⟨(ys.getD i (0, 0)).1.tmod (n : Nat), (ys.getD i (0, 0)).2.tmod ((K : Nat) + 1 : Int) - 1⟩ else ⟨0, -1⟩
theorem sx_yes {n K : Nat} {ys : List (Int × Int)} {i : Nat} (h : i < ys.length) : sxOf n K ys i = ⟨(ys.getD i (0, 0)).1.tmod (n : Nat), (ys.getD i (0, 0)).2.tmod ((K : Nat) + 1 : Int) - 1⟩ := if_pos h
theorem sx_no {n K : Nat} {ys : List (Int × Int)} {i : Nat} (h : ¬i < ys.length) : sxOf n K ys i = ⟨0, -1⟩ := if_neg h
def sxL (n K : Nat) (ys : List (Int × Int)) (i : Nat) : List Stp := (List.range i).map (sxOf n K ys)
theorem sxL_len {n K : Nat} {ys : List (Int × Int)} {i : Nat} : (sxL n K ys i).length = i := by simp [sxL]
theorem sxL_succ {n K : Nat} {ys : List (Int × Int)} {i : Nat} : stpsC (sxL n K ys (i + 1)) = stpsC (sxL n K ys i) ++ [.int .i64 (sxOf n K ys i).tank, .int .i64 (sxOf n K ys i).wash] := by
 unfold sxL stpsC
 rw [List.range_succ, List.map_append, List.flatMap_append]
 simp [stpC]
theorem sx_all {ru : Rules} {n : Nat} {ys : List (Int × Int)} {m : Nat} (hn : 0 < n) (hy : ∀ p ∈ ys, byte p.1 ∧ byte p.2) : (sxL n ru.kinds.length ys m).all (stB ru n) = true := by
 unfold sxL
 rw [List.all_map, List.all_eq_true];intro i _
 show stB ru n (sxOf n ru.kinds.length ys i) = true
 unfold stB
 rw [Bool.and_eq_true, inB_iff, inB_iff]
 by_cases h : i < ys.length
 ·rw [sx_yes h]
  obtain ⟨h1, h2⟩ := hy _ (getD_mem h (0, 0));have h3 := byte_rem h1 (m := ((n : Nat) : Int)) (by omega)
  have h4 := byte_rem h2 (m := ((ru.kinds.length : Nat) + 1 : Int)) (by omega)
  simp only
  omega
 ·rw [sx_no h]
  simp only
  omega
def FleetW (ru : Rules) (T : List (List Ev)) (js : List Int) (st : List St) (co : Int) : Prop := (codeF ru T js = 0 → FleetOk ru T js st co) ∧ (codeF ru T js ≠ 0 → st = [] ∧ co = 0)
def PlanB (ru : Rules) (l : List Ev) (js ws : List Int) (co : Int) : Prop := (codeS ru l js = 0 → ∃ p, IsBest (compl (extY (yardOf ru 1)) (js.map Int.toNat) (st3 ru l, pl0)) p ∧ ws = p.steps.map (·.wash) ∧ co = p.cost) ∧ (codeS ru l js ≠ 0 → ws = [] ∧ co = 0)
theorem plan_small {ru : Rules} {l : List Ev} {js ws : List Int} {co : Int} (h : PlanB ru l js ws co) (hj : js.length ≤ 8) : ws.length ≤ 8 := by
 by_cases hc : codeS ru l js = 0
 ·obtain ⟨p, hp, h1, _⟩ := h.1 hc
  have h2 := runW_len (plan_ok hp).run;rw [← h1, List.length_map] at h2
  omega
 ·rw [(h.2 hc).1]
  simp
theorem same_one {ru : Rules} {l : List Ev} {js ws : List Int} {q : List St} {a b : Int} (hf : FleetW ru [l] js q a) (hp : PlanB ru l js ws b) (hc : codeF ru [l] js = codeS ru l js) : a = b ∧ q.length = ws.length ∧ (∀ i, i < q.length → (((q.getD i st0).tank : Nat) : Int) = 0 ∧ (q.getD i st0).wash = ws.getD i 0) ∧ True := by
 by_cases h0 : codeS ru l js = 0
 ·have h1 := hf.1 (hc.trans h0)
  obtain ⟨p, h2, h3, h4⟩ := hp.1 h0;obtain ⟨h5, h6⟩ := one_same h1 h2;refine ⟨by rw [h6, h4], by rw [h5, h3, List.length_map], fun i hi => ⟨?_, ?_⟩, trivial⟩
  ·have := (runF_steps h1.run _ (getD_mem hi st0)).1
   have e : [l].length = 1 := rfl
   omega
  ·rw [h3, ← h5]
   exact (wsOf_at hi).symm
 ·have h1 := hf.2 (fun h => h0 (hc.symm.trans h))
  have h2 := hp.2 h0;rw [h1.1, h1.2, h2.1, h2.2]
  exact ⟨rfl, rfl, fun i hi => absurd hi (by simp), trivial⟩
theorem Fleet_to {ru : Rules} {ua up : List Value} {vl va vp vk : Value} {w : World} {B : Nat} (hr : RdRules w B vl va vp vk ru ua up) (hB : B ≤ w.heap.size) (hs : Short ru) {T : List (List Ev)} {vt : Value} {ut : List Value} (ht : RdLL evC 2 w B vt T ut) (htn : ∀ i, i < T.length → (T.getD i []).length ≤ 1048576) (htl : T.length ≤ 1048576) {js : List Int} {vj : Value} (hv : Rd w B 1 vj js.length (ints js)) (hj : js.length ≤ 10) :
  Calls Try.prog 38 #[rulesV vl va vp vk ru, vt, vj] w fun e w' => (∃ (A : Option Addr) (c : Nat) (ws : List St) (co : Int), e = .returned (.tuple #[.slice A ws.length c, .int .i64 co, .int .i64 ((atF ru T js) : Nat), .int .i64 (codeF ru T js)]) ∧ w'.ownsRow w.heap.size 70 2 (.slice A ws.length c) ws.length (stsC ws) ∧ FleetW ru T js ws co) ∧ Below w.heap.size w w' := (Fleet_any hr hB hs ht htn (by omega) hv (by omega)).mono fun e w' ⟨⟨u, st, co, h1, h2, h3, h4⟩, hb⟩ => by
 obtain ⟨A, c, rfl, _⟩ := (Rd.of_own h2).shape;refine ⟨⟨A, c, st, co, h1, h2, fun hc => ?_, h4⟩, hb⟩
 obtain ⟨p, hp, rfl, rfl⟩ := h3 hc
 exact fleet_ok hp
theorem Planb_to {ru : Rules} {ua up : List Value} {vl va vp vk : Value} {w : World} {B : Nat} (hr : RdRules w B vl va vp vk ru ua up) (hB : B ≤ w.heap.size) (hs : Short ru) {l : List Ev} {v : Value} (hl : Rd w B 2 v l.length (evsC l)) (hn : l.length ≤ 1048576) {js : List Int} {vj : Value} (hv : Rd w B 1 vj js.length (ints js)) (hj : js.length ≤ 10) :
  Calls Try.prog 24 #[rulesV vl va vp vk ru, v, vj] w fun e w' => (∃ (A : Option Addr) (c : Nat) (ws : List Int) (co : Int), e = .returned (.tuple #[.slice A ws.length c, .int .i64 co, .int .i64 ((atS ru l js) : Nat), .int .i64 (codeS ru l js)]) ∧ w'.ownsRow w.heap.size 3 1 (.slice A ws.length c) ws.length (ints ws) ∧ PlanB ru l js ws co) ∧ Below w.heap.size w w' := (Plan_any hr hB hs hl hn hv (by omega)).mono fun e w' ⟨⟨u, ws, co, h1, h2, h3, h4⟩, hb⟩ => by
 obtain ⟨A, c, rfl, _⟩ := (Rd.of_own h2).shape
 exact ⟨⟨A, c, ws, co, h1, h2, h3, h4⟩, hb⟩
theorem VerX_to {ru : Rules} {ua up : List Value} {vl va vp vk : Value} {w : World} {B : Nat} (hr : RdRules w B vl va vp vk ru ua up) (hB : B ≤ w.heap.size) (hs : Short ru) {T : List (List Ev)} {vt : Value} {ut : List Value} (ht : RdLL evC 2 w B vt T ut) (htn : ∀ i, i < T.length → (T.getD i []).length ≤ 1048576) (htl : T.length ≤ 1048576) {js : List Int} {vj : Value} (hv : Rd w B 1 vj js.length (ints js)) (hj : js.length ≤ 10) (hy : yardE ru T js = 0) {xs : List Stp} (hl : xs.length = js.length) (hx : xs.all (stB ru T.length) = true) {vst : Value} (hst : Rd w B 2 vst xs.length (stpsC xs)) :
  Calls Try.prog 40 #[rulesV vl va vp vk ru, vt, vj, vst] w fun e w' => e = .returned (.tuple #[.int .i64 (verT ru T js xs).1, .int .i64 (verT ru T js xs).2.1, .int .i64 (verT ru T js xs).2.2, .int .i64 0]) ∧ Below w.heap.size w w' := (Verify_any hr hB hs ht htn (by omega) hv (by omega) hst (by omega)).mono fun e w' ⟨h1, hb⟩ => by
 rw [(verE_ok hy hl hx).1] at h1
 exact ⟨h1, hb⟩
theorem less_no {a b : List Stp} {va vb : Value} {w : World} {B : Nat} (h : lessP a b = false) (hra : Rd w B 2 va a.length (stpsC a)) (hrb : Rd w B 2 vb b.length (stpsC b)) (hB : B ≤ w.heap.size) (hl : a.length = b.length) (hn : a.length ≤ 1048576) :
  Calls Try.prog 44 #[va, vb] w fun e w' => e = .returned (.bool false) ∧ Below w.heap.size w w' := (lessP_any hra hrb hB hl hn).mono fun e w' ⟨h1, hb⟩ => by
 rw [h] at h1
 exact ⟨h1, hb⟩
theorem ownSr_less {W : World} {b b' : Nat} {vl va vp vk : Value} {ru : Rules} (h : OwnSr W b vl va vp vk ru) (hb : b' ≤ b) : OwnSr W b' vl va vp vk ru := by
 obtain ⟨x, v, i, hx, hF, hO, h1, h2, h3, h4⟩ := h
 exact ⟨x, v, i, hx, ⟨fun j hj => own_less (hF.own j hj) hb, hF.apart⟩, own_less hO hb, h1, h2, h3, h4⟩
theorem ownLE_box {W W' : World} {base g T : Nat} {cs : Array Value} {v : Value} {ls : List (List Ev)} {us : List Value} (h : OwnLE W base v ls us) (hq : Blk W g T cs) (h1 : Nat.beq T 29 = false) (h2 : Nat.beq T 50 = false) (hg : W.grownBy W' (some g)) : OwnLE W' base v ls us := ⟨h.len, own_type h.own hq h1 hg, fun i hi => own_type (h.rows i hi) hq h2 hg⟩
theorem own_blk1 {W : World} {g base T : Nat} {v : Value} (h : Blk W g T #[v]) (hb : base ≤ g) : W.ownsRow base T 1 (.slice (some ⟨g, 0, none⟩) 1 1) 1 [v] := ⟨by simp, .inr ⟨g, 1, #[v], rfl, hb, h, Nat.le_refl _, by unfold maxLen; omega, by simp, by simp⟩⟩
theorem ownLE_one {W : World} {g base : Nat} {v : Value} {l : List Ev} (h : Blk W g 29 #[v]) (hb : base ≤ g) (ho : W.ownsRow base 50 2 v l.length (evsC l)) : OwnLE W base (.slice (some ⟨g, 0, none⟩) 1 1) [l] [v] := ⟨rfl, own_blk1 h hb, fun i hi => by
 obtain rfl : i = 0 := by simpa using hi
 exact ho⟩
def tanksL (K : Nat) (l : List Ev) (oth : Nat → List (Int × Int)) (n : Nat) : List (List Ev) := l :: (List.range n).map fun i => smHist K (oth i)
theorem tanksL_len {K : Nat} {l : List Ev} {oth : Nat → List (Int × Int)} {n : Nat} : (tanksL K l oth n).length = n + 1 := by simp [tanksL]
theorem tanksL_succ {K : Nat} {l : List Ev} {oth : Nat → List (Int × Int)} {n : Nat} : tanksL K l oth (n + 1) = tanksL K l oth n ++ [smHist K (oth n)] := by simp [tanksL, List.range_succ]
theorem two_at (vo : Nat → Value) {i : Nat} (h : i < 2) : ([vo 0, vo 1] : List Value)[0 + i]? = some (vo i) := by
 match i, h with
 | 0, _ => rfl
 | 1, _ => rfl
theorem spl_smE {b : Nat → Int} {vk ve vn : Value} : spl (smC b vk ve) 39 [vn] = smC b vk vn := by
 rw [spl_one _ _ _ (by rw [smC_len]; omega)]
 unfold smC
 rw [List.set_append_right _ _ (by simp)]
 simp
theorem sm_oth {x : Sml} (hok : SmlOk x) {e : List (Int × Int)} (he : ∀ p ∈ e, byte p.1 ∧ byte p.2) : refE (smRules x) (smHist (smRules x).kinds.length e) = 0 ∧ (smHist (smRules x).kinds.length e).length ≤ 30 := by
 have hok2 : SmlOk ⟨x.b, x.kinds, e⟩ := ⟨hok.b, hok.k, he⟩
 exact ⟨sm_ref hok2, (sm_hist hok2).1⟩
theorem tanks_ok {ru : Rules} {l : List Ev} {oth : Nat → List (Int × Int)} {n : Nat} {tt : List (List Ev)} (hz : refE ru l = 0) (hl : l.length ≤ 30) (ho : ∀ i, i < 2 → refE ru (smHist ru.kinds.length (oth i)) = 0 ∧ (smHist ru.kinds.length (oth i)).length ≤ 30) {k : Nat} (hk : k < (tanksL ru.kinds.length l oth (1 + n)).length) (he : tanksL ru.kinds.length l oth (1 + n) = tt) (hn : n < 2 := by omega) : refE ru (tt.getD k []) = 0 ∧ (tt.getD k []).length ≤ 30 := by
 subst he;rw [tanksL_len] at hk
 unfold tanksL
 cases k with
 | zero => exact ⟨hz, hl⟩
 | succ k =>
  have e : (l :: (List.range (1 + n)).map fun i => smHist ru.kinds.length (oth i)).getD (k + 1) [] = smHist ru.kinds.length (oth k) := by
   simp [show k < 1 + n by omega]
  rw [e]
  exact ho k (by omega)
set_option maxRecDepth 100000 in
set_option maxHeartbeats 4000000 in
theorem fewest_law {x : Sml} (hok : SmlOk x) {vks ves vtd vys : Value} {w : World} {B : Nat} (hkr : Rd w B 3 vks x.kinds.length (k3s x.kinds)) (her : Rd w B 2 ves x.events.length (e2s x.events)) (hB : B ≤ w.heap.size) {oth : Nat → List (Int × Int)} {vo : Nat → Value} (hor : ∀ i, i < 2 → Rd w B 2 (vo i) (oth i).length (e2s (oth i)) ∧ ∀ p ∈ oth i, byte p.1 ∧ byte p.2) {ta : Int} (hta : byte ta) {td : List Int} (htr : Rd w B 1 vtd td.length (u8s td)) (htb : ∀ i, i < td.length → byte (td.getD i 0)) {ys : List (Int × Int)} (hyr : Rd w B 2 vys ys.length (e2s ys)) (hyb : ∀ p ∈ ys, byte p.1 ∧ byte p.2) :
  Calls Try.prog 9 #[.agg (smC x.b vks ves).toArray, .agg #[vo 0, vo 1], .agg #[.int .u8 ta, vtd, vys]] w fun e w' => e = .returned (.bool true) ∧ Below w.heap.size w w' := by
 obtain ⟨Atd, ctd, rfl, _⟩ := htr.shape;obtain ⟨Ay, cy, rfl, _⟩ := hyr.shape;obtain ⟨A0_, c0_, hv0, _⟩ := (hor 0 (by omega)).1.shape
 obtain ⟨A1_, c1_, hv1, _⟩ := (hor 1 (by omega)).1.shape
 have hbw := Below.refl w.heap.size w;refine EC.enter 364 Try.func9 rfl rfl rfl (EC.seq (EC.region (EL.newP (x_boxA rfl) rfl ?_)));intro g1 w1 q1 hb1 hg1 hl1;have bhbw_1 := Nat.le_trans hbw.size hg1;replace hbw := bo_ hbw hb1;clear hb1 hg1 hl1;refine EL.newP (bx_110 rfl) rfl ?_;intro g2 w2 q2 hb2 hg2 hl2;have n1_2 := q1.na hg2;have bhbw_2 := Nat.le_trans hbw.size hg2;replace q1 := q1.bl hb2;replace hbw := bo_ hbw hb2;clear hb2 hg2 hl2;refine EL.newP (bx_112 rfl) rfl ?_;intro g3 w3 q3 hb3 hg3 hl3;have n1_3 := q1.na hg3;have n2_3 := q2.na hg3;have bhbw_3 := Nat.le_trans hbw.size hg3;replace q1 := q1.bl hb3;replace q2 := q2.bl hb3;replace hbw := bo_ hbw hb3;clear hb3 hg3 hl3;refine EL.as rfl rfl (EL.nil (EX.seq (EC.seq (EC.region (EL.val (x_loadA rfl (q1.range (PartAt.whole _)) Try.underlying78 rfl (sz_78.trans (congrArg some (smC_len _ _ _).symm))) rfl (EL.call (cA1 cF29 rfl) rfl (smRules2_any hok (hkr.below (hbw.mono hB)) (Nat.le_trans hB hbw.size)) ?_))))))
 rintro e w4 ⟨⟨vl, va, vp, vk, rfl, hO⟩, hc4⟩
 refine ⟨_, rfl, ?_⟩;have hO0 := hbw.size;replace q1 := q1.bl hc4;replace q2 := q2.bl hc4;replace q3 := q3.bl hc4;replace hbw := bo_ hbw hc4;clear hc4;replace hO := ownSr_less hO hO0;obtain ⟨ru, hru⟩ : ∃ ru, ru = smRules x := ⟨_, rfl⟩;have hrb := sm_rules hok;have hs := sm_short hok;have h4 : (smRules x).levels.length = 4 := rfl;have hhl := sm_hist hok;have hz := sm_ref hok;have hzo := fun i (hi : i < 2) => sm_oth hok (hor i hi).2
 rw [← hru] at hO hrb hs h4 hhl hz hzo ⊢;clear hru;have hro := rules_ok hrb;obtain ⟨ua0, up0, hR0⟩ := hO.rd;obtain ⟨Al, cl, rfl, _⟩ := hR0.levels.shape;obtain ⟨Aa, ca, rfl, _⟩ := hR0.allow.rd.shape;obtain ⟨Ap, cp, rfl, _⟩ := hR0.apart.rd.shape;obtain ⟨Ak, ck, rfl, _⟩ := hR0.kinds.shape;clear hR0
 unfold rulesV
 obtain ⟨l, hle⟩ : ∃ l, l = smHist ru.kinds.length x.events := ⟨_, rfl⟩;rw [← hle] at hhl hz;obtain ⟨js, hje⟩ : ∃ js, js = jobsL td 4 := ⟨_, rfl⟩;have hj0 := sm_jobs (m := 4) h4 htb (by omega)
 rw [← hje] at hj0;obtain ⟨hj4, hjE⟩ := hj0;obtain ⟨hl30, hlv⟩ := hhl;have hk4 := hro.k4;refine EL.newP al_28 rfl ?_;intro g5 w5 q5 hb5 hg5 hl5;have n1_5 := q1.na hg5;have n2_5 := q2.na hg5;have n3_5 := q3.na hg5;have bhbw_5 := Nat.le_trans hbw.size hg5;replace q1 := q1.bl hb5;replace q2 := q2.bl hb5;replace q3 := q3.bl hb5;replace hO := hO.below hb5;replace hbw := bo_ hbw hb5;clear hb5 hg5 hl5;refine EL.store rfl rfl q5 sz_28 rfl rfl rfl rfl ?_;intro w6 hq6 hg6;replace q1 := q1.gr hg6 n1_5;replace q2 := q2.gr hg6 n2_5;replace q3 := q3.gr hg6 n3_5;replace hO := hO.box q5 rfl rfl rfl hg6;replace hbw := below_store hbw hg6 bhbw_5;replace q5 := hq6;clear hg6 hq6;refine EL.nil (EX.seq (EC.seq ?_));have lt_1 := q1.lt;have lt_2 := q2.lt;have lt_3 := q3.lt;have lt_5 := q5.lt;refine EC.regionP [[], [], [0, 1], [0, 1, 2], [], [4], [0, 1, 2, 4, 5], [0, 1, 2, 3, 4, 5, 6], [0, 1, 2, 3, 4, 5, 6, 7]] 9 [] (phi (fun i_ r => match i_ with | 0 => r 0 = .agg (smC x.b vks ves).toArray | 1 => r 1 = .agg #[.slice Al ru.levels.length cl, .int .i64 ru.fade.lo, .int .i64 ru.fade.hi, .slice Aa ru.allow.length ca, .slice Ap ru.apart.length cp, .slice Ak ru.kinds.length ck] | 4 => r 4 = .pointer (some ⟨g3, 1, none⟩) | 5 => r 5 = .slice Atd td.length ctd | _ => True) [(2, fun r w_ => ∃ A c, r 2 = .slice A l.length c ∧ w_.ownsRow w.heap.size 50 2 (.slice A l.length c) l.length (evsC l)), (3, fun r w_ => ∃ (g : Nat) (A : Option Addr) (c : Nat), r 3 = .slice (some ⟨g, 0, none⟩) 1 1 ∧ OwnLE w_ w.heap.size (.slice (some ⟨g, 0, none⟩) 1 1) [l] [.slice A l.length c]), (6, fun r w_ => ∃ A c, r 6 = .slice A js.length c ∧ w_.ownsRow w.heap.size 3 1 (.slice A js.length c) js.length (ints js)), (7, fun r w_ => ∃ g : Nat, r 3 = .slice (some ⟨g, 0, none⟩) 1 1 ∧ r 7 = .slice (some ⟨g, 0, none⟩) 1 1), (8, fun r w_ => ∃ (A : Option Addr) (c : Nat), r 6 = .slice A js.length c ∧ r 8 = .slice A js.length c)]) (by kernel_rfl) rfl rfl (phi_cons (fun _ _ _ hb ⟨A, c, h1, h2⟩ => ⟨A, c, h1, own_below h2 hb (Nat.le_refl _)⟩) (phi_cons (fun _ _ _ hb ⟨g, A, c, h1, h2⟩ => ⟨g, A, c, h1, h2.below hb⟩) (phi_cons (fun _ _ _ hb ⟨A, c, h1, h2⟩ => ⟨A, c, h1, own_below h2 hb (Nat.le_refl _)⟩) (phi_cons (fun _ _ _ _ h => h) (phi_cons (fun _ _ _ _ h => h) (phi_nil)))))) (fun i_ hi_ => ?_) ?_
 ·match i_, hi_ with
  | 0, _ =>
   intro val w1 a hb ha hd;have ha := ha.s0 (d := 3) rfl
   exact hs_val ha rfl rfl (x_loadA rfl ((q1.below hb q1.lt).range (PartAt.whole _)) Try.underlying78 rfl (sz_78.trans (congrArg some (smC_len _ _ _).symm))) rfl rfl
  | 1, _ =>
   intro val w1 a hb ha hd;have ha := ha.s0 (d := 7) rfl
   exact hs_val ha rfl rfl (ld_28 rfl ((q5.below hb q5.lt).at (j := 0) rfl) ((q5.below hb q5.lt).at (j := 1) rfl) ((q5.below hb q5.lt).at (j := 2) rfl) ((q5.below hb q5.lt).at (j := 3) rfl) ((q5.below hb q5.lt).at (j := 4) rfl) ((q5.below hb q5.lt).at (j := 5) rfl)) rfl rfl
  | 2, _ =>
   intro val w1 a hb ha hd;have e0 : val 0 = _ := hd 0 (memB_mem.1 rfl);have e1 : val 1 = _ := hd 1 (memB_mem.1 rfl);have ha := ha.s2 (d := 43) (e := 42) rfl e1 rfl e0;refine hs_call ha rfl rfl (cA2 cF30 rfl rfl) (history_any hok (her.below ((hbw.trans (hb.mono hbw.size)).mono hB)) (Nat.le_trans hB (Nat.le_trans hbw.size hb.size)) (by omega)) rfl ?_
   rintro e w' ⟨⟨v', rfl, ho⟩, hb'⟩
   rw [← hle] at ho;obtain ⟨A, c9, rfl, _⟩ := (Rd.of_own ho).shape
   exact ⟨_, rfl, hb', ⟨A, c9, rfl, own_less ho (Nat.le_trans hbw.size hb.size)⟩⟩
  | 3, _ =>
   intro val w1 a hb ha hd;obtain ⟨A2h, c2h, e2, ho2h⟩ := hd 2 (memB_mem.1 rfl);have ha := ha.s1 (d := 44) rfl e2;change val 2 = _ at e2
   exact hs_newS ha rfl rfl (bs_96_1 rfl) rfl (fun g w' hq hb' hge => ⟨g, A2h, c2h, rfl, ownLE_one hq (Nat.le_trans (Nat.le_trans hbw.size hb.size) hge) (own_below ho2h hb' (Nat.le_refl _))⟩)
  | 4, _ =>
   intro val w1 a hb ha hd;have ha := ha.s0 (d := 5) rfl
   exact hs_val ha rfl rfl (fa_112_1 rfl) rfl rfl
  | 5, _ =>
   intro val w1 a hb ha hd;have e4 : val 4 = _ := hd 4 (memB_mem.1 rfl);have ha := ha.s1 (d := 46) rfl e4
   exact hs_val ha rfl rfl (ld_79 rfl ((q3.below hb q3.lt).at (j := 1) rfl)) rfl rfl
  | 6, _ =>
   intro val w1 a hb ha hd;have e5 : val 5 = _ := hd 5 (memB_mem.1 rfl);have ha := ha.s1 (d := 47) rfl e5;refine hs_call ha rfl rfl (cA2 cF31 rfl rfl) (jobs_any (htr.below ((hbw.trans (hb.mono hbw.size)).mono hB)) (Nat.le_trans hB (Nat.le_trans hbw.size hb.size)) htb 4 (by omega)) rfl ?_
   rintro e w' ⟨⟨v', rfl, ho⟩, hb'⟩
   rw [← hje] at ho;obtain ⟨A, c9, rfl, _⟩ := (Rd.of_own ho).shape
   exact ⟨_, rfl, hb', ⟨A, c9, rfl, own_less ho (Nat.le_trans hbw.size hb.size)⟩⟩
  | 7, _ =>
   intro val w1 a hb ha hd;obtain ⟨gt, At0, ct0, e3, hL⟩ := hd 3 (memB_mem.1 rfl);have ha := ha.s1 (d := 45) rfl e3
   exact hs_val ha rfl rfl (x_assign rfl) ⟨_, e3, rfl⟩ rfl
  | 8, _ =>
   intro val w1 a hb ha hd;obtain ⟨Aj, cj, e6, hjs⟩ := hd 6 (memB_mem.1 rfl);have ha := ha.s1 (d := 48) rfl e6
   exact hs_val ha rfl rfl (x_assign rfl) ⟨_, _, e6, rfl⟩ rfl
  | k + 9, h => exact absurd h (by omega)
 ·intro val wR2 hb halc hd
  have e0 : val 0 = _ := hd 0 (by omega)
  have e1 : val 1 = _ := hd 1 (by omega)
  obtain ⟨A2h, c2h, e2, ho2h⟩ := hd 2 (by omega)
  obtain ⟨gt, At0, ct0, e3, hL⟩ := hd 3 (by omega)
  have e4 : val 4 = _ := hd 4 (by omega)
  have e5 : val 5 = _ := hd 5 (by omega)
  obtain ⟨Aj, cj, e6, hjs⟩ := hd 6 (by omega)
  obtain ⟨g7_, x7_, e7⟩ := hd 7 (by omega)
  obtain ⟨A8_, c8_, x8_, e8⟩ := hd 8 (by omega)
  have y7_ := e3.symm.trans x7_;rw [← y7_] at e7;have y8_ := e6.symm.trans x8_;rw [← y8_] at e8;refine EL.ends (cs := [_, _, _, _, _, _, _, _, _]) ⟨e0, e1, e2, e3, e4, e5, e6, e7, e8, trivial⟩ rfl ?_;replace q1 := q1.bl hb;replace q2 := q2.bl hb;replace q3 := q3.bl hb;replace q5 := q5.bl hb;replace hO := hO.below hb;replace hbw := bo_ hbw hb;clear hb;clear ho2h;refine EL.nil (EX.seq (EC.seq (EC.seq (EC.region (EL.as rfl rfl (EL.nil (EX.seq (EC.block ?_))))))));obtain ⟨nt, hnt, hnt2⟩ : ∃ n : Nat, ta.tmod 2 = ((n : Nat) : Int) ∧ n < 2 := ⟨(ta.tmod 2).toNat, by have := byte_rem hta (m := 2) (by omega); omega, by have := byte_rem hta (m := 2) (by omega); omega⟩
  refine EC.loopD [8, 10, 49, 50, 51, 52, 53, 54, 55, 56, 57, 58, 59, 60, 61, 62, 63, 64, 65, 66, 67] (fun x_ : Nat × Value × List Value × Value => [(8, x_.2.1), (10, .int .i64 (x_.1 : Nat))]) (fun x_ W => x_.1 ≤ 1 + nt ∧ OwnLE W w.heap.size x_.2.1 (tanksL ru.kinds.length l oth x_.1) x_.2.2.1 ∧ Blk W g1 78 (smC x.b vks x_.2.2.2).toArray ∧ Blk W g2 110 #[vo 0, vo 1] ∧ Blk W g3 112 #[.int .u8 ta, .slice Atd td.length ctd, .slice Ay ys.length cy] ∧ Blk W g5 28 #[.slice Al ru.levels.length cl, .int .i64 ru.fade.lo, .int .i64 ru.fade.hi, .slice Aa ru.allow.length ca, .slice Ap ru.apart.length cp, .slice Ak ru.kinds.length ck] ∧ (OwnSr W w.heap.size (.slice Al ru.levels.length cl) (.slice Aa ru.allow.length ca) (.slice Ap ru.apart.length cp) (.slice Ak ru.kinds.length ck) ru) ∧ W.ownsRow w.heap.size 3 1 (.slice Aj js.length cj) js.length (ints js) ∧ Below w.heap.size w W) (fun x_ => 1 + nt - x_.1) (0, .slice (some ⟨gt, 0, none⟩) 1 1, [.slice At0 l.length ct0], ves) ⟨Nat.zero_le _, hL, q1, q2, q3, q5, hO, hjs, hbw⟩ ⟨rfl, rfl, trivial⟩ ?_
  clear hL hO hjs hbw q1 q2 q3 q5
  rintro ⟨i, vt, us, ve⟩ wx ⟨hi, hL, q1, q2, q3, q5, hO, hjs, hbw⟩
  dsimp only at hi hL q1
  by_cases hlt : i < 1 + nt
  ·
   have hi2 : i < 2 := by omega
   refine EC.seq (EC.seq (EC.region (EL.mv rfl rfl (EL.val (fa_112_0 rfl) rfl (EL.val (ld_5 rfl (q3.at (j := 0) rfl)) rfl (EL.val (cv_5_3 rfl (wrap_byte hta)) rfl ?_))))));refine EL.val (x_rem rfl rfl (by decide) hnt) rfl ?_
   refine EL.val (x_add rfl rfl (c := ((1 + nt : Nat) : Int)) ((IntWalk.i64_in _ ⟨by omega, by omega⟩).trans (by omega))) rfl ?_
   refine EL.val (x_lss rfl rfl (decide_eq_true (show (((i : Nat) : Int) < (((1 + nt) : Nat) : Int)) by omega))) rfl ?_
   refine EL.nil (EX.seq (EC.yes rfl (EC.skip (EX.seq (EC.seq (EC.block (EC.seq (EC.region (EL.mv rfl rfl ?_)))))))));refine EL.val (ixa_110 rfl rfl hi2) rfl (EL.val (ld_76 rfl (q2.cellA (two_at vo hi2))) rfl (EL.val (fa_78_5 rfl) rfl ?_));obtain ⟨Ao, co_, heo, _⟩ := (hor i hi2).1.shape;refine EL.store (l' := [vo i]) rfl rfl q1 sz_76 (by rw [heo]; rfl) rfl (by rw [lenV_eq, smC_len]; rfl) (by rw [heo]; rfl) ?_
   intro w7 hq7 hg7;rw [spl_smE] at hq7;replace q2 := q2.gr hg7 n1_2.symm;replace q3 := q3.gr hg7 n1_3.symm;replace q5 := q5.gr hg7 n1_5.symm;replace hO := hO.box q1 rfl rfl rfl hg7;replace hL := ownLE_box hL q1 rfl rfl hg7;replace hjs := own_type hjs q1 rfl hg7;replace hbw := below_store hbw hg7 bhbw_1;replace q1 := hq7;clear hg7 hq7;refine EL.nil (EX.seq (EC.region (EL.mv rfl rfl (EL.val (x_loadA rfl (q1.range (PartAt.whole _)) Try.underlying78 rfl (sz_78.trans (congrArg some (smC_len _ _ _).symm))) rfl (EL.val (ld_28 rfl (q5.at (j := 0) rfl) (q5.at (j := 1) rfl) (q5.at (j := 2) rfl) (q5.at (j := 3) rfl) (q5.at (j := 4) rfl) (q5.at (j := 5) rfl)) rfl ?_)))));refine EL.call (cA2 cF30 rfl rfl) rfl (history_any (x := ⟨x.b, x.kinds, oth i⟩) ⟨hok.b, hok.k, (hor i hi2).2⟩ ((hor i hi2).1.below (hbw.mono hB)) (Nat.le_trans hB hbw.size) (by omega)) ?_
   rintro e w8 ⟨⟨vh, rfl, hh⟩, hc8⟩
   refine ⟨_, rfl, ?_⟩;replace hh := own_less hh hbw.size
   skip
   replace q1 := q1.bl hc8;replace q2 := q2.bl hc8;replace q3 := q3.bl hc8;replace q5 := q5.bl hc8;replace hO := hO.below hc8;replace hL := hL.below hc8;replace hjs := own_below hjs hc8 (Nat.le_refl _);replace hbw := bo_ hbw hc8;clear hc8;obtain ⟨Ah_, ch_, rfl, _⟩ := (Rd.of_own hh).shape;refine EL.newS (bs_96_1 rfl) rfl ?_;intro g9 w9 q9 hb9 hg9 hl9;have n1_9 := q1.na hg9;have n2_9 := q2.na hg9;have n3_9 := q3.na hg9;have n5_9 := q5.na hg9;have bhbw_9 := Nat.le_trans hbw.size hg9;replace q1 := q1.bl hb9;replace q2 := q2.bl hb9;replace q3 := q3.bl hb9;replace q5 := q5.bl hb9;replace hO := hO.below hb9;replace hL := hL.below hb9;replace hjs := own_below hjs hb9 (Nat.le_refl _);replace hh := own_below hh hb9 (Nat.le_refl _);replace hbw := bo_ hbw hb9;clear hb9 hg9 hl9;refine EL.push rle_elem rfl rfl hL.own (rd_one (l := [.slice Ah_ (smHist ru.kinds.length (oth i)).length ch_]) q9 rfl) (by intro u hu; rw [List.mem_singleton.1 hu]; rfl) (by rw [tanksL_len]; omega) rfl hbw.size rfl ?_
   intro v9 w9 ho9 hgr hb_ hat;have hL9 := hL.push ho9 hgr hh;replace hO := hO.row hL.own rfl rfl rfl hgr;replace hjs := own_grown hjs hL.own rfl hgr;replace q1 := blk_grown q1 hL.own rfl hgr;replace q2 := blk_grown q2 hL.own rfl hgr;replace q3 := blk_grown q3 hL.own rfl hgr;replace q5 := blk_grown q5 hL.own rfl hgr;replace hbw := hbw.trans hb_;clear hL hgr hb_ hat ho9 hh;have hL := hL9;clear hL9;refine EL.as rfl rfl (EL.nil (EX.blk (EX.seq (EC.region (EL.mv rfl rfl ?_)))));refine EL.val (x_add rfl rfl (c := ((i + 1 : Nat) : Int)) ((IntWalk.i64_in _ ⟨by first | omega | (simp only; omega), by first | omega | (simp only; omega)⟩).trans (by first | omega | (simp only; omega)))) rfl ?_
   refine EL.as rfl rfl (EL.nil ?_);refine EX.roundD (i + 1, v9, us ++ [.slice Ah_ (smHist ru.kinds.length (oth i)).length ch_], vo i) ⟨rfl, rfl, trivial⟩ (by repeat first | with_reducible exact .refl _ | refine sp_ rfl ?_ | exact .refl _ | refine sd_ rfl ?_ | refine sn_ ?_) ⟨by simp only; omega, (by simp only; rw [tanksL_succ]; exact hL), q1, q2, q3, q5, hO, hjs, hbw⟩ (by simp only; omega)
  ·
   obtain rfl : i = 1 + nt := by omega
   generalize hTe : (tanksL ru.kinds.length l oth (1 + nt)) = tt at hL
   have hT0 : tt.getD 0 [] = l := by rw [← hTe]; rfl
   have hTl : tt.length = 2 + nt := by rw [← hTe, tanksL_len]; omega
   have hTz := fun k (hk : k < tt.length) => tanks_ok (ru := ru) hz hl30 (fun i hi => hzo i hi) (hTe ▸ hk) hTe
   clear hTe;have hyT := yardT_ok (T := tt) hrb (by omega) (by omega) (fun k hk => (hTz k hk).1) hjE (by omega)
   obtain ⟨ua, up, hR⟩ := hO.rd;have hbo := Below.refl wx.heap.size wx;clear hO;obtain ⟨At, ct, rfl, _⟩ := (Rd.of_own hL.own).shape;refine EC.seq (EC.seq (EC.region (EL.mv rfl rfl (EL.val (fa_112_0 rfl) rfl (EL.val (ld_5 rfl (q3.at (j := 0) rfl)) rfl (EL.val (cv_5_3 rfl (wrap_byte hta)) rfl ?_))))));refine EL.val (x_rem rfl rfl (by decide) hnt) rfl ?_
   refine EL.val (x_add rfl rfl (c := ((1 + nt : Nat) : Int)) ((IntWalk.i64_in _ ⟨by omega, by omega⟩).trans (by omega))) rfl ?_
   refine EL.val (x_lss rfl rfl (decide_eq_false (show ¬((((1 + nt) : Nat) : Int) < (((1 + nt) : Nat) : Int)) by omega))) rfl ?_
   refine EL.nil (EX.seq (EC.no rfl (EC.exit (EX.seq_exit (EX.seq_exit (EX.blk_here (EX.seq (EC.seq ?_))))))));have lt_1 := q1.lt;have lt_2 := q2.lt;have lt_3 := q3.lt;have lt_5 := q5.lt;refine EC.regionP [[], [], [1], [], [1, 2, 3], [0, 1, 2, 3, 4], [0, 1, 2, 3, 4, 5], [0, 1, 2, 3, 4, 5, 6], [0, 1, 2, 3, 4, 5, 6], [0, 1, 2, 3, 4, 5, 6], [0, 1, 2, 3, 4, 5, 6], [0, 1, 2, 3, 4, 5, 6, 7], [0, 1, 2, 3, 4, 5, 6, 7, 8, 11], [0, 1, 2, 3, 4, 5, 6, 7, 8, 9, 11, 12], [0, 1, 2, 3, 4, 5, 6, 7, 8, 9, 10, 11, 12, 13]] 15 [] (phi (fun i_ r => match i_ with | 0 => r 0 = .agg #[.slice Al ru.levels.length cl, .int .i64 ru.fade.lo, .int .i64 ru.fade.hi, .slice Aa ru.allow.length ca, .slice Ap ru.apart.length cp, .slice Ak ru.kinds.length ck] | 1 => r 1 = .slice At tt.length ct | 3 => r 3 = .slice Aj js.length cj | 9 => r 9 = .int .i64 ((atF ru tt js) : Nat) | 10 => r 10 = .int .i64 (codeF ru tt js) | 13 => r 13 = .int .i64 ((atF ru tt js) : Nat) | 14 => r 14 = .int .i64 (codeF ru tt js) | _ => True) [(2, fun r w_ => ∃ v us_, r 2 = v ∧ RdLL evC 2 w_ w_.heap.size v tt us_), (4, fun r w_ => ∃ v, r 4 = v ∧ Rd w_ w_.heap.size 1 v js.length (ints js)), (5, fun r w_ => ∃ (A : Option Addr) (c : Nat) (ws : List St) (co : Int), r 5 = .tuple #[.slice A ws.length c, .int .i64 co, .int .i64 ((atF ru tt js) : Nat), .int .i64 (codeF ru tt js)] ∧ w_.ownsRow 0 70 2 (.slice A ws.length c) ws.length (stsC ws) ∧ FleetW ru tt js ws co), (6, fun r w_ => ∃ (A : Option Addr) (c : Nat) (ws : List St) (co : Int), r 5 = .tuple #[.slice A ws.length c, .int .i64 co, .int .i64 ((atF ru tt js) : Nat), .int .i64 (codeF ru tt js)] ∧ r 6 = .tuple #[.slice A ws.length c, .int .i64 co, .int .i64 ((atF ru tt js) : Nat), .int .i64 (codeF ru tt js)]), (7, fun r w_ => ∃ (A : Option Addr) (c : Nat) (ws : List St) (co : Int), r 5 = .tuple #[.slice A ws.length c, .int .i64 co, .int .i64 ((atF ru tt js) : Nat), .int .i64 (codeF ru tt js)] ∧ r 7 = .slice A ws.length c), (8, fun r w_ => ∃ (A : Option Addr) (c : Nat) (ws : List St) (co : Int), r 5 = .tuple #[.slice A ws.length c, .int .i64 co, .int .i64 ((atF ru tt js) : Nat), .int .i64 (codeF ru tt js)] ∧ r 8 = .int .i64 co), (11, fun r w_ => ∃ (A : Option Addr) (c : Nat) (ws : List St) (co : Int), r 5 = .tuple #[.slice A ws.length c, .int .i64 co, .int .i64 ((atF ru tt js) : Nat), .int .i64 (codeF ru tt js)] ∧ r 11 = .slice A ws.length c), (12, fun r w_ => ∃ (A : Option Addr) (c : Nat) (ws : List St) (co : Int), r 5 = .tuple #[.slice A ws.length c, .int .i64 co, .int .i64 ((atF ru tt js) : Nat), .int .i64 (codeF ru tt js)] ∧ r 12 = .int .i64 co)]) (by kernel_rfl) rfl rfl (phi_cons (fun _ _ _ hb ⟨v, us_, h1, h2⟩ => ⟨v, us_, h1, (h2.below hb).more hb.size⟩) (phi_cons mono_rd2 (phi_cons (fun _ _ _ hb ⟨A, c, ws, co, h1, h2, h3⟩ => ⟨A, c, ws, co, h1, own_below h2 hb (Nat.le_refl _), h3⟩) (phi_cons (fun _ _ _ _ h => h) (phi_cons (fun _ _ _ _ h => h) (phi_cons (fun _ _ _ _ h => h) (phi_cons (fun _ _ _ _ h => h) (phi_cons (fun _ _ _ _ h => h) (phi_nil))))))))) (fun i_ hi_ => ?_) ?_
   ·match i_, hi_ with
    | 0, _ =>
     intro val w1 a hb ha hd;have ha := ha.s0 (d := 7) rfl
     exact hs_val ha rfl rfl (ld_28 rfl ((q5.below hb q5.lt).at (j := 0) rfl) ((q5.below hb q5.lt).at (j := 1) rfl) ((q5.below hb q5.lt).at (j := 2) rfl) ((q5.below hb q5.lt).at (j := 3) rfl) ((q5.below hb q5.lt).at (j := 4) rfl) ((q5.below hb q5.lt).at (j := 5) rfl)) rfl rfl
    | 1, _ =>
     intro val w1 a hb ha hd;have ha := ha.s0 (d := 8) rfl
     exact hs_val ha rfl rfl (x_move rfl) rfl rfl
    | 2, _ =>
     intro val w1 a hb ha hd;have e1 : val 1 = _ := hd 1 (memB_mem.1 rfl);have ha := ha.s1 (d := 70) rfl e1;refine hs_call ha rfl rfl (cA1 cF39 rfl) (all_any ((hL.below hb).rd) (Nat.le_refl _) (by omega) (fun i hi => by have := (hTz i hi).2; omega)) rfl ?_
     rintro e w' ⟨⟨v2, us2, rfl, hJ⟩, hb'⟩
     exact ⟨_, rfl, hb', ⟨v2, us2, rfl, hJ⟩⟩
    | 3, _ =>
     intro val w1 a hb ha hd;have ha := ha.s0 (d := 9) rfl
     exact hs_val ha rfl rfl (x_move rfl) rfl rfl
    | 4, _ =>
     intro val w1 a hb ha hd;have e3 : val 3 = _ := hd 3 (memB_mem.1 rfl);have ha := ha.s1 (d := 72) rfl e3;refine hs_call ha rfl rfl (cA1 cF23 rfl) (numbers_any (Rd.of_own (own_below hjs hb (Nat.le_refl _))) (Nat.le_refl _) (by omega)) rfl ?_
     rintro e w' ⟨⟨v2, rfl, hJ⟩, hb'⟩
     exact ⟨_, rfl, hb', ⟨v2, rfl, Rd.of_own hJ⟩⟩
    | 5, _ =>
     intro val w1 a hb ha hd;have e0 : val 0 = _ := hd 0 (memB_mem.1 rfl);obtain ⟨v2_, us2_, e2, hT2_⟩ := hd 2 (memB_mem.1 rfl);obtain ⟨v4_, e4, hJ4_⟩ := hd 4 (memB_mem.1 rfl);have ha := ha.sub (Sub.ins (d := 73) (Sub.ins (d := 71) (Sub.ins (d := 69) (Sub.nil _) (dep_get rfl e0)) (dep_get rfl e2)) (dep_get rfl e4));refine hs_call ha rfl rfl (cA3 cF38 rfl rfl rfl) (Fleet_to ((hR.below (hbo.trans (hb.mono hbo.size))).more (Nat.le_trans hbo.size hb.size)) (Nat.le_refl _) hs hT2_ (fun i hi => by have := (hTz i hi).2; omega) (by first | omega | (simp; done)) hJ4_ (by omega)) rfl ?_
     rintro e w' ⟨⟨A, c, ws, co, rfl, ho, hf⟩, hb'⟩
     exact ⟨_, rfl, hb', ⟨A, c, ws, co, rfl, own_less ho (Nat.zero_le _), hf⟩⟩
    | 6, _ =>
     intro val w1 a hb ha hd;obtain ⟨Aq, cq, pp, op, e5, hbp, hfp⟩ := hd 5 (memB_mem.1 rfl);have ha := ha.s1 (d := 74) rfl e5
     exact hs_val ha rfl rfl (x_move rfl) ⟨_, _, _, _, e5, rfl⟩ rfl
    | 7, _ =>
     intro val w1 a hb ha hd;obtain ⟨A6_, c6_, u6_, o6_, x6_, e6⟩ := hd 6 (memB_mem.1 rfl);have ha := ha.s1 (d := 68) rfl e6
     exact hs_val ha rfl rfl (x_extract rfl rfl) ⟨_, _, _, _, x6_, rfl⟩ rfl
    | 8, _ =>
     intro val w1 a hb ha hd;obtain ⟨A6_, c6_, u6_, o6_, x6_, e6⟩ := hd 6 (memB_mem.1 rfl);have ha := ha.s1 (d := 68) rfl e6
     exact hs_val ha rfl rfl (x_extract rfl rfl) ⟨_, _, _, _, x6_, rfl⟩ rfl
    | 9, _ =>
     intro val w1 a hb ha hd;obtain ⟨A6_, c6_, u6_, o6_, x6_, e6⟩ := hd 6 (memB_mem.1 rfl);have ha := ha.s1 (d := 68) rfl e6
     exact hs_val ha rfl rfl (x_extract rfl rfl) rfl rfl
    | 10, _ =>
     intro val w1 a hb ha hd;obtain ⟨A6_, c6_, u6_, o6_, x6_, e6⟩ := hd 6 (memB_mem.1 rfl);have ha := ha.s1 (d := 68) rfl e6
     exact hs_val ha rfl rfl (x_extract rfl rfl) rfl rfl
    | 11, _ =>
     intro val w1 a hb ha hd;obtain ⟨A7_, c7_, u7_, o7_, x7_, e7⟩ := hd 7 (memB_mem.1 rfl);have ha := ha.s1 (d := 75) rfl e7
     exact hs_val ha rfl rfl (x_assign rfl) ⟨_, _, _, _, x7_, rfl⟩ rfl
    | 12, _ =>
     intro val w1 a hb ha hd;obtain ⟨A8_, c8_, u8_, o8_, x8_, e8⟩ := hd 8 (memB_mem.1 rfl);have ha := ha.s1 (d := 76) rfl e8
     exact hs_val ha rfl rfl (x_assign rfl) ⟨_, _, _, _, x8_, rfl⟩ rfl
    | 13, _ =>
     intro val w1 a hb ha hd;have e9 : val 9 = _ := hd 9 (memB_mem.1 rfl);have ha := ha.s1 (d := 77) rfl e9
     exact hs_val ha rfl rfl (x_assign rfl) rfl rfl
    | 14, _ =>
     intro val w1 a hb ha hd;have e10 : val 10 = _ := hd 10 (memB_mem.1 rfl);have ha := ha.s1 (d := 78) rfl e10
     exact hs_val ha rfl rfl (x_assign rfl) rfl rfl
    | k + 15, h => exact absurd h (by omega)
   ·intro val wR8 hb halc hd
    have e0 : val 0 = _ := hd 0 (by omega)
    have e1 : val 1 = _ := hd 1 (by omega)
    obtain ⟨v2_, us2_, e2, hT2_⟩ := hd 2 (by omega)
    have e3 : val 3 = _ := hd 3 (by omega)
    obtain ⟨v4_, e4, hJ4_⟩ := hd 4 (by omega)
    obtain ⟨Aq, cq, pp, op, e5, hbp, hfp⟩ := hd 5 (by omega)
    obtain ⟨A6_, c6_, u6_, o6_, x6_, e6⟩ := hd 6 (by omega)
    obtain ⟨A7_, c7_, u7_, o7_, x7_, e7⟩ := hd 7 (by omega)
    obtain ⟨A8_, c8_, u8_, o8_, x8_, e8⟩ := hd 8 (by omega)
    have e9 : val 9 = _ := hd 9 (by omega)
    have e10 : val 10 = _ := hd 10 (by omega)
    obtain ⟨A11_, c11_, u11_, o11_, x11_, e11⟩ := hd 11 (by omega)
    obtain ⟨A12_, c12_, u12_, o12_, x12_, e12⟩ := hd 12 (by omega)
    have e13 : val 13 = _ := hd 13 (by omega)
    have e14 : val 14 = _ := hd 14 (by omega)
    have y6_ := tupA4 (e5.symm.trans x6_);rw [← y6_.1, ← y6_.2] at e6;have y7_ := tupA4 (e5.symm.trans x7_);rw [← y7_.1] at e7;have y8_ := tupA4 (e5.symm.trans x8_);rw [← y8_.2] at e8;have y11_ := tupA4 (e5.symm.trans x11_);rw [← y11_.1] at e11;have y12_ := tupA4 (e5.symm.trans x12_);rw [← y12_.2] at e12;refine EL.ends (cs := [_, _, _, _, _, _, _, _, _, _, _, _, _, _, _]) ⟨e0, e1, e2, e3, e4, e5, e6, e7, e8, e9, e10, e11, e12, e13, e14, trivial⟩ rfl ?_;replace q1 := q1.bl hb;replace q2 := q2.bl hb;replace q3 := q3.bl hb;replace q5 := q5.bl hb;replace hL := hL.below hb;replace hjs := own_below hjs hb (Nat.le_refl _);replace hbw := bo_ hbw hb;replace hbo := bo_ hbo hb;clear hb;clear hT2_ hJ4_;refine EL.nil (EX.seq (EC.seq (EC.region ?_)));have hbm := Below.refl wR8.heap.size wR8;have q1m := q1;have q2m := q2;have q3m := q3;have q5m := q5;have hjsm := hjs;have hbpm := hbp;have hLm := hL;have hbwm := hbw;have hbom := hbo;refine EL.newS (bs_65_0) rfl ?_;intro g10 w10 q10 hb10 hg10 hl10;have n1_10 := q1.na hg10;have n2_10 := q2.na hg10;have n3_10 := q3.na hg10;have n5_10 := q5.na hg10;have bhbw_10 := Nat.le_trans hbw.size hg10;have bhbo_10 := Nat.le_trans hbo.size hg10;have bhbm_10 := Nat.le_trans hbm.size hg10;have hbg10 : wR8.heap.size ≤ g10 := Nat.le_trans hbm.size hg10;replace q1 := q1.bl hb10;replace q2 := q2.bl hb10;replace q3 := q3.bl hb10;replace q5 := q5.bl hb10;replace hL := hL.below hb10;replace hjs := own_below hjs hb10 (Nat.le_refl _);replace hbp := own_below hbp hb10 (Nat.le_refl _);replace hbw := bo_ hbw hb10;replace hbo := bo_ hbo hb10;replace hbm := bo_ hbm hb10;clear hb10 hg10 hl10;have hst : w10.ownsRow wR8.heap.size 70 2 (.slice (some ⟨g10, 0, none⟩) 0 0) 0 [] := own_empty 2 q10 hbg10;refine EL.as rfl rfl (EL.nil (EX.seq (EC.seq (EC.seq (EC.region (EL.as rfl rfl (EL.nil (EX.seq (EC.block ?_)))))))));refine EC.loopD [15, 16, 17, 80, 81, 82, 83, 84, 85, 86, 87, 88, 89, 90, 91, 92, 93, 94, 95, 96, 97, 98, 99, 100, 101, 102, 103, 104, 105, 106, 107, 108, 109, 110, 111, 112, 113, 114, 115, 116, 117, 118, 119] (fun x_ : Nat × Value => [(15, x_.2), (16, .int .i64 (x_.1 : Nat))]) (fun x_ W => x_.1 ≤ js.length ∧ W.ownsRow wR8.heap.size 70 2 x_.2 x_.1 (stpsC (sxL tt.length ru.kinds.length ys x_.1)) ∧ Below wR8.heap.size wR8 W) (fun x_ => js.length - x_.1) (0, .slice (some ⟨g10, 0, none⟩) 0 0) ⟨Nat.zero_le _, hst, hbm⟩ ⟨rfl, rfl, trivial⟩ ?_
    clear hst hbm q1 q2 q3 q5 hjs hbp hL hbw hbo
    rintro ⟨i, vs2⟩ wx ⟨hi, hst, hbm⟩
    dsimp only at hi hst
    have q1 := q1m.below hbm q1m.lt;have q2 := q2m.below hbm q2m.lt;have q3 := q3m.below hbm q3m.lt;have q5 := q5m.below hbm q5m.lt;have hjs := own_below hjsm hbm (Nat.le_refl _);have hbp := own_below hbpm hbm (Nat.le_refl _);have hL := hLm.below hbm;have hbw := hbwm.trans (hbm.mono hbwm.size);have hbo := hbom.trans (hbm.mono hbom.size)
    by_cases hlt : i < js.length
    ·
     refine EC.seq (EC.seq (EC.region (EL.mv rfl rfl (EL.mv rfl rfl (EL.val (ln_22 rfl) rfl ?_)))));refine EL.val (x_lss rfl rfl (decide_eq_true (show (((i : Nat) : Int) < ((js.length : Nat) : Int)) by omega))) rfl ?_
     refine EL.nil (EX.seq (EC.yes rfl (EC.skip (EX.seq (EC.seq (EC.block (EC.seq (EC.region (EL.val (bd_70_1 rfl) rfl ?_)))))))));refine EL.newP al_70 rfl ?_;intro g11 w11 q11 hb11 hg11 hl11;have n1_11 := q1.na hg11;have n2_11 := q2.na hg11;have n3_11 := q3.na hg11;have n5_11 := q5.na hg11;have bhbw_11 := Nat.le_trans hbw.size hg11;have bhbo_11 := Nat.le_trans hbo.size hg11;have bhbm_11 := Nat.le_trans hbm.size hg11;have hsl : ∀ b, vs2.ownBlock = some b → g11 ≠ b := fun b hb e => by have := (hst.lt b hb).2; omega
     have hsp : ∀ b, (Value.slice Aq pp.length cq).ownBlock = some b → g11 ≠ b := fun b hb e => by have := (hbp.lt b hb).2; omega
     replace q1 := q1.bl hb11;replace q2 := q2.bl hb11;replace q3 := q3.bl hb11;replace q5 := q5.bl hb11;replace hjs := own_below hjs hb11 (Nat.le_refl _);replace hbp := own_below hbp hb11 (Nat.le_refl _);replace hL := hL.below hb11;replace hst := own_below hst hb11 (Nat.le_refl _);replace hbw := bo_ hbw hb11;replace hbo := bo_ hbo hb11;replace hbm := bo_ hbm hb11;clear hb11 hg11 hl11;refine EL.store rfl rfl q11 sz_70 rfl rfl rfl rfl ?_;intro w12 hq12 hg12;replace q1 := q1.gr hg12 n1_11;replace q2 := q2.gr hg12 n2_11;replace q3 := q3.gr hg12 n3_11;replace q5 := q5.gr hg12 n5_11;replace hjs := own_type hjs q11 rfl hg12;replace hbp := kept_ne hbp hg12 (fun b hb e => hsp b hb (Option.some.inj e))
     replace hL := ownLE_box hL q11 rfl rfl hg12;replace hst := kept_ne hst hg12 (fun b hb e => hsl b hb (Option.some.inj e))
     replace hbw := below_store hbw hg12 bhbw_11;replace hbo := below_store hbo hg12 bhbo_11;replace hbm := below_store hbm hg12 bhbm_11;replace q11 := hq12;clear hg12 hq12;refine EL.nil (EX.seq ?_);refine EC.cutD [87, 88, 89, 90, 91, 92, 93, 94, 95, 96, 97, 98, 99, 100, 101, 102, 103, 104, 105, 106, 107, 108, 109, 110, 111, 112, 113, 114, 115] (fun _ : Unit => []) (fun _ W => W.ownsRow wR8.heap.size 70 2 vs2 i (stpsC (sxL tt.length ru.kinds.length ys i)) ∧ Blk W g11 70 #[.int .i64 (sxOf tt.length ru.kinds.length ys i).tank, .int .i64 (sxOf tt.length ru.kinds.length ys i).wash] ∧ Below wR8.heap.size wR8 W) ?_ ?_
     ·
      refine EC.seq (EC.region (EL.mv rfl rfl (EL.val (fa_112_2 rfl) rfl (EL.val (ld_76 rfl (q3.at (j := 2) rfl)) rfl (EL.val (ln_76 rfl) rfl ?_)))))
      by_cases hly : i < ys.length
      ·
       refine EL.val (x_lss rfl rfl (decide_eq_true (show (((i : Nat) : Int) < ((ys.length : Nat) : Int)) by omega))) rfl ?_
       refine EL.nil (EX.seq (EC.yes rfl ?_));obtain ⟨by1, oy1, ey1, _, y0_, y1_⟩ := e2s_cells ys i hly w12 B _ _ _ (hyr.below (hbw.mono hB));obtain ⟨hyb0, hyb1⟩ := hyb _ (getD_mem hly (0, 0));have hr1 := byte_rem hyb1 (m := ((ru.kinds.length : Nat) : Int) + 1) (by omega)
       have lt_1 := q1.lt;have lt_2 := q2.lt;have lt_3 := q3.lt;have lt_5 := q5.lt;have lt_11 := q11.lt;refine EC.regionP [[], [0], [], [0, 1, 2], [0, 1, 2, 3], [0, 1, 2, 3, 4], [0, 1, 2, 3, 4, 5], [], [7], [0, 1, 2, 3, 4, 5, 6, 7, 8], [], [10], [], [10, 11, 12], [10, 11, 12, 13], [10, 11, 12, 13, 14], [10, 11, 12, 13, 14, 15], [], [17], [17, 18], [17, 18, 19], [10, 11, 12, 13, 14, 15, 16, 17, 18, 19, 20], [10, 11, 12, 13, 14, 15, 16, 17, 18, 19, 20, 21], [0, 1, 2, 3, 4, 5, 6, 7, 8, 9, 10, 11, 12, 13, 14, 15, 16, 17, 18, 19, 20, 21, 22], [0, 1, 2, 3, 4, 5, 6, 7, 8, 9, 10, 11, 12, 13, 14, 15, 16, 17, 18, 19, 20, 21, 22, 23]] 24 [] (phi (fun i_ r => match i_ with | 0 => r 0 = .pointer (some ⟨g3, 2, none⟩) | 1 => r 1 = .slice Ay ys.length cy | 2 => r 2 = .int .i64 (i : Nat) | 3 => r 3 = .pointer (some ⟨by1, oy1 + i * 2, none⟩) | 4 => r 4 = .pointer (some ⟨by1, oy1 + i * 2 + 0, none⟩) | 5 => r 5 = .int .u8 (ys.getD i (0, 0)).1 | 6 => r 6 = .int .i64 (ys.getD i (0, 0)).1 | 7 => r 7 = .slice At tt.length ct | 8 => r 8 = .int .i64 (tt.length : Nat) | 9 => r 9 = .int .i64 ((ys.getD i (0, 0)).1.tmod ((tt.length : Nat) : Int)) | 10 => r 10 = .pointer (some ⟨g3, 2, none⟩) | 11 => r 11 = .slice Ay ys.length cy | 12 => r 12 = .int .i64 (i : Nat) | 13 => r 13 = .pointer (some ⟨by1, oy1 + i * 2, none⟩) | 14 => r 14 = .pointer (some ⟨by1, oy1 + i * 2 + 1, none⟩) | 15 => r 15 = .int .u8 (ys.getD i (0, 0)).2 | 16 => r 16 = .int .i64 (ys.getD i (0, 0)).2 | 17 => r 17 = .pointer (some ⟨g5, 5, none⟩) | 18 => r 18 = .slice Ak ru.kinds.length ck | 19 => r 19 = .int .i64 (ru.kinds.length : Nat) | 20 => r 20 = .int .i64 (((ru.kinds.length : Nat) : Int) + 1) | 21 => r 21 = .int .i64 ((ys.getD i (0, 0)).2.tmod (((ru.kinds.length : Nat) : Int) + 1)) | 22 => r 22 = .int .i64 (((ys.getD i (0, 0)).2.tmod (((ru.kinds.length : Nat) : Int) + 1)) - 1) | 23 => r 23 = .agg #[.int .i64 ((ys.getD i (0, 0)).1.tmod ((tt.length : Nat) : Int)), .int .i64 (((ys.getD i (0, 0)).2.tmod (((ru.kinds.length : Nat) : Int) + 1)) - 1)] | _ => True) []) (by kernel_rfl) rfl rfl (phi_nil) (fun i_ hi_ => ?_) ?_
       ·match i_, hi_ with
        | 0, _ =>
         intro val w1 a hb ha hd;have ha := ha.s0 (d := 5) rfl
         exact hs_val ha rfl rfl (fa_112_2 rfl) rfl rfl
        | 1, _ =>
         intro val w1 a hb ha hd;have e0 : val 0 = _ := hd 0 (memB_mem.1 rfl);have ha := ha.s1 (d := 92) rfl e0
         exact hs_val ha rfl rfl (ld_76 rfl ((q3.below hb q3.lt).at (j := 2) rfl)) rfl rfl
        | 2, _ =>
         intro val w1 a hb ha hd;have ha := ha.s0 (d := 16) rfl
         exact hs_val ha rfl rfl (x_move rfl) rfl rfl
        | 3, _ =>
         intro val w1 a hb ha hd;have e1 : val 1 = _ := hd 1 (memB_mem.1 rfl);have e2 : val 2 = _ := hd 2 (memB_mem.1 rfl);have ha := ha.s2 (d := 94) (e := 93) rfl e2 rfl e1
         exact hs_val ha rfl rfl (ix_76 (by show some (Value.slice Ay _ _) = _; rw [ey1]) rfl hly) rfl rfl
        | 4, _ =>
         intro val w1 a hb ha hd;have e3 : val 3 = _ := hd 3 (memB_mem.1 rfl);have ha := ha.s1 (d := 95) rfl e3
         exact hs_val ha rfl rfl (ixa_74 (k := 0) rfl rfl (by omega)) rfl rfl
        | 5, _ =>
         intro val w1 a hb ha hd;have e4 : val 4 = _ := hd 4 (memB_mem.1 rfl);have ha := ha.s1 (d := 96) rfl e4
         exact hs_val ha rfl rfl (ld_5 rfl (below_load hb y0_)) rfl rfl
        | 6, _ =>
         intro val w1 a hb ha hd;have e5 : val 5 = _ := hd 5 (memB_mem.1 rfl);have ha := ha.s1 (d := 97) rfl e5
         exact hs_val ha rfl rfl (cv_5_3 rfl (wrap_byte hyb0)) rfl rfl
        | 7, _ =>
         intro val w1 a hb ha hd;have ha := ha.s0 (d := 8) rfl
         exact hs_val ha rfl rfl (x_move rfl) rfl rfl
        | 8, _ =>
         intro val w1 a hb ha hd;have e7 : val 7 = _ := hd 7 (memB_mem.1 rfl);have ha := ha.s1 (d := 99) rfl e7
         exact hs_val ha rfl rfl (ln_96 rfl) rfl rfl
        | 9, _ =>
         intro val w1 a hb ha hd;have e6 : val 6 = _ := hd 6 (memB_mem.1 rfl);have e8 : val 8 = _ := hd 8 (memB_mem.1 rfl);have ha := ha.s2 (d := 100) (e := 98) rfl e8 rfl e6
         exact hs_val ha rfl rfl (x_rem rfl rfl (by omega) rfl) rfl rfl
        | 10, _ =>
         intro val w1 a hb ha hd;have ha := ha.s0 (d := 5) rfl
         exact hs_val ha rfl rfl (fa_112_2 rfl) rfl rfl
        | 11, _ =>
         intro val w1 a hb ha hd;have e10 : val 10 = _ := hd 10 (memB_mem.1 rfl);have ha := ha.s1 (d := 102) rfl e10
         exact hs_val ha rfl rfl (ld_76 rfl ((q3.below hb q3.lt).at (j := 2) rfl)) rfl rfl
        | 12, _ =>
         intro val w1 a hb ha hd;have ha := ha.s0 (d := 16) rfl
         exact hs_val ha rfl rfl (x_move rfl) rfl rfl
        | 13, _ =>
         intro val w1 a hb ha hd;have e11 : val 11 = _ := hd 11 (memB_mem.1 rfl);have e12 : val 12 = _ := hd 12 (memB_mem.1 rfl);have ha := ha.s2 (d := 104) (e := 103) rfl e12 rfl e11
         exact hs_val ha rfl rfl (ix_76 (by show some (Value.slice Ay _ _) = _; rw [ey1]) rfl hly) rfl rfl
        | 14, _ =>
         intro val w1 a hb ha hd;have e13 : val 13 = _ := hd 13 (memB_mem.1 rfl);have ha := ha.s1 (d := 105) rfl e13
         exact hs_val ha rfl rfl (ixa_74 (k := 1) rfl rfl (by omega)) rfl rfl
        | 15, _ =>
         intro val w1 a hb ha hd;have e14 : val 14 = _ := hd 14 (memB_mem.1 rfl);have ha := ha.s1 (d := 106) rfl e14
         exact hs_val ha rfl rfl (ld_5 rfl (below_load hb y1_)) rfl rfl
        | 16, _ =>
         intro val w1 a hb ha hd;have e15 : val 15 = _ := hd 15 (memB_mem.1 rfl);have ha := ha.s1 (d := 107) rfl e15
         exact hs_val ha rfl rfl (cv_5_3 rfl (wrap_byte hyb1)) rfl rfl
        | 17, _ =>
         intro val w1 a hb ha hd;have ha := ha.s0 (d := 7) rfl
         exact hs_val ha rfl rfl (fa_28_4 rfl) rfl rfl
        | 18, _ =>
         intro val w1 a hb ha hd;have e17 : val 17 = _ := hd 17 (memB_mem.1 rfl);have ha := ha.s1 (d := 109) rfl e17
         exact hs_val ha rfl rfl (ld_26 rfl ((q5.below hb q5.lt).at (j := 5) rfl)) rfl rfl
        | 19, _ =>
         intro val w1 a hb ha hd;have e18 : val 18 = _ := hd 18 (memB_mem.1 rfl);have ha := ha.s1 (d := 110) rfl e18
         exact hs_val ha rfl rfl (ln_26 rfl) rfl rfl
        | 20, _ =>
         intro val w1 a hb ha hd;have e19 : val 19 = _ := hd 19 (memB_mem.1 rfl);have ha := ha.s1 (d := 111) rfl e19
         exact hs_val ha rfl rfl (x_add rfl rfl (IntWalk.i64_in _ ⟨by omega, by omega⟩)) rfl rfl
        | 21, _ =>
         intro val w1 a hb ha hd;have e16 : val 16 = _ := hd 16 (memB_mem.1 rfl);have e20 : val 20 = _ := hd 20 (memB_mem.1 rfl);have ha := ha.s2 (d := 112) (e := 108) rfl e20 rfl e16
         exact hs_val ha rfl rfl (x_rem rfl rfl (by omega) rfl) rfl rfl
        | 22, _ =>
         intro val w1 a hb ha hd;have e21 : val 21 = _ := hd 21 (memB_mem.1 rfl);have ha := ha.s1 (d := 113) rfl e21
         exact hs_val ha rfl rfl (x_sub rfl rfl (IntWalk.i64_in _ ⟨by omega, by omega⟩)) rfl rfl
        | 23, _ =>
         intro val w1 a hb ha hd;have e9 : val 9 = _ := hd 9 (memB_mem.1 rfl);have e22 : val 22 = _ := hd 22 (memB_mem.1 rfl);have ha := ha.s2 (d := 114) (e := 101) rfl e22 rfl e9
         exact hs_val ha rfl rfl (bd_70_0_1 rfl rfl) rfl rfl
        | k + 24, h => exact absurd h (by omega)
       ·intro val wR15 hb halc hd
        have e0 : val 0 = _ := hd 0 (by omega)
        have e1 : val 1 = _ := hd 1 (by omega)
        have e2 : val 2 = _ := hd 2 (by omega)
        have e3 : val 3 = _ := hd 3 (by omega)
        have e4 : val 4 = _ := hd 4 (by omega)
        have e5 : val 5 = _ := hd 5 (by omega)
        have e6 : val 6 = _ := hd 6 (by omega)
        have e7 : val 7 = _ := hd 7 (by omega)
        have e8 : val 8 = _ := hd 8 (by omega)
        have e9 : val 9 = _ := hd 9 (by omega)
        have e10 : val 10 = _ := hd 10 (by omega)
        have e11 : val 11 = _ := hd 11 (by omega)
        have e12 : val 12 = _ := hd 12 (by omega)
        have e13 : val 13 = _ := hd 13 (by omega)
        have e14 : val 14 = _ := hd 14 (by omega)
        have e15 : val 15 = _ := hd 15 (by omega)
        have e16 : val 16 = _ := hd 16 (by omega)
        have e17 : val 17 = _ := hd 17 (by omega)
        have e18 : val 18 = _ := hd 18 (by omega)
        have e19 : val 19 = _ := hd 19 (by omega)
        have e20 : val 20 = _ := hd 20 (by omega)
        have e21 : val 21 = _ := hd 21 (by omega)
        have e22 : val 22 = _ := hd 22 (by omega)
        have e23 : val 23 = _ := hd 23 (by omega)
        refine EL.ends (cs := [_, _, _, _, _, _, _, _, _, _, _, _, _, _, _, _, _, _, _, _, _, _, _, _]) ⟨e0, e1, e2, e3, e4, e5, e6, e7, e8, e9, e10, e11, e12, e13, e14, e15, e16, e17, e18, e19, e20, e21, e22, e23, trivial⟩ rfl ?_;replace q1 := q1.bl hb;replace q2 := q2.bl hb;replace q3 := q3.bl hb;replace q5 := q5.bl hb;replace q11 := q11.bl hb;replace hjs := own_below hjs hb (Nat.le_refl _);replace hbp := own_below hbp hb (Nat.le_refl _);replace hL := hL.below hb;replace hst := own_below hst hb (Nat.le_refl _);replace hbw := bo_ hbw hb;replace hbo := bo_ hbo hb;replace hbm := bo_ hbm hb;clear hb;refine EL.store rfl rfl q11 sz_70 rfl rfl rfl rfl ?_;intro w13 hq13 hg13;replace q1 := q1.gr hg13 n1_11;replace q2 := q2.gr hg13 n2_11;replace q3 := q3.gr hg13 n3_11;replace q5 := q5.gr hg13 n5_11;replace hjs := own_type hjs q11 rfl hg13;replace hbp := kept_ne hbp hg13 (fun b hb e => hsp b hb (Option.some.inj e))
        replace hL := ownLE_box hL q11 rfl rfl hg13;replace hst := kept_ne hst hg13 (fun b hb e => hsl b hb (Option.some.inj e))
        replace hbw := below_store hbw hg13 bhbw_11;replace hbo := below_store hbo hg13 bhbo_11;replace hbm := below_store hbm hg13 bhbm_11;replace q11 := hq13;clear hg13 hq13;refine EL.nil ?_
        exact EX.cutE () trivial (by repeat first | with_reducible exact (Sub.refl _).del _ | refine sp_ rfl ?_ | exact (Sub.refl _).del _ | refine sd_ rfl ?_ | refine sn_ ?_) ⟨hst, (by rw [sx_yes hly]; exact q11), hbm⟩
      ·
       refine EL.val (x_lss rfl rfl (decide_eq_false (show ¬(((i : Nat) : Int) < ((ys.length : Nat) : Int)) by omega))) rfl ?_
       refine EL.nil (EX.seq (EC.no rfl (EC.skip ?_)))
       exact EX.cutE () trivial (by repeat first | with_reducible exact (Sub.refl _).del _ | refine sp_ rfl ?_ | exact (Sub.refl _).del _ | refine sd_ rfl ?_ | refine sn_ ?_) ⟨hst, (by rw [sx_no hly]; exact q11), hbm⟩
     ·
      clear hst q11 hbm q1 q2 q3 q5 hjs hbp hL hbw hbo
      rintro _ W14 ⟨hst, q11, hbm⟩
      have q1 := q1m.below hbm q1m.lt;have q2 := q2m.below hbm q2m.lt;have q3 := q3m.below hbm q3m.lt;have q5 := q5m.below hbm q5m.lt;have hjs := own_below hjsm hbm (Nat.le_refl _);have hbp := own_below hbpm hbm (Nat.le_refl _);have hL := hLm.below hbm;have hbw := hbwm.trans (hbm.mono hbwm.size);have hbo := hbom.trans (hbm.mono hbom.size);refine EC.region (EL.mv rfl rfl (EL.val (ld_70 rfl (q11.at (j := 0) rfl) (q11.at (j := 1) rfl)) rfl (EL.newS (bs_65_1 rfl) rfl ?_)));intro g14 w14 q14 hb14 hg14 hl14;have n1_14 := q1.na hg14;have n2_14 := q2.na hg14;have n3_14 := q3.na hg14;have n5_14 := q5.na hg14;have n11_14 := q11.na hg14;have bhbw_14 := Nat.le_trans hbw.size hg14;have bhbo_14 := Nat.le_trans hbo.size hg14;have bhbm_14 := Nat.le_trans hbm.size hg14;replace q1 := q1.bl hb14;replace q2 := q2.bl hb14;replace q3 := q3.bl hb14;replace q5 := q5.bl hb14;replace q11 := q11.bl hb14;replace hjs := own_below hjs hb14 (Nat.le_refl _);replace hbp := own_below hbp hb14 (Nat.le_refl _);replace hL := hL.below hb14;replace hst := own_below hst hb14 (Nat.le_refl _);replace hbw := bo_ hbw hb14;replace hbo := bo_ hbo hb14;replace hbm := bo_ hbm hb14;clear hb14 hg14 hl14;refine EL.push st_elem rfl rfl hst (rd_one (l := [.int .i64 (sxOf tt.length ru.kinds.length ys i).tank, .int .i64 (sxOf tt.length ru.kinds.length ys i).wash]) q14 rfl) (by intro u hu; simp only [List.mem_cons, List.not_mem_nil, or_false] at hu; rcases hu with rfl | rfl <;> rfl) (by omega) rfl hbm.size rfl ?_
      intro v9 w9 hst9 hgr hb_ hat;have hbm9 := hbm.trans hb_;clear hst hbm hgr hb_ hat q1 q2 q3 q5 hjs hbp hL hbw hbo;have hst := hst9;have hbm := hbm9;clear hst9 hbm9;have q1 := q1m.below hbm q1m.lt;have q2 := q2m.below hbm q2m.lt;have q3 := q3m.below hbm q3m.lt;have q5 := q5m.below hbm q5m.lt;have hjs := own_below hjsm hbm (Nat.le_refl _);have hbp := own_below hbpm hbm (Nat.le_refl _);have hL := hLm.below hbm;have hbw := hbwm.trans (hbm.mono hbwm.size);have hbo := hbom.trans (hbm.mono hbom.size);refine EL.as rfl rfl (EL.nil (EX.blk (EX.seq (EC.region (EL.mv rfl rfl ?_)))));refine EL.val (x_add rfl rfl (c := ((i + 1 : Nat) : Int)) ((IntWalk.i64_in _ ⟨by first | omega | (simp only; omega), by first | omega | (simp only; omega)⟩).trans (by first | omega | (simp only; omega)))) rfl ?_
      refine EL.as rfl rfl (EL.nil ?_);refine EX.roundD (i + 1, v9) ⟨rfl, rfl, trivial⟩ (by repeat first | with_reducible exact .refl _ | refine sp_ rfl ?_ | exact .refl _ | refine sd_ rfl ?_ | refine sn_ ?_) ⟨hlt, (by simp only; rw [sxL_succ]; exact hst), hbm⟩ (by simp only; omega)
    ·
     obtain rfl : i = js.length := by omega
     have hxl : (sxL tt.length ru.kinds.length ys js.length).length = js.length := sxL_len;have hxa : (sxL tt.length ru.kinds.length ys js.length).all (stB ru tt.length) = true := sx_all (by omega) hyb
     generalize (sxL tt.length ru.kinds.length ys js.length) = xs at hst hxl hxa
     obtain ⟨As, cs_, rfl, _⟩ := (Rd.of_own hst).shape;have hver := ver_w hyT hxl hxa;refine EC.seq (EC.seq (EC.region (EL.mv rfl rfl (EL.mv rfl rfl (EL.val (ln_22 rfl) rfl ?_)))));refine EL.val (x_lss rfl rfl (decide_eq_false (show ¬(((js.length : Nat) : Int) < ((js.length : Nat) : Int)) by omega))) rfl ?_
     refine EL.nil (EX.seq (EC.no rfl (EC.exit (EX.seq_exit (EX.seq_exit (EX.blk_here (EX.seq (EC.seq ?_))))))));have lt_1 := q1.lt;have lt_2 := q2.lt;have lt_3 := q3.lt;have lt_5 := q5.lt;refine EC.regionP [[], [], [1], [], [1, 2, 3], [], [], [1, 2, 3, 4, 5, 6], [0, 1, 2, 3, 4, 5, 6, 7], [0, 1, 2, 3, 4, 5, 6, 7, 8], [0, 1, 2, 3, 4, 5, 6, 7, 8, 9], [0, 1, 2, 3, 4, 5, 6, 7, 8, 9], [0, 1, 2, 3, 4, 5, 6, 7, 8, 9], [0, 1, 2, 3, 4, 5, 6, 7, 8, 9], [0, 1, 2, 3, 4, 5, 6, 7, 8, 9, 10], [0, 1, 2, 3, 4, 5, 6, 7, 8, 9, 10, 11, 14], [0, 1, 2, 3, 4, 5, 6, 7, 8, 9, 10, 11, 12, 14, 15], [0, 1, 2, 3, 4, 5, 6, 7, 8, 9, 10, 11, 12, 13, 14, 15, 16]] 18 [] (phi (fun i_ r => match i_ with | 0 => r 0 = .agg #[.slice Al ru.levels.length cl, .int .i64 ru.fade.lo, .int .i64 ru.fade.hi, .slice Aa ru.allow.length ca, .slice Ap ru.apart.length cp, .slice Ak ru.kinds.length ck] | 1 => r 1 = .slice At tt.length ct | 3 => r 3 = .slice Aj js.length cj | 6 => r 6 = .slice As js.length cs_ | 9 => r 9 = .tuple #[.int .i64 (verT ru tt js xs).1, .int .i64 (verT ru tt js xs).2.1, .int .i64 (verT ru tt js xs).2.2, .int .i64 0] | 10 => r 10 = .int .i64 (verT ru tt js xs).1 | 11 => r 11 = .int .i64 (verT ru tt js xs).2.1 | 12 => r 12 = .int .i64 (verT ru tt js xs).2.2 | 13 => r 13 = .int .i64 0 | 14 => r 14 = .int .i64 (verT ru tt js xs).1 | 15 => r 15 = .int .i64 (verT ru tt js xs).2.1 | 16 => r 16 = .int .i64 (verT ru tt js xs).2.2 | 17 => r 17 = .int .i64 0 | _ => True) [(2, fun r w_ => ∃ v us_, r 2 = v ∧ RdLL evC 2 w_ w_.heap.size v tt us_), (4, fun r w_ => ∃ v, r 4 = v ∧ Rd w_ w_.heap.size 1 v js.length (ints js)), (5, fun r w_ => ∃ g_, r 5 = .slice (some ⟨g_, 0, none⟩) 0 0 ∧ Blk w_ g_ 70 #[] ∧ wx.heap.size ≤ g_), (7, fun r w_ => ∃ A c, r 7 = .slice A js.length c ∧ w_.ownsRow w.heap.size 70 2 (.slice A js.length c) js.length (stpsC xs)), (8, fun r w_ => ∃ u_ : Unit, r 8 = .tuple #[.int .i64 (verT ru tt js xs).1, .int .i64 (verT ru tt js xs).2.1, .int .i64 (verT ru tt js xs).2.2, .int .i64 0])]) (by kernel_rfl) rfl rfl (phi_cons (fun _ _ _ hb ⟨v, us_, h1, h2⟩ => ⟨v, us_, h1, (h2.below hb).more hb.size⟩) (phi_cons mono_rd2 (phi_cons mono_bs (phi_cons (fun _ _ _ hb ⟨A, c, h1, h2⟩ => ⟨A, c, h1, own_below h2 hb (Nat.le_refl _)⟩) (phi_cons (fun _ _ _ _ h => h) (phi_nil)))))) (fun i_ hi_ => ?_) ?_
     ·match i_, hi_ with
      | 0, _ =>
       intro val w1 a hb ha hd;have ha := ha.s0 (d := 7) rfl
       exact hs_val ha rfl rfl (ld_28 rfl ((q5.below hb q5.lt).at (j := 0) rfl) ((q5.below hb q5.lt).at (j := 1) rfl) ((q5.below hb q5.lt).at (j := 2) rfl) ((q5.below hb q5.lt).at (j := 3) rfl) ((q5.below hb q5.lt).at (j := 4) rfl) ((q5.below hb q5.lt).at (j := 5) rfl)) rfl rfl
      | 1, _ =>
       intro val w1 a hb ha hd;have ha := ha.s0 (d := 8) rfl
       exact hs_val ha rfl rfl (x_move rfl) rfl rfl
      | 2, _ =>
       intro val w1 a hb ha hd;have e1 : val 1 = _ := hd 1 (memB_mem.1 rfl);have ha := ha.s1 (d := 122) rfl e1;refine hs_call ha rfl rfl (cA1 cF39 rfl) (all_any ((hL.below hb).rd) (Nat.le_refl _) (by omega) (fun i hi => by have := (hTz i hi).2; omega)) rfl ?_
       rintro e w' ⟨⟨v2, us2, rfl, hJ⟩, hb'⟩
       exact ⟨_, rfl, hb', ⟨v2, us2, rfl, hJ⟩⟩
      | 3, _ =>
       intro val w1 a hb ha hd;have ha := ha.s0 (d := 9) rfl
       exact hs_val ha rfl rfl (x_move rfl) rfl rfl
      | 4, _ =>
       intro val w1 a hb ha hd;have e3 : val 3 = _ := hd 3 (memB_mem.1 rfl);have ha := ha.s1 (d := 124) rfl e3;refine hs_call ha rfl rfl (cA1 cF23 rfl) (numbers_any (Rd.of_own (own_below hjs hb (Nat.le_refl _))) (Nat.le_refl _) (by omega)) rfl ?_
       rintro e w' ⟨⟨v2, rfl, hJ⟩, hb'⟩
       exact ⟨_, rfl, hb', ⟨v2, rfl, Rd.of_own hJ⟩⟩
      | 5, _ =>
       intro val w1 a hb ha hd;have ha := ha.sub (Sub.nil _)
       exact hs_newS ha rfl rfl (bs_65_0) rfl (fun g w' hq _ hge => ⟨g, rfl, hq, Nat.le_trans hb.size hge⟩)
      | 6, _ =>
       intro val w1 a hb ha hd;have ha := ha.s0 (d := 15) rfl
       exact hs_val ha rfl rfl (x_move rfl) rfl rfl
      | 7, _ =>
       intro val w1 a hb ha hd;obtain ⟨g5_, e5, q5_, h5_⟩ := hd 5 (memB_mem.1 rfl);change val 5 = _ at e5;have e6 : val 6 = _ := hd 6 (memB_mem.1 rfl);have ha := ha.s2 (d := 127) (e := 126) rfl e6 rfl e5;refine hs_copy st_elem ha rfl rfl rfl q5_ (Nat.le_trans hbw.size h5_) (Rd.of_own (own_below hst hb (Nat.le_refl _))) (stpsC_one _) (by omega) rfl (Nat.le_trans hbw.size hb.size) rfl (fun v' w' ho => ?_)
       obtain ⟨A, c9, rfl, _⟩ := (Rd.of_own ho).shape
       exact ⟨A, c9, rfl, ho⟩
      | 8, _ =>
       intro val w1 a hb ha hd;have e0 : val 0 = _ := hd 0 (memB_mem.1 rfl);obtain ⟨v2_, us2_, e2, hT2_⟩ := hd 2 (memB_mem.1 rfl);obtain ⟨v4_, e4, hJ4_⟩ := hd 4 (memB_mem.1 rfl);obtain ⟨Ac7_, cc7_, e7, hc7_⟩ := hd 7 (memB_mem.1 rfl);have ha := ha.sub (Sub.ins (d := 128) (Sub.ins (d := 125) (Sub.ins (d := 123) (Sub.ins (d := 121) (Sub.nil _) (dep_get rfl e0)) (dep_get rfl e2)) (dep_get rfl e4)) (dep_get rfl e7));refine hs_call ha rfl rfl (cA4 cF40 rfl rfl rfl rfl) (VerX_to ((hR.below (hbo.trans (hb.mono hbo.size))).more (Nat.le_trans hbo.size hb.size)) (Nat.le_refl _) hs hT2_ (fun i hi => by have := (hTz i hi).2; omega) (by omega) hJ4_ (by omega) hyT hxl hxa (by rw [hxl]; exact Rd.of_own hc7_)) rfl ?_
       rintro e w' ⟨rfl, hb'⟩
       exact ⟨_, rfl, hb', ⟨(), rfl⟩⟩
      | 9, _ =>
       intro val w1 a hb ha hd;obtain ⟨_, e8⟩ := hd 8 (memB_mem.1 rfl);have ha := ha.s1 (d := 129) rfl e8
       exact hs_val ha rfl rfl (x_move rfl) rfl rfl
      | 10, _ =>
       intro val w1 a hb ha hd;have e9 : val 9 = _ := hd 9 (memB_mem.1 rfl);have ha := ha.s1 (d := 120) rfl e9
       exact hs_val ha rfl rfl (x_extract rfl rfl) rfl rfl
      | 11, _ =>
       intro val w1 a hb ha hd;have e9 : val 9 = _ := hd 9 (memB_mem.1 rfl);have ha := ha.s1 (d := 120) rfl e9
       exact hs_val ha rfl rfl (x_extract rfl rfl) rfl rfl
      | 12, _ =>
       intro val w1 a hb ha hd;have e9 : val 9 = _ := hd 9 (memB_mem.1 rfl);have ha := ha.s1 (d := 120) rfl e9
       exact hs_val ha rfl rfl (x_extract rfl rfl) rfl rfl
      | 13, _ =>
       intro val w1 a hb ha hd;have e9 : val 9 = _ := hd 9 (memB_mem.1 rfl);have ha := ha.s1 (d := 120) rfl e9
       exact hs_val ha rfl rfl (x_extract rfl rfl) rfl rfl
      | 14, _ =>
       intro val w1 a hb ha hd;have e10 : val 10 = _ := hd 10 (memB_mem.1 rfl);have ha := ha.s1 (d := 130) rfl e10
       exact hs_val ha rfl rfl (x_assign rfl) rfl rfl
      | 15, _ =>
       intro val w1 a hb ha hd;have e11 : val 11 = _ := hd 11 (memB_mem.1 rfl);have ha := ha.s1 (d := 131) rfl e11
       exact hs_val ha rfl rfl (x_assign rfl) rfl rfl
      | 16, _ =>
       intro val w1 a hb ha hd;have e12 : val 12 = _ := hd 12 (memB_mem.1 rfl);have ha := ha.s1 (d := 132) rfl e12
       exact hs_val ha rfl rfl (x_assign rfl) rfl rfl
      | 17, _ =>
       intro val w1 a hb ha hd;have e13 : val 13 = _ := hd 13 (memB_mem.1 rfl);have ha := ha.s1 (d := 133) rfl e13
       exact hs_val ha rfl rfl (x_assign rfl) rfl rfl
      | k + 18, h => exact absurd h (by omega)
     ·intro val wR17 hb halc hd
      have e0 : val 0 = _ := hd 0 (by omega)
      have e1 : val 1 = _ := hd 1 (by omega)
      obtain ⟨v2_, us2_, e2, hT2_⟩ := hd 2 (by omega)
      have e3 : val 3 = _ := hd 3 (by omega)
      obtain ⟨v4_, e4, hJ4_⟩ := hd 4 (by omega)
      obtain ⟨ga5_17, e5, qa5_17, hga5_17⟩ := hd 5 (by omega)
      change val 5 = _ at e5;change Blk wR17 ga5_17 70 #[] at qa5_17;have e6 : val 6 = _ := hd 6 (by omega)
      obtain ⟨Ac7_, cc7_, e7, hc7_⟩ := hd 7 (by omega)
      obtain ⟨_, e8⟩ := hd 8 (by omega)
      have e9 : val 9 = _ := hd 9 (by omega)
      have e10 : val 10 = _ := hd 10 (by omega)
      have e11 : val 11 = _ := hd 11 (by omega)
      have e12 : val 12 = _ := hd 12 (by omega)
      have e13 : val 13 = _ := hd 13 (by omega)
      have e14 : val 14 = _ := hd 14 (by omega)
      have e15 : val 15 = _ := hd 15 (by omega)
      have e16 : val 16 = _ := hd 16 (by omega)
      have e17 : val 17 = _ := hd 17 (by omega)
      refine EL.ends (cs := [_, _, _, _, _, _, _, _, _, _, _, _, _, _, _, _, _, _]) ⟨e0, e1, e2, e3, e4, e5, e6, e7, e8, e9, e10, e11, e12, e13, e14, e15, e16, e17, trivial⟩ rfl ?_;replace q1 := q1.bl hb;replace q2 := q2.bl hb;replace q3 := q3.bl hb;replace q5 := q5.bl hb;replace hjs := own_below hjs hb (Nat.le_refl _);replace hbp := own_below hbp hb (Nat.le_refl _);replace hL := hL.below hb;replace hst := own_below hst hb (Nat.le_refl _);have n1_15 : g1 ≠ ga5_17 := Nat.ne_of_lt (Nat.lt_of_lt_of_le lt_1 hga5_17);have n2_15 : g2 ≠ ga5_17 := Nat.ne_of_lt (Nat.lt_of_lt_of_le lt_2 hga5_17);have n3_15 : g3 ≠ ga5_17 := Nat.ne_of_lt (Nat.lt_of_lt_of_le lt_3 hga5_17);have n5_15 : g5 ≠ ga5_17 := Nat.ne_of_lt (Nat.lt_of_lt_of_le lt_5 hga5_17);have bhbw_15 := Nat.le_trans hbw.size hga5_17;have bhbo_15 := Nat.le_trans hbo.size hga5_17;replace hbw := bo_ hbw hb;replace hbo := bo_ hbo hb;clear hb;clear hT2_ hJ4_ hc7_;refine EL.nil (EX.seq (EC.seq (EC.seq (EC.region (EL.mv rfl rfl ?_)))));refine EL.val (x_neq (r := false) rfl rfl (decide_eq_false (fun h => h rfl))) rfl ?_
      refine EL.mv rfl rfl (EL.mg rfl rfl rfl rfl (EL.valg rfl rfl (x_lss (r := false) rfl rfl (decide_eq_false (Int.not_lt.2 hver.lo))) rfl (EL.pf rfl rfl rfl (EL.mv rfl rfl (EL.mg rfl rfl rfl rfl (EL.mg rfl rfl rfl rfl (EL.valg rfl rfl (ln_22 rfl) rfl ?_)))))));refine EL.valg rfl rfl (x_geq (r := false) rfl rfl (decide_eq_false (by have := hver.hi; omega))) rfl ?_
      refine EL.pf rfl rfl rfl (EL.nil (EX.seq (EC.no rfl (EC.skip (EX.seq (EC.seq (EC.seq (EC.region (EL.mv rfl rfl ?_)))))))))
      rcases codeF_two hyT with hcd | hcd
      ·
       have hfl := hfp.1 hcd;have hlp := fleet_len hfl;have hpa := run_stB hfl.run;have hplen : (pp.map toStp).length = js.length := by rw [List.length_map]; exact hlp
       have hpl2 : (pp.map toStp).length = pp.length := List.length_map ..;have hver2 := ver_w hyT hplen hpa;have hv2 := hver2.back pp rfl hfl.run;refine EL.val (x_neq (r := false) rfl rfl (decide_eq_false (fun h => h hcd))) rfl ?_
       refine EL.nil (EX.seq (EC.no rfl (EC.skip (EX.seq (EC.seq ?_)))));have lt_1 := q1.lt;have lt_2 := q2.lt;have lt_3 := q3.lt;have lt_5 := q5.lt;refine EC.regionP [[], [], [1], [], [1, 2, 3], [], [], [1, 2, 3, 4, 5, 6], [0, 1, 2, 3, 4, 5, 6, 7], [0, 1, 2, 3, 4, 5, 6, 7, 8], [0, 1, 2, 3, 4, 5, 6, 7, 8, 9], [0, 1, 2, 3, 4, 5, 6, 7, 8, 9], [0, 1, 2, 3, 4, 5, 6, 7, 8, 9], [0, 1, 2, 3, 4, 5, 6, 7, 8, 9], [0, 1, 2, 3, 4, 5, 6, 7, 8, 9, 10], [0, 1, 2, 3, 4, 5, 6, 7, 8, 9, 10, 11, 14], [0, 1, 2, 3, 4, 5, 6, 7, 8, 9, 10, 11, 12, 14, 15], [0, 1, 2, 3, 4, 5, 6, 7, 8, 9, 10, 11, 12, 13, 14, 15, 16]] 18 [] (phi (fun i_ r => match i_ with | 0 => r 0 = .agg #[.slice Al ru.levels.length cl, .int .i64 ru.fade.lo, .int .i64 ru.fade.hi, .slice Aa ru.allow.length ca, .slice Ap ru.apart.length cp, .slice Ak ru.kinds.length ck] | 1 => r 1 = .slice At tt.length ct | 3 => r 3 = .slice Aj js.length cj | 6 => r 6 = .slice Aq pp.length cq | 9 => r 9 = .tuple #[.int .i64 (verT ru tt js (pp.map toStp)).1, .int .i64 (verT ru tt js (pp.map toStp)).2.1, .int .i64 (verT ru tt js (pp.map toStp)).2.2, .int .i64 0] | 10 => r 10 = .int .i64 (verT ru tt js (pp.map toStp)).1 | 11 => r 11 = .int .i64 (verT ru tt js (pp.map toStp)).2.1 | 12 => r 12 = .int .i64 (verT ru tt js (pp.map toStp)).2.2 | 13 => r 13 = .int .i64 0 | 14 => r 14 = .int .i64 (verT ru tt js (pp.map toStp)).1 | 15 => r 15 = .int .i64 (verT ru tt js (pp.map toStp)).2.1 | 16 => r 16 = .int .i64 (verT ru tt js (pp.map toStp)).2.2 | 17 => r 17 = .int .i64 0 | _ => True) [(2, fun r w_ => ∃ v us_, r 2 = v ∧ RdLL evC 2 w_ w_.heap.size v tt us_), (4, fun r w_ => ∃ v, r 4 = v ∧ Rd w_ w_.heap.size 1 v js.length (ints js)), (5, fun r w_ => ∃ g_, r 5 = .slice (some ⟨g_, 0, none⟩) 0 0 ∧ Blk w_ g_ 70 #[] ∧ wR17.heap.size ≤ g_), (7, fun r w_ => ∃ A c, r 7 = .slice A pp.length c ∧ w_.ownsRow w.heap.size 70 2 (.slice A pp.length c) pp.length (stpsC (pp.map toStp))), (8, fun r w_ => ∃ u_ : Unit, r 8 = .tuple #[.int .i64 (verT ru tt js (pp.map toStp)).1, .int .i64 (verT ru tt js (pp.map toStp)).2.1, .int .i64 (verT ru tt js (pp.map toStp)).2.2, .int .i64 0])]) (by kernel_rfl) rfl rfl (phi_cons (fun _ _ _ hb ⟨v, us_, h1, h2⟩ => ⟨v, us_, h1, (h2.below hb).more hb.size⟩) (phi_cons mono_rd2 (phi_cons mono_bs (phi_cons (fun _ _ _ hb ⟨A, c, h1, h2⟩ => ⟨A, c, h1, own_below h2 hb (Nat.le_refl _)⟩) (phi_cons (fun _ _ _ _ h => h) (phi_nil)))))) (fun i_ hi_ => ?_) ?_
       ·match i_, hi_ with
        | 0, _ =>
         intro val w1 a hb ha hd;have ha := ha.s0 (d := 7) rfl
         exact hs_val ha rfl rfl (ld_28 rfl ((q5.below hb q5.lt).at (j := 0) rfl) ((q5.below hb q5.lt).at (j := 1) rfl) ((q5.below hb q5.lt).at (j := 2) rfl) ((q5.below hb q5.lt).at (j := 3) rfl) ((q5.below hb q5.lt).at (j := 4) rfl) ((q5.below hb q5.lt).at (j := 5) rfl)) rfl rfl
        | 1, _ =>
         intro val w1 a hb ha hd;have ha := ha.s0 (d := 8) rfl
         exact hs_val ha rfl rfl (x_move rfl) rfl rfl
        | 2, _ =>
         intro val w1 a hb ha hd;have e1 : val 1 = _ := hd 1 (memB_mem.1 rfl);have ha := ha.s1 (d := 178) rfl e1;refine hs_call ha rfl rfl (cA1 cF39 rfl) (all_any ((hL.below hb).rd) (Nat.le_refl _) (by omega) (fun i hi => by have := (hTz i hi).2; omega)) rfl ?_
         rintro e w' ⟨⟨v2, us2, rfl, hJ⟩, hb'⟩
         exact ⟨_, rfl, hb', ⟨v2, us2, rfl, hJ⟩⟩
        | 3, _ =>
         intro val w1 a hb ha hd;have ha := ha.s0 (d := 9) rfl
         exact hs_val ha rfl rfl (x_move rfl) rfl rfl
        | 4, _ =>
         intro val w1 a hb ha hd;have e3 : val 3 = _ := hd 3 (memB_mem.1 rfl);have ha := ha.s1 (d := 180) rfl e3;refine hs_call ha rfl rfl (cA1 cF23 rfl) (numbers_any (Rd.of_own (own_below hjs hb (Nat.le_refl _))) (Nat.le_refl _) (by omega)) rfl ?_
         rintro e w' ⟨⟨v2, rfl, hJ⟩, hb'⟩
         exact ⟨_, rfl, hb', ⟨v2, rfl, Rd.of_own hJ⟩⟩
        | 5, _ =>
         intro val w1 a hb ha hd;have ha := ha.sub (Sub.nil _)
         exact hs_newS ha rfl rfl (bs_65_0) rfl (fun g w' hq _ hge => ⟨g, rfl, hq, Nat.le_trans hb.size hge⟩)
        | 6, _ =>
         intro val w1 a hb ha hd;have ha := ha.s0 (d := 11) rfl
         exact hs_val ha rfl rfl (x_move rfl) rfl rfl
        | 7, _ =>
         intro val w1 a hb ha hd;obtain ⟨g5_, e5, q5_, h5_⟩ := hd 5 (memB_mem.1 rfl);change val 5 = _ at e5;have e6 : val 6 = _ := hd 6 (memB_mem.1 rfl);have ha := ha.s2 (d := 183) (e := 182) rfl e6 rfl e5;refine hs_copy st_elem ha rfl rfl rfl q5_ (Nat.le_trans hbw.size h5_) (by rw [← sts_stps]; exact Rd.of_own (own_below hbp hb (Nat.le_refl _))) (stpsC_one _) (by omega) rfl (Nat.le_trans hbw.size hb.size) rfl (fun v' w' ho => ?_)
         obtain ⟨A, c9, rfl, _⟩ := (Rd.of_own ho).shape
         exact ⟨A, c9, rfl, ho⟩
        | 8, _ =>
         intro val w1 a hb ha hd;have e0 : val 0 = _ := hd 0 (memB_mem.1 rfl);obtain ⟨v2_, us2_, e2, hT2_⟩ := hd 2 (memB_mem.1 rfl);obtain ⟨v4_, e4, hJ4_⟩ := hd 4 (memB_mem.1 rfl);obtain ⟨Ac7_, cc7_, e7, hc7_⟩ := hd 7 (memB_mem.1 rfl);have ha := ha.sub (Sub.ins (d := 184) (Sub.ins (d := 181) (Sub.ins (d := 179) (Sub.ins (d := 177) (Sub.nil _) (dep_get rfl e0)) (dep_get rfl e2)) (dep_get rfl e4)) (dep_get rfl e7));refine hs_call ha rfl rfl (cA4 cF40 rfl rfl rfl rfl) (VerX_to ((hR.below (hbo.trans (hb.mono hbo.size))).more (Nat.le_trans hbo.size hb.size)) (Nat.le_refl _) hs hT2_ (fun i hi => by have := (hTz i hi).2; omega) (by omega) hJ4_ (by omega) hyT hplen hpa (by rw [hpl2]; exact Rd.of_own hc7_)) rfl ?_
         rintro e w' ⟨rfl, hb'⟩
         exact ⟨_, rfl, hb', ⟨(), rfl⟩⟩
        | 9, _ =>
         intro val w1 a hb ha hd;obtain ⟨_, e8⟩ := hd 8 (memB_mem.1 rfl);have ha := ha.s1 (d := 185) rfl e8
         exact hs_val ha rfl rfl (x_move rfl) rfl rfl
        | 10, _ =>
         intro val w1 a hb ha hd;have e9 : val 9 = _ := hd 9 (memB_mem.1 rfl);have ha := ha.s1 (d := 176) rfl e9
         exact hs_val ha rfl rfl (x_extract rfl rfl) rfl rfl
        | 11, _ =>
         intro val w1 a hb ha hd;have e9 : val 9 = _ := hd 9 (memB_mem.1 rfl);have ha := ha.s1 (d := 176) rfl e9
         exact hs_val ha rfl rfl (x_extract rfl rfl) rfl rfl
        | 12, _ =>
         intro val w1 a hb ha hd;have e9 : val 9 = _ := hd 9 (memB_mem.1 rfl);have ha := ha.s1 (d := 176) rfl e9
         exact hs_val ha rfl rfl (x_extract rfl rfl) rfl rfl
        | 13, _ =>
         intro val w1 a hb ha hd;have e9 : val 9 = _ := hd 9 (memB_mem.1 rfl);have ha := ha.s1 (d := 176) rfl e9
         exact hs_val ha rfl rfl (x_extract rfl rfl) rfl rfl
        | 14, _ =>
         intro val w1 a hb ha hd;have e10 : val 10 = _ := hd 10 (memB_mem.1 rfl);have ha := ha.s1 (d := 186) rfl e10
         exact hs_val ha rfl rfl (x_assign rfl) rfl rfl
        | 15, _ =>
         intro val w1 a hb ha hd;have e11 : val 11 = _ := hd 11 (memB_mem.1 rfl);have ha := ha.s1 (d := 187) rfl e11
         exact hs_val ha rfl rfl (x_assign rfl) rfl rfl
        | 16, _ =>
         intro val w1 a hb ha hd;have e12 : val 12 = _ := hd 12 (memB_mem.1 rfl);have ha := ha.s1 (d := 188) rfl e12
         exact hs_val ha rfl rfl (x_assign rfl) rfl rfl
        | 17, _ =>
         intro val w1 a hb ha hd;have e13 : val 13 = _ := hd 13 (memB_mem.1 rfl);have ha := ha.s1 (d := 189) rfl e13
         exact hs_val ha rfl rfl (x_assign rfl) rfl rfl
        | k + 18, h => exact absurd h (by omega)
       ·intro val wR22 hb halc hd
        have e0 : val 0 = _ := hd 0 (by omega)
        have e1 : val 1 = _ := hd 1 (by omega)
        obtain ⟨v2_, us2_, e2, hT2_⟩ := hd 2 (by omega)
        have e3 : val 3 = _ := hd 3 (by omega)
        obtain ⟨v4_, e4, hJ4_⟩ := hd 4 (by omega)
        obtain ⟨ga5_22, e5, qa5_22, hga5_22⟩ := hd 5 (by omega)
        change val 5 = _ at e5;change Blk wR22 ga5_22 70 #[] at qa5_22;have e6 : val 6 = _ := hd 6 (by omega)
        obtain ⟨Ac7_, cc7_, e7, hc7_⟩ := hd 7 (by omega)
        obtain ⟨_, e8⟩ := hd 8 (by omega)
        have e9 : val 9 = _ := hd 9 (by omega)
        have e10 : val 10 = _ := hd 10 (by omega)
        have e11 : val 11 = _ := hd 11 (by omega)
        have e12 : val 12 = _ := hd 12 (by omega)
        have e13 : val 13 = _ := hd 13 (by omega)
        have e14 : val 14 = _ := hd 14 (by omega)
        have e15 : val 15 = _ := hd 15 (by omega)
        have e16 : val 16 = _ := hd 16 (by omega)
        have e17 : val 17 = _ := hd 17 (by omega)
        refine EL.ends (cs := [_, _, _, _, _, _, _, _, _, _, _, _, _, _, _, _, _, _]) ⟨e0, e1, e2, e3, e4, e5, e6, e7, e8, e9, e10, e11, e12, e13, e14, e15, e16, e17, trivial⟩ rfl ?_;replace q1 := q1.bl hb;replace q2 := q2.bl hb;replace q3 := q3.bl hb;replace q5 := q5.bl hb;replace hjs := own_below hjs hb (Nat.le_refl _);replace hbp := own_below hbp hb (Nat.le_refl _);replace hL := hL.below hb;replace hst := own_below hst hb (Nat.le_refl _);have n1_16 : g1 ≠ ga5_22 := Nat.ne_of_lt (Nat.lt_of_lt_of_le lt_1 hga5_22);have n2_16 : g2 ≠ ga5_22 := Nat.ne_of_lt (Nat.lt_of_lt_of_le lt_2 hga5_22);have n3_16 : g3 ≠ ga5_22 := Nat.ne_of_lt (Nat.lt_of_lt_of_le lt_3 hga5_22);have n5_16 : g5 ≠ ga5_22 := Nat.ne_of_lt (Nat.lt_of_lt_of_le lt_5 hga5_22);have bhbw_16 := Nat.le_trans hbw.size hga5_22;have bhbo_16 := Nat.le_trans hbo.size hga5_22;replace hbw := bo_ hbw hb;replace hbo := bo_ hbo hb;clear hb;clear hT2_ hJ4_ hc7_;refine EL.nil (EX.seq (EC.seq (EC.seq (EC.region (EL.mv rfl rfl ?_)))));refine EL.val (x_neq (r := false) rfl rfl (decide_eq_false (fun h => h rfl))) rfl ?_
        refine EL.mv rfl rfl (EL.mg rfl rfl rfl rfl ?_);refine EL.valg rfl rfl (x_neq (r := false) rfl rfl (decide_eq_false (fun h => h hv2.1))) rfl ?_
        refine EL.pf rfl rfl rfl (EL.mv rfl rfl (EL.mg rfl rfl rfl rfl (EL.mg rfl rfl rfl rfl ?_)));refine EL.valg rfl rfl (x_neq (r := false) rfl rfl (decide_eq_false (fun h => h (by rw [hv2.2.2, hfl.cost])))) rfl ?_
        refine EL.pf rfl rfl rfl (EL.mv rfl rfl (EL.mg rfl rfl rfl rfl (EL.valg rfl rfl (ln_65 rfl) rfl (EL.mg rfl rfl rfl rfl (EL.valg rfl rfl (ln_22 rfl) rfl ?_)))));refine EL.valg rfl rfl (x_neq (r := false) rfl rfl (decide_eq_false (fun h => h (by rw [hlp])))) rfl ?_
        refine EL.pf rfl rfl rfl (EL.nil (EX.seq (EC.no rfl (EC.skip (EX.seq ?_)))));have hbl := Below.refl wR22.heap.size wR22;refine EC.cutD [6, 208, 209, 210, 211, 212, 213, 214, 215, 216, 217, 218, 219, 220, 221, 222, 223, 224, 225, 226, 227, 228, 229, 230, 231, 232, 233, 234] (fun _ : Unit => []) (fun _ W => Below wR22.heap.size wR22 W) ?_ ?_
        ·
         refine EC.seq (EC.region (EL.mv rfl rfl ?_))
         by_cases hb1 : (verT ru tt js xs).1 = -1
         ·
          obtain ⟨t_, ext, htr, hw1, hc1⟩ := hver.run hb1;obtain ⟨hn1, hn2⟩ := not_better hfl htr;refine EL.val (x_eql (r := true) rfl rfl (decide_eq_true hb1)) rfl (EL.mv rfl rfl (EL.mg rfl rfl rfl rfl (EL.mg rfl rfl rfl rfl ?_)));refine EL.valg rfl rfl (x_lss (r := false) rfl rfl (decide_eq_false (by rw [hw1, hv2.2.1]; omega))) rfl ?_
          refine EL.mg rfl rfl rfl rfl (EL.mg rfl rfl rfl rfl (EL.mg rfl rfl rfl rfl ?_))
          by_cases he1 : (verT ru tt js xs).2.1 = (verT ru tt js (pp.map toStp)).2.1
          ·
           obtain ⟨hn3, hn4⟩ := hn2 (by rw [← hw1, ← hv2.2.1]; exact he1)
           refine EL.valg rfl rfl (x_eql (r := true) rfl rfl (decide_eq_true he1)) rfl (EL.mg rfl rfl rfl rfl (EL.mg rfl rfl rfl rfl (EL.mg rfl rfl rfl rfl ?_)));refine EL.valg rfl rfl (x_lss (r := false) rfl rfl (decide_eq_false (by rw [hc1]; omega))) rfl ?_
           refine EL.mg rfl rfl rfl rfl (EL.mg rfl rfl rfl rfl (EL.mg rfl rfl rfl rfl ?_))
           by_cases he2 : (verT ru tt js xs).2.2 = op
           ·
            have hls := hn4 (by rw [← hc1]; exact he2)
            rw [← ext] at hls;refine EL.valg rfl rfl (x_eql (r := true) rfl rfl (decide_eq_true he2)) rfl (EL.mg rfl rfl rfl rfl (EL.mg rfl rfl rfl rfl (EL.mg rfl rfl rfl rfl ?_)));refine EL.callg rfl rfl (cA2 cF44 rfl rfl) rfl (less_no hls (by rw [hxl]; exact Rd.of_own hst) (by rw [← sts_stps, hpl2]; exact Rd.of_own hbp) (Nat.le_refl _) (by rw [hxl, hplen]) (by omega)) ?_
            rintro e w17 ⟨rfl, hc17⟩
            refine ⟨_, rfl, ?_⟩;replace q1 := q1.bl hc17;replace q2 := q2.bl hc17;replace q3 := q3.bl hc17;replace q5 := q5.bl hc17;replace hjs := own_below hjs hc17 (Nat.le_refl _);replace hbp := own_below hbp hc17 (Nat.le_refl _);replace hL := hL.below hc17;replace hst := own_below hst hc17 (Nat.le_refl _);replace hbw := bo_ hbw hc17;replace hbo := bo_ hbo hc17;replace hbl := bo_ hbl hc17;clear hc17;refine EL.valg rfl rfl (x_pick_t rfl rfl) rfl (EL.valg rfl rfl (x_pick_f rfl rfl) rfl (EL.valg rfl rfl (x_pick_t rfl rfl) rfl (EL.valg rfl rfl (x_pick_f rfl rfl) rfl (EL.pt rfl rfl rfl (EL.nil (EX.seq (EC.no rfl (EC.skip ?_))))))))
            exact EX.cutE () trivial (by repeat first | with_reducible exact (Sub.refl _).del _ | refine sp_ rfl ?_ | exact (Sub.refl _).del _ | refine sd_ rfl ?_ | refine sn_ ?_) hbl
           ·
            refine EL.valg rfl rfl (x_eql (r := false) rfl rfl (decide_eq_false he2)) rfl (EL.mg rfl rfl rfl rfl (EL.skip rfl rfl rfl rfl (EL.skip rfl rfl rfl rfl (EL.skip rfl rfl rfl rfl (EL.valg rfl rfl (x_pick_f rfl rfl) rfl (EL.valg rfl rfl (x_pick_f rfl rfl) rfl (EL.valg rfl rfl (x_pick_t rfl rfl) rfl (EL.valg rfl rfl (x_pick_f rfl rfl) rfl (EL.pt rfl rfl rfl ?_)))))))));refine EL.nil (EX.seq (EC.no rfl (EC.skip ?_)))
            exact EX.cutE () trivial (by repeat first | with_reducible exact (Sub.refl _).del _ | refine sp_ rfl ?_ | exact (Sub.refl _).del _ | refine sd_ rfl ?_ | refine sn_ ?_) hbl
          ·
           refine EL.valg rfl rfl (x_eql (r := false) rfl rfl (decide_eq_false he1)) rfl (EL.mg rfl rfl rfl rfl (EL.skip rfl rfl rfl rfl (EL.skip rfl rfl rfl rfl (EL.skip rfl rfl rfl rfl (EL.skip rfl rfl rfl rfl (EL.skip rfl rfl rfl rfl (EL.skip rfl rfl rfl rfl (EL.skip rfl rfl rfl rfl (EL.skip rfl rfl rfl rfl ?_)))))))));refine EL.skip rfl rfl rfl rfl (EL.skip rfl rfl rfl rfl (EL.skip rfl rfl rfl rfl (EL.skip rfl rfl rfl rfl (EL.skip rfl rfl rfl rfl (EL.valg rfl rfl (x_pick_f rfl rfl) rfl (EL.valg rfl rfl (x_pick_f rfl rfl) rfl (EL.pt rfl rfl rfl (EL.nil (EX.seq ?_)))))))));refine EC.no rfl (EC.skip ?_)
           exact EX.cutE () trivial (by repeat first | with_reducible exact (Sub.refl _).del _ | refine sp_ rfl ?_ | exact (Sub.refl _).del _ | refine sd_ rfl ?_ | refine sn_ ?_) hbl
         ·
          refine EL.val (x_eql (r := false) rfl rfl (decide_eq_false hb1)) rfl (EL.mv rfl rfl (EL.skip rfl rfl rfl rfl (EL.skip rfl rfl rfl rfl (EL.skip rfl rfl rfl rfl (EL.skip rfl rfl rfl rfl (EL.skip rfl rfl rfl rfl (EL.skip rfl rfl rfl rfl (EL.skip rfl rfl rfl rfl (EL.skip rfl rfl rfl rfl ?_)))))))));refine EL.skip rfl rfl rfl rfl (EL.skip rfl rfl rfl rfl (EL.skip rfl rfl rfl rfl (EL.skip rfl rfl rfl rfl (EL.skip rfl rfl rfl rfl (EL.skip rfl rfl rfl rfl (EL.skip rfl rfl rfl rfl (EL.skip rfl rfl rfl rfl (EL.skip rfl rfl rfl rfl (EL.skip rfl rfl rfl rfl ?_)))))))));refine EL.skip rfl rfl rfl rfl (EL.skip rfl rfl rfl rfl (EL.skip rfl rfl rfl rfl (EL.skip rfl rfl rfl rfl (EL.skip rfl rfl rfl rfl (EL.pf rfl rfl rfl (EL.nil (EX.seq (EC.no rfl (EC.skip ?_)))))))))
          exact EX.cutE () trivial (by repeat first | with_reducible exact (Sub.refl _).del _ | refine sp_ rfl ?_ | exact (Sub.refl _).del _ | refine sd_ rfl ?_ | refine sn_ ?_) hbl
        ·
         clear hbl
         rintro _ W25 hbl
         replace q1 := q1.bl hbl;replace q2 := q2.bl hbl;replace q3 := q3.bl hbl;replace q5 := q5.bl hbl;replace hjs := own_below hjs hbl (Nat.le_refl _);replace hbp := own_below hbp hbl (Nat.le_refl _);replace hL := hL.below hbl;replace hst := own_below hst hbl (Nat.le_refl _);replace hbw := bo_ hbw hbl;replace hbo := bo_ hbo hbl;clear hbl;refine EC.seq ?_;obtain ⟨ga, da, hea, _, _⟩ := own_shapeZ hL.own (by omega) (by omega)
         injection hea with hea1 _ hea2
         have hcapt := own_capV hL.own;have lt_1 := q1.lt;have lt_2 := q2.lt;have lt_3 := q3.lt;have lt_5 := q5.lt;refine EC.regionP [[], [], [1], [1, 2], [], [1, 2, 3, 4], [0, 1, 2, 3, 4, 5], [0, 1, 2, 3, 4, 5, 6], [0, 1, 2, 3, 4, 5, 6, 7], [0, 1, 2, 3, 4, 5, 6, 7], [0, 1, 2, 3, 4, 5, 6, 7], [0, 1, 2, 3, 4, 5, 6, 7], [0, 1, 2, 3, 4, 5, 6, 7, 8], [0, 1, 2, 3, 4, 5, 6, 7, 8, 9, 12], [0, 1, 2, 3, 4, 5, 6, 7, 8, 9, 10, 12, 13], [0, 1, 2, 3, 4, 5, 6, 7, 8, 9, 10, 11, 12, 13, 14]] 16 [] (phi (fun i_ r => match i_ with | 0 => r 0 = .agg #[.slice Al ru.levels.length cl, .int .i64 ru.fade.lo, .int .i64 ru.fade.hi, .slice Aa ru.allow.length ca, .slice Ap ru.apart.length cp, .slice Ak ru.kinds.length ck] | 1 => r 1 = .slice At tt.length ct | 2 => r 2 = .slice (some ⟨ga, 0, none⟩) 1 ct | 4 => r 4 = .slice Aj js.length cj | 10 => r 10 = .int .i64 ((atF ru [l] js) : Nat) | 11 => r 11 = .int .i64 (codeF ru [l] js) | 14 => r 14 = .int .i64 ((atF ru [l] js) : Nat) | 15 => r 15 = .int .i64 (codeF ru [l] js) | _ => True) [(3, fun r w_ => ∃ v us_, r 3 = v ∧ RdLL evC 2 w_ w_.heap.size v [l] us_), (5, fun r w_ => ∃ v, r 5 = v ∧ Rd w_ w_.heap.size 1 v js.length (ints js)), (6, fun r w_ => ∃ (A : Option Addr) (c : Nat) (ws : List St) (co : Int), r 6 = .tuple #[.slice A ws.length c, .int .i64 co, .int .i64 ((atF ru [l] js) : Nat), .int .i64 (codeF ru [l] js)] ∧ w_.ownsRow 0 70 2 (.slice A ws.length c) ws.length (stsC ws) ∧ FleetW ru [l] js ws co), (7, fun r w_ => ∃ (A : Option Addr) (c : Nat) (ws : List St) (co : Int), r 6 = .tuple #[.slice A ws.length c, .int .i64 co, .int .i64 ((atF ru [l] js) : Nat), .int .i64 (codeF ru [l] js)] ∧ r 7 = .tuple #[.slice A ws.length c, .int .i64 co, .int .i64 ((atF ru [l] js) : Nat), .int .i64 (codeF ru [l] js)]), (8, fun r w_ => ∃ (A : Option Addr) (c : Nat) (ws : List St) (co : Int), r 6 = .tuple #[.slice A ws.length c, .int .i64 co, .int .i64 ((atF ru [l] js) : Nat), .int .i64 (codeF ru [l] js)] ∧ r 8 = .slice A ws.length c), (9, fun r w_ => ∃ (A : Option Addr) (c : Nat) (ws : List St) (co : Int), r 6 = .tuple #[.slice A ws.length c, .int .i64 co, .int .i64 ((atF ru [l] js) : Nat), .int .i64 (codeF ru [l] js)] ∧ r 9 = .int .i64 co), (12, fun r w_ => ∃ (A : Option Addr) (c : Nat) (ws : List St) (co : Int), r 6 = .tuple #[.slice A ws.length c, .int .i64 co, .int .i64 ((atF ru [l] js) : Nat), .int .i64 (codeF ru [l] js)] ∧ r 12 = .slice A ws.length c), (13, fun r w_ => ∃ (A : Option Addr) (c : Nat) (ws : List St) (co : Int), r 6 = .tuple #[.slice A ws.length c, .int .i64 co, .int .i64 ((atF ru [l] js) : Nat), .int .i64 (codeF ru [l] js)] ∧ r 13 = .int .i64 co)]) (by kernel_rfl) rfl rfl (phi_cons (fun _ _ _ hb ⟨v, us_, h1, h2⟩ => ⟨v, us_, h1, (h2.below hb).more hb.size⟩) (phi_cons mono_rd2 (phi_cons (fun _ _ _ hb ⟨A, c, ws, co, h1, h2, h3⟩ => ⟨A, c, ws, co, h1, own_below h2 hb (Nat.le_refl _), h3⟩) (phi_cons (fun _ _ _ _ h => h) (phi_cons (fun _ _ _ _ h => h) (phi_cons (fun _ _ _ _ h => h) (phi_cons (fun _ _ _ _ h => h) (phi_cons (fun _ _ _ _ h => h) (phi_nil))))))))) (fun i_ hi_ => ?_) ?_
         ·match i_, hi_ with
          | 0, _ =>
           intro val w1 a hb ha hd;have ha := ha.s0 (d := 7) rfl
           exact hs_val ha rfl rfl (ld_28 rfl ((q5.below hb q5.lt).at (j := 0) rfl) ((q5.below hb q5.lt).at (j := 1) rfl) ((q5.below hb q5.lt).at (j := 2) rfl) ((q5.below hb q5.lt).at (j := 3) rfl) ((q5.below hb q5.lt).at (j := 4) rfl) ((q5.below hb q5.lt).at (j := 5) rfl)) rfl rfl
          | 1, _ =>
           intro val w1 a hb ha hd;have ha := ha.s0 (d := 8) rfl
           exact hs_val ha rfl rfl (x_move rfl) rfl rfl
          | 2, _ =>
           intro val w1 a hb ha hd;have e1 : val 1 = _ := hd 1 (memB_mem.1 rfl);have ha := ha.s1 (d := 237) rfl e1
           exact hs_val ha rfl rfl (slh_96 (hi := 1) (by show some (Value.slice At _ _) = _; rw [hea1]) rfl (by omega)) rfl rfl
          | 3, _ =>
           intro val w1 a hb ha hd;have e2 : val 2 = _ := hd 2 (memB_mem.1 rfl);have ha := ha.s1 (d := 238) rfl e2;have hT1 := rdLL_one (show RdLL evC 2 w1 w1.heap.size (.slice (some ⟨ga, 0, none⟩) tt.length ct) tt us by rw [← hea1]; exact (hL.below hb).rd) (by omega) hT0
           refine hs_call ha rfl rfl (cA1 cF39 rfl) (all_any hT1 (Nat.le_refl _) (by simp) (one_htn hl30)) rfl ?_
           rintro e w' ⟨⟨v2, us2, rfl, hJ⟩, hb'⟩
           exact ⟨_, rfl, hb', ⟨v2, us2, rfl, hJ⟩⟩
          | 4, _ =>
           intro val w1 a hb ha hd;have ha := ha.s0 (d := 9) rfl
           exact hs_val ha rfl rfl (x_move rfl) rfl rfl
          | 5, _ =>
           intro val w1 a hb ha hd;have e4 : val 4 = _ := hd 4 (memB_mem.1 rfl);have ha := ha.s1 (d := 240) rfl e4;refine hs_call ha rfl rfl (cA1 cF23 rfl) (numbers_any (Rd.of_own (own_below hjs hb (Nat.le_refl _))) (Nat.le_refl _) (by omega)) rfl ?_
           rintro e w' ⟨⟨v2, rfl, hJ⟩, hb'⟩
           exact ⟨_, rfl, hb', ⟨v2, rfl, Rd.of_own hJ⟩⟩
          | 6, _ =>
           intro val w1 a hb ha hd;have e0 : val 0 = _ := hd 0 (memB_mem.1 rfl);obtain ⟨v3_, us3_, e3, hT3_⟩ := hd 3 (memB_mem.1 rfl);obtain ⟨v5_, e5, hJ5_⟩ := hd 5 (memB_mem.1 rfl);have ha := ha.sub (Sub.ins (d := 241) (Sub.ins (d := 239) (Sub.ins (d := 236) (Sub.nil _) (dep_get rfl e0)) (dep_get rfl e3)) (dep_get rfl e5));refine hs_call ha rfl rfl (cA3 cF38 rfl rfl rfl) (Fleet_to ((hR.below (hbo.trans (hb.mono hbo.size))).more (Nat.le_trans hbo.size hb.size)) (Nat.le_refl _) hs hT3_ (one_htn hl30) (by first | omega | (simp; done)) hJ5_ (by omega)) rfl ?_
           rintro e w' ⟨⟨A, c, ws, co, rfl, ho, hf⟩, hb'⟩
           exact ⟨_, rfl, hb', ⟨A, c, ws, co, rfl, own_less ho (Nat.zero_le _), hf⟩⟩
          | 7, _ =>
           intro val w1 a hb ha hd;obtain ⟨Ar, cr, qq, oq, e6, hbq, hfq⟩ := hd 6 (memB_mem.1 rfl);have ha := ha.s1 (d := 242) rfl e6
           exact hs_val ha rfl rfl (x_move rfl) ⟨_, _, _, _, e6, rfl⟩ rfl
          | 8, _ =>
           intro val w1 a hb ha hd;obtain ⟨A7_, c7_, u7_, o7_, x7_, e7⟩ := hd 7 (memB_mem.1 rfl);have ha := ha.s1 (d := 235) rfl e7
           exact hs_val ha rfl rfl (x_extract rfl rfl) ⟨_, _, _, _, x7_, rfl⟩ rfl
          | 9, _ =>
           intro val w1 a hb ha hd;obtain ⟨A7_, c7_, u7_, o7_, x7_, e7⟩ := hd 7 (memB_mem.1 rfl);have ha := ha.s1 (d := 235) rfl e7
           exact hs_val ha rfl rfl (x_extract rfl rfl) ⟨_, _, _, _, x7_, rfl⟩ rfl
          | 10, _ =>
           intro val w1 a hb ha hd;obtain ⟨A7_, c7_, u7_, o7_, x7_, e7⟩ := hd 7 (memB_mem.1 rfl);have ha := ha.s1 (d := 235) rfl e7
           exact hs_val ha rfl rfl (x_extract rfl rfl) rfl rfl
          | 11, _ =>
           intro val w1 a hb ha hd;obtain ⟨A7_, c7_, u7_, o7_, x7_, e7⟩ := hd 7 (memB_mem.1 rfl);have ha := ha.s1 (d := 235) rfl e7
           exact hs_val ha rfl rfl (x_extract rfl rfl) rfl rfl
          | 12, _ =>
           intro val w1 a hb ha hd;obtain ⟨A8_, c8_, u8_, o8_, x8_, e8⟩ := hd 8 (memB_mem.1 rfl);have ha := ha.s1 (d := 243) rfl e8
           exact hs_val ha rfl rfl (x_assign rfl) ⟨_, _, _, _, x8_, rfl⟩ rfl
          | 13, _ =>
           intro val w1 a hb ha hd;obtain ⟨A9_, c9_, u9_, o9_, x9_, e9⟩ := hd 9 (memB_mem.1 rfl);have ha := ha.s1 (d := 244) rfl e9
           exact hs_val ha rfl rfl (x_assign rfl) ⟨_, _, _, _, x9_, rfl⟩ rfl
          | 14, _ =>
           intro val w1 a hb ha hd;have e10 : val 10 = _ := hd 10 (memB_mem.1 rfl);have ha := ha.s1 (d := 245) rfl e10
           exact hs_val ha rfl rfl (x_assign rfl) rfl rfl
          | 15, _ =>
           intro val w1 a hb ha hd;have e11 : val 11 = _ := hd 11 (memB_mem.1 rfl);have ha := ha.s1 (d := 246) rfl e11
           exact hs_val ha rfl rfl (x_assign rfl) rfl rfl
          | k + 16, h => exact absurd h (by omega)
         ·intro val wR27 hb halc hd
          have e0 : val 0 = _ := hd 0 (by omega)
          have e1 : val 1 = _ := hd 1 (by omega)
          have e2 : val 2 = _ := hd 2 (by omega)
          obtain ⟨v3_, us3_, e3, hT3_⟩ := hd 3 (by omega)
          have e4 : val 4 = _ := hd 4 (by omega)
          obtain ⟨v5_, e5, hJ5_⟩ := hd 5 (by omega)
          obtain ⟨Ar, cr, qq, oq, e6, hbq, hfq⟩ := hd 6 (by omega)
          obtain ⟨A7_, c7_, u7_, o7_, x7_, e7⟩ := hd 7 (by omega)
          obtain ⟨A8_, c8_, u8_, o8_, x8_, e8⟩ := hd 8 (by omega)
          obtain ⟨A9_, c9_, u9_, o9_, x9_, e9⟩ := hd 9 (by omega)
          have e10 : val 10 = _ := hd 10 (by omega)
          have e11 : val 11 = _ := hd 11 (by omega)
          obtain ⟨A12_, c12_, u12_, o12_, x12_, e12⟩ := hd 12 (by omega)
          obtain ⟨A13_, c13_, u13_, o13_, x13_, e13⟩ := hd 13 (by omega)
          have e14 : val 14 = _ := hd 14 (by omega)
          have e15 : val 15 = _ := hd 15 (by omega)
          have y7_ := tupA4 (e6.symm.trans x7_);rw [← y7_.1, ← y7_.2] at e7;have y8_ := tupA4 (e6.symm.trans x8_);rw [← y8_.1] at e8;have y9_ := tupA4 (e6.symm.trans x9_);rw [← y9_.2] at e9;have y12_ := tupA4 (e6.symm.trans x12_);rw [← y12_.1] at e12;have y13_ := tupA4 (e6.symm.trans x13_);rw [← y13_.2] at e13;refine EL.ends (cs := [_, _, _, _, _, _, _, _, _, _, _, _, _, _, _, _]) ⟨e0, e1, e2, e3, e4, e5, e6, e7, e8, e9, e10, e11, e12, e13, e14, e15, trivial⟩ rfl ?_;replace q1 := q1.bl hb;replace q2 := q2.bl hb;replace q3 := q3.bl hb;replace q5 := q5.bl hb;replace hjs := own_below hjs hb (Nat.le_refl _);replace hbp := own_below hbp hb (Nat.le_refl _);replace hL := hL.below hb;replace hst := own_below hst hb (Nat.le_refl _);replace hbw := bo_ hbw hb;replace hbo := bo_ hbo hb;clear hb;clear hT3_ hJ5_;refine EL.nil (EX.seq (EC.seq ?_));have hr0 := hL.rows 0 (by omega)
          rw [hT0] at hr0;obtain ⟨Ah, ch, heh, _⟩ := (Rd.of_own hr0).shape;rw [heh] at hr0;obtain ⟨bu, ou, eu, _, hcu⟩ := vals_cells us 0 (by rw [hL.len]; omega) wR27 wR27.heap.size _ _ _ hL.rd.rd
          rw [heh] at hcu;have lt_1 := q1.lt;have lt_2 := q2.lt;have lt_3 := q3.lt;have lt_5 := q5.lt;refine EC.regionP [[], [], [1], [1, 2], [1, 2, 3], [], [1, 2, 3, 4, 5], [0, 1, 2, 3, 4, 5, 6], [0, 1, 2, 3, 4, 5, 6, 7], [0, 1, 2, 3, 4, 5, 6, 7, 8], [0, 1, 2, 3, 4, 5, 6, 7, 8], [0, 1, 2, 3, 4, 5, 6, 7, 8], [0, 1, 2, 3, 4, 5, 6, 7, 8], [0, 1, 2, 3, 4, 5, 6, 7, 8, 9], [0, 1, 2, 3, 4, 5, 6, 7, 8, 9, 10, 13], [0, 1, 2, 3, 4, 5, 6, 7, 8, 9, 10, 11, 13, 14], [0, 1, 2, 3, 4, 5, 6, 7, 8, 9, 10, 11, 12, 13, 14, 15]] 17 [] (phi (fun i_ r => match i_ with | 0 => r 0 = .agg #[.slice Al ru.levels.length cl, .int .i64 ru.fade.lo, .int .i64 ru.fade.hi, .slice Aa ru.allow.length ca, .slice Ap ru.apart.length cp, .slice Ak ru.kinds.length ck] | 1 => r 1 = .slice At tt.length ct | 2 => r 2 = .pointer (some ⟨bu, ou + 0, none⟩) | 3 => r 3 = .slice Ah l.length ch | 5 => r 5 = .slice Aj js.length cj | 11 => r 11 = .int .i64 ((atS ru l js) : Nat) | 12 => r 12 = .int .i64 (codeS ru l js) | 15 => r 15 = .int .i64 ((atS ru l js) : Nat) | 16 => r 16 = .int .i64 (codeS ru l js) | _ => True) [(4, fun r w_ => ∃ v, r 4 = v ∧ Rd w_ w_.heap.size 2 v l.length (evsC l)), (6, fun r w_ => ∃ v, r 6 = v ∧ Rd w_ w_.heap.size 1 v js.length (ints js)), (7, fun r w_ => ∃ (A : Option Addr) (c : Nat) (ws : List Int) (co : Int), r 7 = .tuple #[.slice A ws.length c, .int .i64 co, .int .i64 ((atS ru l js) : Nat), .int .i64 (codeS ru l js)] ∧ w_.ownsRow 0 3 1 (.slice A ws.length c) ws.length (ints ws) ∧ PlanB ru l js ws co), (8, fun r w_ => ∃ (A : Option Addr) (c : Nat) (ws : List Int) (co : Int), r 7 = .tuple #[.slice A ws.length c, .int .i64 co, .int .i64 ((atS ru l js) : Nat), .int .i64 (codeS ru l js)] ∧ r 8 = .tuple #[.slice A ws.length c, .int .i64 co, .int .i64 ((atS ru l js) : Nat), .int .i64 (codeS ru l js)]), (9, fun r w_ => ∃ (A : Option Addr) (c : Nat) (ws : List Int) (co : Int), r 7 = .tuple #[.slice A ws.length c, .int .i64 co, .int .i64 ((atS ru l js) : Nat), .int .i64 (codeS ru l js)] ∧ r 9 = .slice A ws.length c), (10, fun r w_ => ∃ (A : Option Addr) (c : Nat) (ws : List Int) (co : Int), r 7 = .tuple #[.slice A ws.length c, .int .i64 co, .int .i64 ((atS ru l js) : Nat), .int .i64 (codeS ru l js)] ∧ r 10 = .int .i64 co), (13, fun r w_ => ∃ (A : Option Addr) (c : Nat) (ws : List Int) (co : Int), r 7 = .tuple #[.slice A ws.length c, .int .i64 co, .int .i64 ((atS ru l js) : Nat), .int .i64 (codeS ru l js)] ∧ r 13 = .slice A ws.length c), (14, fun r w_ => ∃ (A : Option Addr) (c : Nat) (ws : List Int) (co : Int), r 7 = .tuple #[.slice A ws.length c, .int .i64 co, .int .i64 ((atS ru l js) : Nat), .int .i64 (codeS ru l js)] ∧ r 14 = .int .i64 co)]) (by kernel_rfl) rfl rfl (phi_cons mono_rd2 (phi_cons mono_rd2 (phi_cons (fun _ _ _ hb ⟨A, c, ws, co, h1, h2, h3⟩ => ⟨A, c, ws, co, h1, own_below h2 hb (Nat.le_refl _), h3⟩) (phi_cons (fun _ _ _ _ h => h) (phi_cons (fun _ _ _ _ h => h) (phi_cons (fun _ _ _ _ h => h) (phi_cons (fun _ _ _ _ h => h) (phi_cons (fun _ _ _ _ h => h) (phi_nil))))))))) (fun i_ hi_ => ?_) ?_
          ·match i_, hi_ with
           | 0, _ =>
            intro val w1 a hb ha hd;have ha := ha.s0 (d := 7) rfl
            exact hs_val ha rfl rfl (ld_28 rfl ((q5.below hb q5.lt).at (j := 0) rfl) ((q5.below hb q5.lt).at (j := 1) rfl) ((q5.below hb q5.lt).at (j := 2) rfl) ((q5.below hb q5.lt).at (j := 3) rfl) ((q5.below hb q5.lt).at (j := 4) rfl) ((q5.below hb q5.lt).at (j := 5) rfl)) rfl rfl
           | 1, _ =>
            intro val w1 a hb ha hd;have ha := ha.s0 (d := 8) rfl
            exact hs_val ha rfl rfl (x_move rfl) rfl rfl
           | 2, _ =>
            intro val w1 a hb ha hd;have e1 : val 1 = _ := hd 1 (memB_mem.1 rfl);have ha := ha.s1 (d := 249) rfl e1
            exact hs_val ha rfl rfl (ix_96 (k := 0) (by show some (Value.slice At _ _) = _; rw [eu]) rfl (by omega)) rfl rfl
           | 3, _ =>
            intro val w1 a hb ha hd;have e2 : val 2 = _ := hd 2 (memB_mem.1 rfl);have ha := ha.s1 (d := 250) rfl e2
            exact hs_val ha rfl rfl (ld_29 rfl (below_load hb hcu)) rfl rfl
           | 4, _ =>
            intro val w1 a hb ha hd;have e3 : val 3 = _ := hd 3 (memB_mem.1 rfl);have ha := ha.s1 (d := 251) rfl e3;refine hs_call ha rfl rfl (cA1 cF15 rfl) (events_any (Rd.of_own (own_below hr0 hb (Nat.le_refl _))) (Nat.le_refl _) (by omega)) rfl ?_
            rintro e w' ⟨⟨v2, rfl, hJ⟩, hb'⟩
            exact ⟨_, rfl, hb', ⟨v2, rfl, Rd.of_own hJ⟩⟩
           | 5, _ =>
            intro val w1 a hb ha hd;have ha := ha.s0 (d := 9) rfl
            exact hs_val ha rfl rfl (x_move rfl) rfl rfl
           | 6, _ =>
            intro val w1 a hb ha hd;have e5 : val 5 = _ := hd 5 (memB_mem.1 rfl);have ha := ha.s1 (d := 253) rfl e5;refine hs_call ha rfl rfl (cA1 cF23 rfl) (numbers_any (Rd.of_own (own_below hjs hb (Nat.le_refl _))) (Nat.le_refl _) (by omega)) rfl ?_
            rintro e w' ⟨⟨v2, rfl, hJ⟩, hb'⟩
            exact ⟨_, rfl, hb', ⟨v2, rfl, Rd.of_own hJ⟩⟩
           | 7, _ =>
            intro val w1 a hb ha hd;have e0 : val 0 = _ := hd 0 (memB_mem.1 rfl);obtain ⟨v4_, e4, hJ4_⟩ := hd 4 (memB_mem.1 rfl);obtain ⟨v6_, e6, hJ6_⟩ := hd 6 (memB_mem.1 rfl);have ha := ha.sub (Sub.ins (d := 254) (Sub.ins (d := 252) (Sub.ins (d := 248) (Sub.nil _) (dep_get rfl e0)) (dep_get rfl e4)) (dep_get rfl e6));refine hs_call ha rfl rfl (cA3 cF24 rfl rfl rfl) (Planb_to ((hR.below (hbo.trans (hb.mono hbo.size))).more (Nat.le_trans hbo.size hb.size)) (Nat.le_refl _) hs hJ4_ (by omega) hJ6_ (by omega)) rfl ?_
            rintro e w' ⟨⟨A, c, ws, co, rfl, ho, hf⟩, hb'⟩
            exact ⟨_, rfl, hb', ⟨A, c, ws, co, rfl, own_less ho (Nat.zero_le _), hf⟩⟩
           | 8, _ =>
            intro val w1 a hb ha hd;obtain ⟨Ao, co_, ww, ow, e7, hbo_, hfo⟩ := hd 7 (memB_mem.1 rfl);have ha := ha.s1 (d := 255) rfl e7
            exact hs_val ha rfl rfl (x_move rfl) ⟨_, _, _, _, e7, rfl⟩ rfl
           | 9, _ =>
            intro val w1 a hb ha hd;obtain ⟨A8_, c8_, u8_, o8_, x8_, e8⟩ := hd 8 (memB_mem.1 rfl);have ha := ha.s1 (d := 247) rfl e8
            exact hs_val ha rfl rfl (x_extract rfl rfl) ⟨_, _, _, _, x8_, rfl⟩ rfl
           | 10, _ =>
            intro val w1 a hb ha hd;obtain ⟨A8_, c8_, u8_, o8_, x8_, e8⟩ := hd 8 (memB_mem.1 rfl);have ha := ha.s1 (d := 247) rfl e8
            exact hs_val ha rfl rfl (x_extract rfl rfl) ⟨_, _, _, _, x8_, rfl⟩ rfl
           | 11, _ =>
            intro val w1 a hb ha hd;obtain ⟨A8_, c8_, u8_, o8_, x8_, e8⟩ := hd 8 (memB_mem.1 rfl);have ha := ha.s1 (d := 247) rfl e8
            exact hs_val ha rfl rfl (x_extract rfl rfl) rfl rfl
           | 12, _ =>
            intro val w1 a hb ha hd;obtain ⟨A8_, c8_, u8_, o8_, x8_, e8⟩ := hd 8 (memB_mem.1 rfl);have ha := ha.s1 (d := 247) rfl e8
            exact hs_val ha rfl rfl (x_extract rfl rfl) rfl rfl
           | 13, _ =>
            intro val w1 a hb ha hd;obtain ⟨A9_, c9_, u9_, o9_, x9_, e9⟩ := hd 9 (memB_mem.1 rfl);have ha := ha.s1 (d := 256) rfl e9
            exact hs_val ha rfl rfl (x_assign rfl) ⟨_, _, _, _, x9_, rfl⟩ rfl
           | 14, _ =>
            intro val w1 a hb ha hd;obtain ⟨A10_, c10_, u10_, o10_, x10_, e10⟩ := hd 10 (memB_mem.1 rfl);have ha := ha.s1 (d := 257) rfl e10
            exact hs_val ha rfl rfl (x_assign rfl) ⟨_, _, _, _, x10_, rfl⟩ rfl
           | 15, _ =>
            intro val w1 a hb ha hd;have e11 : val 11 = _ := hd 11 (memB_mem.1 rfl);have ha := ha.s1 (d := 258) rfl e11
            exact hs_val ha rfl rfl (x_assign rfl) rfl rfl
           | 16, _ =>
            intro val w1 a hb ha hd;have e12 : val 12 = _ := hd 12 (memB_mem.1 rfl);have ha := ha.s1 (d := 259) rfl e12
            exact hs_val ha rfl rfl (x_assign rfl) rfl rfl
           | k + 17, h => exact absurd h (by omega)
          ·intro val wR28 hb halc hd
           have e0 : val 0 = _ := hd 0 (by omega)
           have e1 : val 1 = _ := hd 1 (by omega)
           have e2 : val 2 = _ := hd 2 (by omega)
           have e3 : val 3 = _ := hd 3 (by omega)
           obtain ⟨v4_, e4, hJ4_⟩ := hd 4 (by omega)
           have e5 : val 5 = _ := hd 5 (by omega)
           obtain ⟨v6_, e6, hJ6_⟩ := hd 6 (by omega)
           obtain ⟨Ao, co_, ww, ow, e7, hbo_, hfo⟩ := hd 7 (by omega)
           obtain ⟨A8_, c8_, u8_, o8_, x8_, e8⟩ := hd 8 (by omega)
           obtain ⟨A9_, c9_, u9_, o9_, x9_, e9⟩ := hd 9 (by omega)
           obtain ⟨A10_, c10_, u10_, o10_, x10_, e10⟩ := hd 10 (by omega)
           have e11 : val 11 = _ := hd 11 (by omega)
           have e12 : val 12 = _ := hd 12 (by omega)
           obtain ⟨A13_, c13_, u13_, o13_, x13_, e13⟩ := hd 13 (by omega)
           obtain ⟨A14_, c14_, u14_, o14_, x14_, e14⟩ := hd 14 (by omega)
           have e15 : val 15 = _ := hd 15 (by omega)
           have e16 : val 16 = _ := hd 16 (by omega)
           have y8_ := tupA4 (e7.symm.trans x8_);rw [← y8_.1, ← y8_.2] at e8;have y9_ := tupA4 (e7.symm.trans x9_);rw [← y9_.1] at e9;have y10_ := tupA4 (e7.symm.trans x10_);rw [← y10_.2] at e10;have y13_ := tupA4 (e7.symm.trans x13_);rw [← y13_.1] at e13;have y14_ := tupA4 (e7.symm.trans x14_);rw [← y14_.2] at e14;refine EL.ends (cs := [_, _, _, _, _, _, _, _, _, _, _, _, _, _, _, _, _]) ⟨e0, e1, e2, e3, e4, e5, e6, e7, e8, e9, e10, e11, e12, e13, e14, e15, e16, trivial⟩ rfl ?_;replace q1 := q1.bl hb;replace q2 := q2.bl hb;replace q3 := q3.bl hb;replace q5 := q5.bl hb;replace hjs := own_below hjs hb (Nat.le_refl _);replace hbp := own_below hbp hb (Nat.le_refl _);replace hL := hL.below hb;replace hst := own_below hst hb (Nat.le_refl _);replace hbq := own_below hbq hb (Nat.le_refl _);replace hbw := bo_ hbw hb;replace hbo := bo_ hbo hb;clear hb;clear hJ4_ hJ6_ hr0 hcu;have hcode1 := codeF_one (l := l) (js := js) hrb hz hjE (by omega)
           obtain ⟨hsm1, hsm2, hsm3, hsm4⟩ := same_one hfq hfo hcode1;refine EL.nil (EX.seq ?_);refine EC.cutD [6, 260, 261, 262, 263, 264, 265, 266, 267, 268, 269, 270, 271, 272, 273, 274, 275, 276, 277, 278, 279, 280, 281, 282] (fun _ : Unit => []) (fun _ W => wR28 = W) ?_ ?_
           ·
            refine EC.seq (EC.region (EL.mv rfl rfl (EL.mv rfl rfl ?_)));refine EL.val (x_neq (r := false) rfl rfl (decide_eq_false (fun h => h hcode1))) rfl ?_
            refine EL.mv rfl rfl (EL.mg rfl rfl rfl rfl (EL.mg rfl rfl rfl rfl ?_));refine EL.valg rfl rfl (x_neq (r := false) rfl rfl (decide_eq_false (fun h => h hsm1))) rfl ?_
            refine EL.pf rfl rfl rfl (EL.mv rfl rfl (EL.mg rfl rfl rfl rfl (EL.valg rfl rfl (ln_65 rfl) rfl (EL.mg rfl rfl rfl rfl (EL.valg rfl rfl (ln_22 rfl) rfl ?_)))));refine EL.valg rfl rfl (x_neq (r := false) rfl rfl (decide_eq_false (fun h => h (by rw [hsm2])))) rfl ?_
            refine EL.pf rfl rfl rfl (EL.mv rfl rfl (EL.mg rfl rfl rfl rfl ?_))
            rcases code_two hz hjE with hq0 | hq0
            ·
             refine EL.valg rfl rfl (x_neq (r := false) rfl rfl (decide_eq_false (fun h => h (by rw [hcode1]; exact hq0)))) rfl ?_
             refine EL.mg rfl rfl rfl rfl (EL.skip rfl rfl rfl rfl (EL.skip rfl rfl rfl rfl (EL.valg rfl rfl (x_pick_f rfl rfl) rfl (EL.pf rfl rfl rfl (EL.nil (EX.seq (EC.no rfl (EC.skip ?_))))))))
             exact EX.cutE () trivial (by repeat first | with_reducible exact (Sub.refl _).del _ | refine sp_ rfl ?_ | exact (Sub.refl _).del _ | refine sd_ rfl ?_ | refine sn_ ?_) rfl
            ·
             refine EL.valg rfl rfl (x_neq (r := true) rfl rfl (decide_eq_true (by rw [hcode1, hq0]; decide))) rfl ?_
             refine EL.mg rfl rfl rfl rfl (EL.mg rfl rfl rfl rfl ?_);refine EL.valg rfl rfl (x_neq (r := false) rfl rfl (decide_eq_false (fun h => h (by rw [hcode1]; exact hq0)))) rfl ?_
             refine EL.valg rfl rfl (x_pick_t rfl rfl) rfl (EL.pf rfl rfl rfl (EL.nil (EX.seq (EC.no rfl (EC.skip ?_)))))
             exact EX.cutE () trivial (by repeat first | with_reducible exact (Sub.refl _).del _ | refine sp_ rfl ?_ | exact (Sub.refl _).del _ | refine sd_ rfl ?_ | refine sn_ ?_) rfl
           ·
            rintro _ _ rfl
            refine EC.seq (EC.region (EL.as rfl rfl (EL.nil (EX.seq (EC.seq (EC.seq (EC.region (EL.as rfl rfl (EL.nil ?_)))))))));refine EX.seq (EC.block ?_);have hbl := Below.refl wR28.heap.size wR28;refine EC.loopD [6, 33, 34, 283, 284, 285, 286, 287, 288, 289, 290, 291, 292, 293, 294, 295, 296, 297, 298, 299, 300, 301, 302, 303, 304, 305] (fun x : Nat => [(33, .int .i64 (numW (ww.take x))), (34, .int .i64 (x : Nat))]) (fun x W => x ≤ qq.length ∧ Below wR28.heap.size wR28 W) (fun x => qq.length - x) 0 ⟨Nat.zero_le _, hbl⟩ ⟨rfl, rfl, trivial⟩ ?_
            clear hbl
            rintro i wx ⟨hi, hbl⟩
            replace q1 := q1.bl hbl;replace q2 := q2.bl hbl;replace q3 := q3.bl hbl;replace q5 := q5.bl hbl;replace hjs := own_below hjs hbl (Nat.le_refl _);replace hbp := own_below hbp hbl (Nat.le_refl _);replace hL := hL.below hbl;replace hst := own_below hst hbl (Nat.le_refl _);replace hbq := own_below hbq hbl (Nat.le_refl _);replace hbo_ := own_below hbo_ hbl (Nat.le_refl _);replace hbw := hbw.trans (hbl.mono hbw.size);replace hbo := hbo.trans (hbl.mono hbo.size)
            by_cases hlt : i < qq.length
            ·
             have hlw : i < ww.length := by omega
             obtain ⟨b1_, o1_, e1_, l1_, x0, x1⟩ := sts_cells qq i hlt wx wx.heap.size _ _ _ (Rd.of_own hbq);obtain ⟨b2_, o2_, e2_, l2_, y0⟩ := ints_cells ww i hlw wx wx.heap.size _ _ _ (Rd.of_own hbo_);obtain ⟨hz1, hz2⟩ := hsm3 i hlt;rw [hz1] at x0;rw [hz2] at x1;have hnb := numW_bd (ww.take i);rw [List.length_take] at hnb;have hqb : qq.length ≤ 8 := by rw [hsm2]; exact plan_small hfo (by omega)
             refine EC.seq (EC.seq (EC.region (EL.mv rfl rfl (EL.mv rfl rfl (EL.val (ln_65 rfl) rfl ?_)))));refine EL.val (x_lss rfl rfl (decide_eq_true (show (((i : Nat) : Int) < ((qq.length : Nat) : Int)) by omega))) rfl ?_
             refine EL.nil (EX.seq (EC.yes rfl (EC.skip (EX.seq (EC.seq (EC.block (EC.seq (EC.seq ?_))))))));refine EC.regionQ (by kernel_rfl) (by kernel_rfl) ?_
             refine EQ.mv rfl rfl (EQ.mv rfl rfl ?_);refine EQ.val (fun _ hw => (ix_65 (by show some (Value.slice Ar _ _) = _; rw [e1_]) rfl hlt)) rfl ?_
             refine EQ.val (fun _ hw => (ld_70 rfl (below_load hw x0) (below_load hw x1))) rfl ?_
             refine EQ.mv rfl rfl (EQ.mv rfl rfl ?_);refine EQ.val (fun _ hw => (ix_22 (by show some (Value.slice Ao _ _) = _; rw [e2_]) rfl hlw)) rfl ?_
             refine EQ.val (fun _ hw => (ld_3 rfl (below_load hw y0))) rfl ?_
             refine EQ.val (fun _ hw => (bd_70_1 rfl)) rfl ?_
             refine EQ.val (fun _ hw => (neq_70 (r := false) rfl rfl (decide_eq_false (fun h => h ⟨rfl, rfl⟩)))) rfl ?_
             refine EQ.fin (fun w18 hw_ => ?_)
             replace q1 := q1.bl hw_;replace q2 := q2.bl hw_;replace q3 := q3.bl hw_;replace q5 := q5.bl hw_;replace hjs := own_below hjs hw_ (Nat.le_refl _);replace hbp := own_below hbp hw_ (Nat.le_refl _);replace hL := hL.below hw_;replace hst := own_below hst hw_ (Nat.le_refl _);replace hbq := own_below hbq hw_ (Nat.le_refl _);replace hbo_ := own_below hbo_ hw_ (Nat.le_refl _);replace hbw := bo_ hbw hw_;replace hbo := bo_ hbo hw_;replace hbl := bo_ hbl hw_;clear hw_;refine EX.seq (EC.no rfl (EC.skip (EX.seq (EC.seq (EC.region ?_)))));obtain ⟨b3_, o3_, e3_, _, z0⟩ := ints_cells ww i hlw w18 w18.heap.size _ _ _ (Rd.of_own hbo_);refine EL.mv rfl rfl (EL.mv rfl rfl ?_);refine EL.val (ix_22 (by show some (Value.slice Ao _ _) = _; rw [e3_]) rfl hlw) rfl ?_
             refine EL.val (ld_3 rfl z0) rfl ?_
             by_cases hk0 : 0 ≤ ww.getD i 0
             ·
              refine EL.val (x_geq (r := true) rfl rfl (decide_eq_true hk0)) rfl (EL.nil (EX.seq (EC.yes rfl (EC.region (EL.mv rfl rfl ?_)))));refine EL.val (x_add rfl rfl (IntWalk.i64_in _ ⟨by omega, by omega⟩)) rfl ?_
              refine EL.as rfl rfl (EL.nil (EX.blk (EX.seq (EC.region (EL.mv rfl rfl ?_)))));refine EL.val (x_add rfl rfl (c := ((i + 1 : Nat) : Int)) ((IntWalk.i64_in _ ⟨by first | omega | (simp only; omega), by first | omega | (simp only; omega)⟩).trans (by first | omega | (simp only; omega)))) rfl ?_
              refine EL.as rfl rfl (EL.nil ?_);refine EX.roundD (i + 1) ⟨agree_i (b := numW (ww.take i) + 1) (by rw [numW_snoc hlw, numK_y hk0]) rfl, rfl, trivial⟩ (by repeat first | with_reducible exact .refl _ | refine sp_ rfl ?_ | exact .refl _ | refine sd_ rfl ?_ | refine sn_ ?_) ⟨hlt, hbl⟩ (by omega)
             ·
              refine EL.val (x_geq (r := false) rfl rfl (decide_eq_false hk0)) rfl (EL.nil (EX.seq (EC.no rfl (EC.skip (EX.blk (EX.seq (EC.region (EL.mv rfl rfl ?_))))))));refine EL.val (x_add rfl rfl (c := ((i + 1 : Nat) : Int)) ((IntWalk.i64_in _ ⟨by first | omega | (simp only; omega), by first | omega | (simp only; omega)⟩).trans (by first | omega | (simp only; omega)))) rfl ?_
              refine EL.as rfl rfl (EL.nil ?_);refine EX.roundD (i + 1) ⟨agree_i (b := numW (ww.take i)) (by rw [numW_snoc hlw, numK_n hk0]; omega) rfl, rfl, trivial⟩ (by repeat first | with_reducible exact .refl _ | refine sp_ rfl ?_ | exact .refl _ | refine sd_ rfl ?_ | refine sn_ ?_) ⟨hlt, hbl⟩ (by omega)
            ·
             obtain rfl : i = qq.length := by omega
             have htk : ww.take qq.length = ww := by rw [hsm2, List.take_length]
             rw [htk];clear hbl;refine EC.seq (EC.seq (EC.region (EL.mv rfl rfl (EL.mv rfl rfl (EL.val (ln_65 rfl) rfl ?_)))));refine EL.val (x_lss rfl rfl (decide_eq_false (show ¬(((qq.length : Nat) : Int) < ((qq.length : Nat) : Int)) by omega))) rfl ?_
             refine EL.nil (EX.seq (EC.no rfl (EC.exit (EX.seq_exit (EX.seq_exit (EX.blk_here (EX.seq ?_)))))));refine EC.cutD [6, 306, 307, 308, 309, 310, 311, 312] (fun _ : Unit => []) (fun _ W => wx = W) ?_ ?_
             ·
              refine EC.seq (EC.region (EL.mv rfl rfl ?_))
              rcases code_two hz hjE with hq0 | hq0
              ·
               obtain ⟨p_, hp_, hpw, hpc⟩ := hfo.1 hq0;have hle2 := fleet_le hfl (by omega) hT0 (plan_ok hp_)
               rw [← hpw] at hle2;refine EL.val (x_eql (r := true) rfl rfl (decide_eq_true (by rw [hcode1]; exact hq0))) rfl ?_
               refine EL.mv rfl rfl (EL.mg rfl rfl rfl rfl (EL.mg rfl rfl rfl rfl ?_));refine EL.valg rfl rfl (x_gtr (r := false) rfl rfl (decide_eq_false (by rw [hv2.2.1]; omega))) rfl ?_
               refine EL.pt rfl rfl rfl (EL.nil (EX.seq (EC.no rfl (EC.skip ?_))))
               exact EX.cutE () trivial (by repeat first | with_reducible exact (Sub.refl _).del _ | refine sp_ rfl ?_ | exact (Sub.refl _).del _ | refine sd_ rfl ?_ | refine sn_ ?_) rfl
              ·
               refine EL.val (x_eql (r := false) rfl rfl (decide_eq_false (by rw [hcode1, hq0]; decide))) rfl ?_
               refine EL.mv rfl rfl (EL.skip rfl rfl rfl rfl (EL.skip rfl rfl rfl rfl (EL.skip rfl rfl rfl rfl (EL.pf rfl rfl rfl (EL.nil (EX.seq (EC.no rfl (EC.skip ?_))))))))
               exact EX.cutE () trivial (by repeat first | with_reducible exact (Sub.refl _).del _ | refine sp_ rfl ?_ | exact (Sub.refl _).del _ | refine sd_ rfl ?_ | refine sn_ ?_) rfl
             ·
              rintro _ _ rfl
              refine EC.seq (EC.seq (EC.region (EL.mv rfl rfl (EL.val (ln_22 rfl) rfl ?_))))
              by_cases hjz : js.length = 0
              ·
               refine EL.val (x_eql (r := true) rfl rfl (decide_eq_true (by omega))) rfl ?_
               refine EL.nil (EX.seq (EC.yes rfl (EC.seq (EC.region (EL.call (cA0 cF12) rfl (known_any _) ?_)))))
               rintro e w19 ⟨rfl, hc19⟩
               refine ⟨_, rfl, ?_⟩;replace q1 := q1.bl hc19;replace q2 := q2.bl hc19;replace q3 := q3.bl hc19;replace q5 := q5.bl hc19;replace hjs := own_below hjs hc19 (Nat.le_refl _);replace hbp := own_below hbp hc19 (Nat.le_refl _);replace hL := hL.below hc19;replace hst := own_below hst hc19 (Nat.le_refl _);replace hbq := own_below hbq hc19 (Nat.le_refl _);replace hbo_ := own_below hbo_ hc19 (Nat.le_refl _);replace hbw := bo_ hbw hc19;replace hbo := bo_ hbo hc19;clear hc19;refine EL.as rfl rfl (EL.nil (EX.seq (EC.ret (EX.seq_ret ?_))))
               exact EX.done (res1 rfl rfl) ⟨rfl, hbw⟩
              ·
               refine EL.val (x_eql (r := false) rfl rfl (decide_eq_false (by omega))) rfl ?_
               refine EL.nil (EX.seq (EC.no rfl (EC.skip (EX.seq (EC.seq ?_)))));obtain ⟨gj, dj, hej, _, _⟩ := own_shapeZ hjs (by omega) (by omega)
               injection hej with hej1 _ hej2
               have hcap := own_capV hjs;have hjtl : (js.take (js.length - 1)).length = js.length - 1 := by rw [List.length_take]; omega
               have hyT2 := yardT_ok (T := tt) (js := (js.take (js.length - 1))) hrb (by omega) (by omega) (fun k hk => (hTz k hk).1) (jobs_take hjE _) (by omega)
               obtain ⟨hct, hcl⟩ := fleet_take hfl (js.length - 1) hyT2;have lt_1 := q1.lt;have lt_2 := q2.lt;have lt_3 := q3.lt;have lt_5 := q5.lt;refine EC.regionP [[], [], [1], [], [], [4], [4, 5], [3, 4, 5, 6], [1, 2, 3, 4, 5, 6, 7], [0, 1, 2, 3, 4, 5, 6, 7, 8], [0, 1, 2, 3, 4, 5, 6, 7, 8, 9], [0, 1, 2, 3, 4, 5, 6, 7, 8, 9, 10], [0, 1, 2, 3, 4, 5, 6, 7, 8, 9, 10], [0, 1, 2, 3, 4, 5, 6, 7, 8, 9, 10], [0, 1, 2, 3, 4, 5, 6, 7, 8, 9, 10], [0, 1, 2, 3, 4, 5, 6, 7, 8, 9, 10, 11], [0, 1, 2, 3, 4, 5, 6, 7, 8, 9, 10, 11, 12, 15], [0, 1, 2, 3, 4, 5, 6, 7, 8, 9, 10, 11, 12, 13, 15, 16], [0, 1, 2, 3, 4, 5, 6, 7, 8, 9, 10, 11, 12, 13, 14, 15, 16, 17]] 19 [] (phi (fun i_ r => match i_ with | 0 => r 0 = .agg #[.slice Al ru.levels.length cl, .int .i64 ru.fade.lo, .int .i64 ru.fade.hi, .slice Aa ru.allow.length ca, .slice Ap ru.apart.length cp, .slice Ak ru.kinds.length ck] | 1 => r 1 = .slice At tt.length ct | 3 => r 3 = .slice Aj js.length cj | 4 => r 4 = .slice Aj js.length cj | 5 => r 5 = .int .i64 (js.length : Nat) | 6 => r 6 = .int .i64 ((js.length - 1) : Nat) | 7 => r 7 = .slice (some ⟨gj, 0, none⟩) (js.length - 1) cj | 13 => r 13 = .int .i64 ((atF ru tt (js.take (js.length - 1))) : Nat) | 14 => r 14 = .int .i64 (codeF ru tt (js.take (js.length - 1))) | 17 => r 17 = .int .i64 ((atF ru tt (js.take (js.length - 1))) : Nat) | 18 => r 18 = .int .i64 (codeF ru tt (js.take (js.length - 1))) | _ => True) [(2, fun r w_ => ∃ v us_, r 2 = v ∧ RdLL evC 2 w_ w_.heap.size v tt us_), (8, fun r w_ => ∃ v, r 8 = v ∧ Rd w_ w_.heap.size 1 v (js.take (js.length - 1)).length (ints (js.take (js.length - 1)))), (9, fun r w_ => ∃ (A : Option Addr) (c : Nat) (ws : List St) (co : Int), r 9 = .tuple #[.slice A ws.length c, .int .i64 co, .int .i64 ((atF ru tt (js.take (js.length - 1))) : Nat), .int .i64 (codeF ru tt (js.take (js.length - 1)))] ∧ w_.ownsRow 0 70 2 (.slice A ws.length c) ws.length (stsC ws) ∧ FleetW ru tt (js.take (js.length - 1)) ws co), (10, fun r w_ => ∃ (A : Option Addr) (c : Nat) (ws : List St) (co : Int), r 9 = .tuple #[.slice A ws.length c, .int .i64 co, .int .i64 ((atF ru tt (js.take (js.length - 1))) : Nat), .int .i64 (codeF ru tt (js.take (js.length - 1)))] ∧ r 10 = .tuple #[.slice A ws.length c, .int .i64 co, .int .i64 ((atF ru tt (js.take (js.length - 1))) : Nat), .int .i64 (codeF ru tt (js.take (js.length - 1)))]), (11, fun r w_ => ∃ (A : Option Addr) (c : Nat) (ws : List St) (co : Int), r 9 = .tuple #[.slice A ws.length c, .int .i64 co, .int .i64 ((atF ru tt (js.take (js.length - 1))) : Nat), .int .i64 (codeF ru tt (js.take (js.length - 1)))] ∧ r 11 = .slice A ws.length c), (12, fun r w_ => ∃ (A : Option Addr) (c : Nat) (ws : List St) (co : Int), r 9 = .tuple #[.slice A ws.length c, .int .i64 co, .int .i64 ((atF ru tt (js.take (js.length - 1))) : Nat), .int .i64 (codeF ru tt (js.take (js.length - 1)))] ∧ r 12 = .int .i64 co), (15, fun r w_ => ∃ (A : Option Addr) (c : Nat) (ws : List St) (co : Int), r 9 = .tuple #[.slice A ws.length c, .int .i64 co, .int .i64 ((atF ru tt (js.take (js.length - 1))) : Nat), .int .i64 (codeF ru tt (js.take (js.length - 1)))] ∧ r 15 = .slice A ws.length c), (16, fun r w_ => ∃ (A : Option Addr) (c : Nat) (ws : List St) (co : Int), r 9 = .tuple #[.slice A ws.length c, .int .i64 co, .int .i64 ((atF ru tt (js.take (js.length - 1))) : Nat), .int .i64 (codeF ru tt (js.take (js.length - 1)))] ∧ r 16 = .int .i64 co)]) (by kernel_rfl) rfl rfl (phi_cons (fun _ _ _ hb ⟨v, us_, h1, h2⟩ => ⟨v, us_, h1, (h2.below hb).more hb.size⟩) (phi_cons mono_rd2 (phi_cons (fun _ _ _ hb ⟨A, c, ws, co, h1, h2, h3⟩ => ⟨A, c, ws, co, h1, own_below h2 hb (Nat.le_refl _), h3⟩) (phi_cons (fun _ _ _ _ h => h) (phi_cons (fun _ _ _ _ h => h) (phi_cons (fun _ _ _ _ h => h) (phi_cons (fun _ _ _ _ h => h) (phi_cons (fun _ _ _ _ h => h) (phi_nil))))))))) (fun i_ hi_ => ?_) ?_
               ·match i_, hi_ with
                | 0, _ =>
                 intro val w1 a hb ha hd;have ha := ha.s0 (d := 7) rfl
                 exact hs_val ha rfl rfl (ld_28 rfl ((q5.below hb q5.lt).at (j := 0) rfl) ((q5.below hb q5.lt).at (j := 1) rfl) ((q5.below hb q5.lt).at (j := 2) rfl) ((q5.below hb q5.lt).at (j := 3) rfl) ((q5.below hb q5.lt).at (j := 4) rfl) ((q5.below hb q5.lt).at (j := 5) rfl)) rfl rfl
                | 1, _ =>
                 intro val w1 a hb ha hd;have ha := ha.s0 (d := 8) rfl
                 exact hs_val ha rfl rfl (x_move rfl) rfl rfl
                | 2, _ =>
                 intro val w1 a hb ha hd;have e1 : val 1 = _ := hd 1 (memB_mem.1 rfl);have ha := ha.s1 (d := 319) rfl e1;refine hs_call ha rfl rfl (cA1 cF39 rfl) (all_any ((hL.below hb).rd) (Nat.le_refl _) (by omega) (fun i hi => by have := (hTz i hi).2; omega)) rfl ?_
                 rintro e w' ⟨⟨v2, us2, rfl, hJ⟩, hb'⟩
                 exact ⟨_, rfl, hb', ⟨v2, us2, rfl, hJ⟩⟩
                | 3, _ =>
                 intro val w1 a hb ha hd;have ha := ha.s0 (d := 9) rfl
                 exact hs_val ha rfl rfl (x_move rfl) rfl rfl
                | 4, _ =>
                 intro val w1 a hb ha hd;have ha := ha.s0 (d := 9) rfl
                 exact hs_val ha rfl rfl (x_move rfl) rfl rfl
                | 5, _ =>
                 intro val w1 a hb ha hd;have e4 : val 4 = _ := hd 4 (memB_mem.1 rfl);have ha := ha.s1 (d := 322) rfl e4
                 exact hs_val ha rfl rfl (ln_22 rfl) rfl rfl
                | 6, _ =>
                 intro val w1 a hb ha hd;have e5 : val 5 = _ := hd 5 (memB_mem.1 rfl);have ha := ha.s1 (d := 323) rfl e5
                 exact hs_val ha rfl rfl (x_sub rfl rfl (c := ((js.length - 1 : Nat) : Int)) ((IntWalk.i64_in _ ⟨by omega, by omega⟩).trans (by omega))) rfl rfl
                | 7, _ =>
                 intro val w1 a hb ha hd;have e3 : val 3 = _ := hd 3 (memB_mem.1 rfl);have e6 : val 6 = _ := hd 6 (memB_mem.1 rfl);have ha := ha.s2 (d := 324) (e := 321) rfl e6 rfl e3
                 exact hs_val ha rfl rfl (slh_22 (by show some (Value.slice Aj _ _) = _; rw [hej1]) rfl (by omega)) rfl rfl
                | 8, _ =>
                 intro val w1 a hb ha hd;have e7 : val 7 = _ := hd 7 (memB_mem.1 rfl);have ha := ha.s1 (d := 325) rfl e7;have hjt := rd_takeW (k := js.length - 1) (show Rd w1 w1.heap.size 1 (.slice (some ⟨gj, 0, none⟩) js.length cj) js.length (ints js) by rw [← hej1]; exact Rd.of_own (own_below hjs hb (Nat.le_refl _))) (by omega)
                 refine hs_call ha rfl rfl (cA1 cF23 rfl) (numbers_any (l := (js.take (js.length - 1))) (by rw [hjtl]; exact hjt) (Nat.le_refl _) (by omega)) rfl ?_
                 rintro e w' ⟨⟨v2, rfl, hJ⟩, hb'⟩
                 exact ⟨_, rfl, hb', ⟨v2, rfl, Rd.of_own hJ⟩⟩
                | 9, _ =>
                 intro val w1 a hb ha hd;have e0 : val 0 = _ := hd 0 (memB_mem.1 rfl);obtain ⟨v2_, us2_, e2, hT2_⟩ := hd 2 (memB_mem.1 rfl);obtain ⟨v8_, e8, hJ8_⟩ := hd 8 (memB_mem.1 rfl);have ha := ha.sub (Sub.ins (d := 326) (Sub.ins (d := 320) (Sub.ins (d := 318) (Sub.nil _) (dep_get rfl e0)) (dep_get rfl e2)) (dep_get rfl e8));refine hs_call ha rfl rfl (cA3 cF38 rfl rfl rfl) (Fleet_to ((hR.below (hbo.trans (hb.mono hbo.size))).more (Nat.le_trans hbo.size hb.size)) (Nat.le_refl _) hs hT2_ (fun i hi => by have := (hTz i hi).2; omega) (by first | omega | (simp; done)) hJ8_ (by omega)) rfl ?_
                 rintro e w' ⟨⟨A, c, ws, co, rfl, ho, hf⟩, hb'⟩
                 exact ⟨_, rfl, hb', ⟨A, c, ws, co, rfl, own_less ho (Nat.zero_le _), hf⟩⟩
                | 10, _ =>
                 intro val w1 a hb ha hd;obtain ⟨Aw, cw, ff, of, e9, hbf, hff⟩ := hd 9 (memB_mem.1 rfl);have ha := ha.s1 (d := 327) rfl e9
                 exact hs_val ha rfl rfl (x_move rfl) ⟨_, _, _, _, e9, rfl⟩ rfl
                | 11, _ =>
                 intro val w1 a hb ha hd;obtain ⟨A10_, c10_, u10_, o10_, x10_, e10⟩ := hd 10 (memB_mem.1 rfl);have ha := ha.s1 (d := 317) rfl e10
                 exact hs_val ha rfl rfl (x_extract rfl rfl) ⟨_, _, _, _, x10_, rfl⟩ rfl
                | 12, _ =>
                 intro val w1 a hb ha hd;obtain ⟨A10_, c10_, u10_, o10_, x10_, e10⟩ := hd 10 (memB_mem.1 rfl);have ha := ha.s1 (d := 317) rfl e10
                 exact hs_val ha rfl rfl (x_extract rfl rfl) ⟨_, _, _, _, x10_, rfl⟩ rfl
                | 13, _ =>
                 intro val w1 a hb ha hd;obtain ⟨A10_, c10_, u10_, o10_, x10_, e10⟩ := hd 10 (memB_mem.1 rfl);have ha := ha.s1 (d := 317) rfl e10
                 exact hs_val ha rfl rfl (x_extract rfl rfl) rfl rfl
                | 14, _ =>
                 intro val w1 a hb ha hd;obtain ⟨A10_, c10_, u10_, o10_, x10_, e10⟩ := hd 10 (memB_mem.1 rfl);have ha := ha.s1 (d := 317) rfl e10
                 exact hs_val ha rfl rfl (x_extract rfl rfl) rfl rfl
                | 15, _ =>
                 intro val w1 a hb ha hd;obtain ⟨A11_, c11_, u11_, o11_, x11_, e11⟩ := hd 11 (memB_mem.1 rfl);have ha := ha.s1 (d := 328) rfl e11
                 exact hs_val ha rfl rfl (x_assign rfl) ⟨_, _, _, _, x11_, rfl⟩ rfl
                | 16, _ =>
                 intro val w1 a hb ha hd;obtain ⟨A12_, c12_, u12_, o12_, x12_, e12⟩ := hd 12 (memB_mem.1 rfl);have ha := ha.s1 (d := 329) rfl e12
                 exact hs_val ha rfl rfl (x_assign rfl) ⟨_, _, _, _, x12_, rfl⟩ rfl
                | 17, _ =>
                 intro val w1 a hb ha hd;have e13 : val 13 = _ := hd 13 (memB_mem.1 rfl);have ha := ha.s1 (d := 330) rfl e13
                 exact hs_val ha rfl rfl (x_assign rfl) rfl rfl
                | 18, _ =>
                 intro val w1 a hb ha hd;have e14 : val 14 = _ := hd 14 (memB_mem.1 rfl);have ha := ha.s1 (d := 331) rfl e14
                 exact hs_val ha rfl rfl (x_assign rfl) rfl rfl
                | k + 19, h => exact absurd h (by omega)
               ·intro val wR43 hb halc hd
                have e0 : val 0 = _ := hd 0 (by omega)
                have e1 : val 1 = _ := hd 1 (by omega)
                obtain ⟨v2_, us2_, e2, hT2_⟩ := hd 2 (by omega)
                have e3 : val 3 = _ := hd 3 (by omega)
                have e4 : val 4 = _ := hd 4 (by omega)
                have e5 : val 5 = _ := hd 5 (by omega)
                have e6 : val 6 = _ := hd 6 (by omega)
                have e7 : val 7 = _ := hd 7 (by omega)
                obtain ⟨v8_, e8, hJ8_⟩ := hd 8 (by omega)
                obtain ⟨Aw, cw, ff, of, e9, hbf, hff⟩ := hd 9 (by omega)
                obtain ⟨A10_, c10_, u10_, o10_, x10_, e10⟩ := hd 10 (by omega)
                obtain ⟨A11_, c11_, u11_, o11_, x11_, e11⟩ := hd 11 (by omega)
                obtain ⟨A12_, c12_, u12_, o12_, x12_, e12⟩ := hd 12 (by omega)
                have e13 : val 13 = _ := hd 13 (by omega)
                have e14 : val 14 = _ := hd 14 (by omega)
                obtain ⟨A15_, c15_, u15_, o15_, x15_, e15⟩ := hd 15 (by omega)
                obtain ⟨A16_, c16_, u16_, o16_, x16_, e16⟩ := hd 16 (by omega)
                have e17 : val 17 = _ := hd 17 (by omega)
                have e18 : val 18 = _ := hd 18 (by omega)
                have y10_ := tupA4 (e9.symm.trans x10_);rw [← y10_.1, ← y10_.2] at e10;have y11_ := tupA4 (e9.symm.trans x11_);rw [← y11_.1] at e11;have y12_ := tupA4 (e9.symm.trans x12_);rw [← y12_.2] at e12;have y15_ := tupA4 (e9.symm.trans x15_);rw [← y15_.1] at e15;have y16_ := tupA4 (e9.symm.trans x16_);rw [← y16_.2] at e16;refine EL.ends (cs := [_, _, _, _, _, _, _, _, _, _, _, _, _, _, _, _, _, _, _]) ⟨e0, e1, e2, e3, e4, e5, e6, e7, e8, e9, e10, e11, e12, e13, e14, e15, e16, e17, e18, trivial⟩ rfl ?_;replace q1 := q1.bl hb;replace q2 := q2.bl hb;replace q3 := q3.bl hb;replace q5 := q5.bl hb;replace hjs := own_below hjs hb (Nat.le_refl _);replace hbp := own_below hbp hb (Nat.le_refl _);replace hL := hL.below hb;replace hst := own_below hst hb (Nat.le_refl _);replace hbq := own_below hbq hb (Nat.le_refl _);replace hbo_ := own_below hbo_ hb (Nat.le_refl _);replace hbw := bo_ hbw hb;replace hbo := bo_ hbo hb;clear hb;clear hT2_ hJ8_;have hff1 := hff.1 hct;have hfll := fleet_len hff1;have hfle := hcl hff1;refine EL.nil (EX.seq (EC.seq (EC.region (EL.as rfl rfl (EL.nil (EX.seq (EC.seq (EC.seq (EC.region ?_)))))))));refine EL.as rfl rfl (EL.nil (EX.seq (EC.block ?_)));have hbl := Below.refl wR43.heap.size wR43;refine EC.loopD [38, 39, 332, 333, 334, 335, 336, 337, 338, 339, 340, 341, 342, 343, 344, 345] (fun x : Nat => [(38, .int .i64 (numW ((wsOf ff).take x))), (39, .int .i64 (x : Nat))]) (fun x W => x ≤ ff.length ∧ Below wR43.heap.size wR43 W) (fun x => ff.length - x) 0 ⟨Nat.zero_le _, hbl⟩ ⟨rfl, rfl, trivial⟩ ?_
                clear hbl
                rintro i wx ⟨hi, hbl⟩
                replace q1 := q1.bl hbl;replace q2 := q2.bl hbl;replace q3 := q3.bl hbl;replace q5 := q5.bl hbl;replace hjs := own_below hjs hbl (Nat.le_refl _);replace hbp := own_below hbp hbl (Nat.le_refl _);replace hL := hL.below hbl;replace hst := own_below hst hbl (Nat.le_refl _);replace hbq := own_below hbq hbl (Nat.le_refl _);replace hbo_ := own_below hbo_ hbl (Nat.le_refl _);replace hbf := own_below hbf hbl (Nat.le_refl _);replace hbw := hbw.trans (hbl.mono hbw.size);replace hbo := hbo.trans (hbl.mono hbo.size)
                by_cases hlt : i < ff.length
                ·
                 obtain ⟨b1_, o1_, e1_, l1_, x0, x1⟩ := sts_cells ff i hlt wx wx.heap.size _ _ _ (Rd.of_own hbf);have hwl : i < (wsOf ff).length := by rw [wsOf_len]; exact hlt
                 rw [← wsOf_at hlt] at x1;have hnb := numW_bd ((wsOf ff).take i);rw [List.length_take] at hnb;refine EC.seq (EC.seq (EC.region (EL.mv rfl rfl (EL.mv rfl rfl (EL.val (ln_65 rfl) rfl ?_)))));refine EL.val (x_lss rfl rfl (decide_eq_true (show (((i : Nat) : Int) < ((ff.length : Nat) : Int)) by omega))) rfl ?_
                 refine EL.nil (EX.seq (EC.yes rfl (EC.skip (EX.seq (EC.seq (EC.block (EC.seq (EC.region (EL.mv rfl rfl ?_)))))))));refine EL.mv rfl rfl ?_;refine EL.val (ix_65 (by show some (Value.slice Aw _ _) = _; rw [e1_]) rfl hlt) rfl ?_
                 refine EL.val (fa_70_1 rfl) rfl (EL.val (ld_3 rfl x1) rfl ?_)
                 by_cases hk0 : 0 ≤ (wsOf ff).getD i 0
                 ·
                  refine EL.val (x_geq (r := true) rfl rfl (decide_eq_true hk0)) rfl (EL.nil (EX.seq (EC.yes rfl (EC.region (EL.mv rfl rfl ?_)))));refine EL.val (x_add rfl rfl (IntWalk.i64_in _ ⟨by omega, by omega⟩)) rfl ?_
                  refine EL.as rfl rfl (EL.nil (EX.blk (EX.seq (EC.region (EL.mv rfl rfl ?_)))));refine EL.val (x_add rfl rfl (c := ((i + 1 : Nat) : Int)) ((IntWalk.i64_in _ ⟨by first | omega | (simp only; omega), by first | omega | (simp only; omega)⟩).trans (by first | omega | (simp only; omega)))) rfl ?_
                  refine EL.as rfl rfl (EL.nil ?_);refine EX.roundD (i + 1) ⟨agree_i (b := numW ((wsOf ff).take i) + 1) (by rw [numW_snoc hwl, numK_y hk0]) rfl, rfl, trivial⟩ (by repeat first | with_reducible exact .refl _ | refine sp_ rfl ?_ | exact .refl _ | refine sd_ rfl ?_ | refine sn_ ?_) ⟨hlt, hbl⟩ (by omega)
                 ·
                  refine EL.val (x_geq (r := false) rfl rfl (decide_eq_false hk0)) rfl (EL.nil (EX.seq (EC.no rfl (EC.skip (EX.blk (EX.seq (EC.region (EL.mv rfl rfl ?_))))))));refine EL.val (x_add rfl rfl (c := ((i + 1 : Nat) : Int)) ((IntWalk.i64_in _ ⟨by first | omega | (simp only; omega), by first | omega | (simp only; omega)⟩).trans (by first | omega | (simp only; omega)))) rfl ?_
                  refine EL.as rfl rfl (EL.nil ?_);refine EX.roundD (i + 1) ⟨agree_i (b := numW ((wsOf ff).take i)) (by rw [numW_snoc hwl, numK_n hk0]; omega) rfl, rfl, trivial⟩ (by repeat first | with_reducible exact .refl _ | refine sp_ rfl ?_ | exact .refl _ | refine sd_ rfl ?_ | refine sn_ ?_) ⟨hlt, hbl⟩ (by omega)
                ·
                 obtain rfl : i = ff.length := by omega
                 have htk2 : (wsOf ff).take ff.length = wsOf ff := by rw [← wsOf_len ff, List.take_length]
                 rw [htk2];clear hbl;refine EC.seq (EC.seq (EC.region (EL.mv rfl rfl (EL.mv rfl rfl (EL.val (ln_65 rfl) rfl ?_)))));refine EL.val (x_lss rfl rfl (decide_eq_false (show ¬(((ff.length : Nat) : Int) < ((ff.length : Nat) : Int)) by omega))) rfl ?_
                 refine EL.nil (EX.seq (EC.no rfl (EC.exit (EX.seq_exit (EX.seq_exit (EX.blk_here (EX.seq (EC.seq (EC.region ?_)))))))));refine EL.mv rfl rfl (EL.val (x_eql (r := true) rfl rfl (decide_eq_true hct)) rfl (EL.mv rfl rfl (EL.mg rfl rfl rfl rfl (EL.valg rfl rfl (ln_65 rfl) rfl (EL.mg rfl rfl rfl rfl (EL.valg rfl rfl (ln_22 rfl) rfl ?_))))));refine EL.valg rfl rfl (x_sub rfl rfl (c := ((js.length - 1 : Nat) : Int)) ((IntWalk.i64_in _ ⟨by omega, by omega⟩).trans (by omega))) rfl ?_
                 refine EL.valg rfl rfl (x_eql (r := true) rfl rfl (decide_eq_true (by omega))) rfl ?_
                 refine EL.pt rfl rfl rfl (EL.mv rfl rfl (EL.mg rfl rfl rfl rfl (EL.mg rfl rfl rfl rfl ?_)));refine EL.valg rfl rfl (x_leq (r := true) rfl rfl (decide_eq_true (by rw [hv2.2.1]; exact hfle))) rfl ?_
                 refine EL.pt rfl rfl rfl (EL.mv rfl rfl (EL.callg rfl rfl (cA0 cF12) rfl (known_any _) ?_))
                 rintro e w20 ⟨rfl, hc20⟩
                 refine ⟨_, rfl, ?_⟩;replace q1 := q1.bl hc20;replace q2 := q2.bl hc20;replace q3 := q3.bl hc20;replace q5 := q5.bl hc20;replace hjs := own_below hjs hc20 (Nat.le_refl _);replace hbp := own_below hbp hc20 (Nat.le_refl _);replace hL := hL.below hc20;replace hst := own_below hst hc20 (Nat.le_refl _);replace hbq := own_below hbq hc20 (Nat.le_refl _);replace hbo_ := own_below hbo_ hc20 (Nat.le_refl _);replace hbf := own_below hbf hc20 (Nat.le_refl _);replace hbw := bo_ hbw hc20;replace hbo := bo_ hbo hc20;clear hc20;refine EL.pt rfl rfl rfl (EL.as rfl rfl (EL.nil (EX.seq (EC.ret ?_))))
                 exact EX.done (res1 rfl rfl) ⟨rfl, hbw⟩
      ·
       have hne : codeF ru tt js ≠ 0 := by rw [hcd]; decide
       have hbp0 := hfp.2 hne;have hpp0 : pp.length = 0 := by rw [hbp0.1]; rfl
       refine EL.val (x_neq (r := true) rfl rfl (decide_eq_true hne)) rfl (EL.nil (EX.seq (EC.yes rfl (EC.seq (EC.region (EL.mv rfl rfl (EL.val (x_eql (r := true) rfl rfl (decide_eq_true hcd)) rfl (EL.mv rfl rfl (EL.mg rfl rfl rfl rfl ?_)))))))));refine EL.valg rfl rfl (x_geq (r := true) rfl rfl (decide_eq_true (ver_none hyT hne hver))) rfl (EL.pt rfl rfl rfl (EL.mv rfl rfl (EL.mg rfl rfl rfl rfl ?_)));refine EL.valg rfl rfl (x_geq (r := true) rfl rfl (decide_eq_true (by omega))) rfl ?_
       refine EL.pt rfl rfl rfl (EL.mv rfl rfl (EL.mg rfl rfl rfl rfl (EL.mg rfl rfl rfl rfl (EL.valg rfl rfl (ln_22 rfl) rfl ?_))));refine EL.valg rfl rfl (x_lss (r := true) rfl rfl (decide_eq_true (by have := atF_bd hyT hne; omega))) rfl ?_
       refine EL.pt rfl rfl rfl (EL.mv rfl rfl (EL.mg rfl rfl rfl rfl (EL.valg rfl rfl (ln_65 rfl) rfl ?_)));refine EL.valg rfl rfl (x_eql (r := true) rfl rfl (decide_eq_true (by omega))) rfl ?_
       refine EL.pt rfl rfl rfl (EL.mv rfl rfl (EL.mg rfl rfl rfl rfl (EL.valg rfl rfl (x_eql (r := true) rfl rfl (decide_eq_true hbp0.2)) rfl (EL.pt rfl rfl rfl (EL.mv rfl rfl (EL.callg rfl rfl (cA0 cF12) rfl (known_any _) ?_))))))
       rintro e w21 ⟨rfl, hc21⟩
       refine ⟨_, rfl, ?_⟩;replace q1 := q1.bl hc21;replace q2 := q2.bl hc21;replace q3 := q3.bl hc21;replace q5 := q5.bl hc21;replace hjs := own_below hjs hc21 (Nat.le_refl _);replace hbp := own_below hbp hc21 (Nat.le_refl _);replace hL := hL.below hc21;replace hst := own_below hst hc21 (Nat.le_refl _);replace hbw := bo_ hbw hc21;replace hbo := bo_ hbo hc21;clear hc21;refine EL.pt rfl rfl rfl (EL.as rfl rfl (EL.nil (EX.seq (EC.ret (EX.seq_ret ?_)))))
       exact EX.done (res1 rfl rfl) ⟨rfl, hbw⟩
end Go.Proofs.Ytdkedhcbdbpccaa
