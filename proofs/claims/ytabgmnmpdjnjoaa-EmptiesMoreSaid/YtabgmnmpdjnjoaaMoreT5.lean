/- EmStep, EmReach, EmRing, EmEs, ExX23, ExX24, X24, ExX25, X25, ExX26, X26, ExX27: what EmptiesMoreProof needs of them (merged by trimpack.py). -/
import Derived.Test.YtabgmnmpdjnjoaaMoreT4
set_option linter.unusedVariables false
set_option linter.unusedSimpArgs false
namespace Go.Proofs.Ytabgmnmpdjnjoaa
open Go Go.RowKit
/-- a step with its ends -/
structure Es where
  fr : Nat
  to : Nat
  cost : Int
  way : Int
  back : Bool
def es0 : Es := ⟨0, 0, 0, 0, false⟩
def esAt (S : List Es) (i : Nat) : Es := S.getD i es0
theorem esAt_app {S T : List Es} {i : Nat} : esAt (S ++ T) i = if i < S.length then esAt S i else esAt T (i - S.length) := by
  unfold esAt
  simp only [List.getD_eq_getElem?_getD]
  by_cases h : i < S.length
  · rw [if_pos h, List.getElem?_append_left h]
  · rw [if_neg h, List.getElem?_append_right (by omega)]
theorem esAt_mem {S : List Es} {i : Nat} (h : i < S.length) : esAt S i ∈ S := by
  unfold esAt
  rw [getD_in h]
  exact List.getElem_mem h
section
variable (nt : Net) (mv : List Int)
def esW (i : Nat) : List Es := (if mv.getD i 0 < (nt.ways.getD i way0).room then [⟨(nt.ways.getD i way0).fr.toNat, (nt.ways.getD i way0).to.toNat, (nt.ways.getD i way0).cost, ((i : Nat) : Int), false⟩] else []) ++
  (if 0 < mv.getD i 0 then [⟨(nt.ways.getD i way0).to.toNat, (nt.ways.getD i way0).fr.toNat, -(nt.ways.getD i way0).cost, ((i : Nat) : Int), true⟩] else [])
def esL (k : Nat) : List Es := (List.range k).flatMap (esW nt mv)
/-- what a step is like -/
structure StepOk (s : Es) (i : Nat) : Prop where
  lt : i < nt.ways.length
  way : s.way = ((i : Nat) : Int)
  fwd : s.back = false → s.fr = (nt.ways.getD i way0).fr.toNat ∧ s.to = (nt.ways.getD i way0).to.toNat ∧ s.cost = (nt.ways.getD i way0).cost ∧ mv.getD i 0 < (nt.ways.getD i way0).room
  bwd : s.back = true → s.fr = (nt.ways.getD i way0).to.toNat ∧ s.to = (nt.ways.getD i way0).fr.toNat ∧ s.cost = -(nt.ways.getD i way0).cost ∧ 0 < mv.getD i 0
structure Adm (S : List Es) : Prop where
  way : ∀ a, a < S.length → (esAt S a).way = -1 ∨ ∃ i, StepOk nt mv (esAt S a) i
  uniq : ∀ a b, a < S.length → b < S.length → (esAt S a).way = (esAt S b).way → (esAt S a).way ≠ -1 → (esAt S a).back = (esAt S b).back → a = b
end
section
variable {nt : Net} {mv : List Int} {S : List Es}
theorem esL_succ (k : Nat) : esL nt mv (k + 1) = esL nt mv k ++ esW nt mv k := by simp [esL, List.range_succ]
theorem esW_len (k : Nat) : (esW nt mv k).length ≤ 2 := by
  unfold esW
  rw [List.length_append]
  split <;> split <;> simp
theorem esL_len : ∀ k, (esL nt mv k).length ≤ 2 * k
  | 0 => by simp [esL]
  | k + 1 => by
    have h1 := esL_len k
    have h2 := esW_len (nt := nt) (mv := mv) k
    rw [esL_succ, List.length_append]
    omega
theorem esW_mem {k : Nat} {s : Es} (hk : k < nt.ways.length) (h : s ∈ esW nt mv k) : StepOk nt mv s k := by
  unfold esW at h
  rcases List.mem_append.1 h with h | h
  · by_cases hc : mv.getD k 0 < (nt.ways.getD k way0).room
    · rw [if_pos hc, List.mem_singleton] at h
      subst h
      exact ⟨hk, rfl, fun _ => ⟨rfl, rfl, rfl, hc⟩, fun h => (by cases h)⟩
    · rw [if_neg hc] at h; cases h
  · by_cases hc : 0 < mv.getD k 0
    · rw [if_pos hc, List.mem_singleton] at h
      subst h
      exact ⟨hk, rfl, fun h => (by cases h), fun _ => ⟨rfl, rfl, rfl, hc⟩⟩
    · rw [if_neg hc] at h; cases h
theorem esW_one {k a b : Nat} (ha : a < (esW nt mv k).length) (hb : b < (esW nt mv k).length) (h : (esAt (esW nt mv k) a).back = (esAt (esW nt mv k) b).back) : a = b := by
  unfold esW at ha hb h
  by_cases h1 : mv.getD k 0 < (nt.ways.getD k way0).room <;> by_cases h2 : 0 < mv.getD k 0
  · rw [if_pos h1, if_pos h2] at ha hb h
    simp only [List.length_append, List.length_singleton] at ha hb
    rcases (show a = 0 ∨ a = 1 by omega) with rfl | rfl <;> rcases (show b = 0 ∨ b = 1 by omega) with rfl | rfl
    · rfl
    · cases h
    · cases h
    · rfl
  · rw [if_pos h1, if_neg h2] at ha hb
    simp only [List.append_nil, List.length_singleton] at ha hb
    omega
  · rw [if_neg h1, if_pos h2] at ha hb
    simp only [List.nil_append, List.length_singleton] at ha hb
    omega
  · rw [if_neg h1, if_neg h2] at ha
    simp at ha
theorem esL_adm : ∀ k, k ≤ nt.ways.length → Adm nt mv (esL nt mv k) ∧ ∀ a, a < (esL nt mv k).length → 0 ≤ (esAt (esL nt mv k) a).way ∧ (esAt (esL nt mv k) a).way < ((k : Nat) : Int)
  | 0, _ => ⟨⟨fun a h => by simp [esL] at h, fun a b h => by simp [esL] at h⟩, fun a h => by simp [esL] at h⟩
  | k + 1, hk => by
    obtain ⟨⟨h1, h2⟩, h3⟩ := esL_adm k (by omega)
    rw [esL_succ]
    have hW : ∀ a, a < (esW nt mv k).length → StepOk nt mv (esAt (esW nt mv k) a) k := fun a ha => esW_mem (by omega) (esAt_mem ha)
    refine ⟨⟨fun a ha => ?_, fun a b ha hb e hne hbk => ?_⟩, fun a ha => ?_⟩
    · rw [List.length_append] at ha
      rw [esAt_app]
      by_cases hl : a < (esL nt mv k).length
      · rw [if_pos hl]; exact h1 a hl
      · rw [if_neg hl]; exact .inr ⟨k, hW _ (by omega)⟩
    · rw [List.length_append] at ha hb
      rw [esAt_app] at e hne hbk
      rw [esAt_app] at e hbk
      by_cases hla : a < (esL nt mv k).length <;> by_cases hlb : b < (esL nt mv k).length
      · rw [if_pos hla] at e hne hbk; rw [if_pos hlb] at e hbk; exact h2 a b hla hlb e hne hbk
      · rw [if_pos hla, if_neg hlb] at e
        have g1 := (h3 a hla).2
        have g2 := (hW (b - (esL nt mv k).length) (by omega)).way
        omega
      · rw [if_neg hla, if_pos hlb] at e
        have g1 := (h3 b hlb).2
        have g2 := (hW (a - (esL nt mv k).length) (by omega)).way
        omega
      · rw [if_neg hla, if_neg hlb] at hbk
        have := esW_one (nt := nt) (mv := mv) (k := k) (by omega) (by omega) hbk
        omega
    · rw [List.length_append] at ha
      rw [esAt_app]
      by_cases hl : a < (esL nt mv k).length
      · rw [if_pos hl]; have := h3 a hl; omega
      · rw [if_neg hl]; have := (hW (a - (esL nt mv k).length) (by omega)).way; omega
/-- further steps that are of no way -/
theorem Adm.ground {G : List Es} (h : Adm nt mv S) (hG : ∀ g ∈ G, g.way = -1) : Adm nt mv (S ++ G) := by
  have hg : ∀ a, ¬a < S.length → a < (S ++ G).length → (esAt (S ++ G) a).way = -1 := fun a hl ha => by
    rw [List.length_append] at ha
    rw [esAt_app, if_neg hl]
    exact hG _ (esAt_mem (by omega))
  refine ⟨fun a ha => ?_, fun a b ha hb e hne hbk => ?_⟩
  · by_cases hl : a < S.length
    · rw [esAt_app, if_pos hl]; exact h.way a hl
    · exact .inl (hg a hl ha)
  · by_cases hla : a < S.length
    · by_cases hlb : b < S.length
      · rw [esAt_app, if_pos hla] at e hne hbk; rw [esAt_app, if_pos hlb] at e hbk; exact h.uniq a b hla hlb e hne hbk
      · exact absurd (e.trans (hg b hlb hb)) hne
    · exact absurd (hg a hla ha) hne
/-! ### What a step does -/
def takeM (mv : List Int) (s : Es) : List Int := if s.way = -1 then mv else mv.set s.way.toNat (mv.getD s.way.toNat 0 + (if s.back = true then -1 else 1))
def takeAll (S : List Es) (mv : List Int) (cs : List Nat) : List Int := cs.foldl (fun m a => takeM m (esAt S a)) mv
def stepD (s : Es) (i : Nat) : Int := if s.way = ((i : Nat) : Int) then (if s.back = true then -1 else 1) else 0
def cntS (S : List Es) (i : Nat) (b : Bool) : List Nat → Int
  | [] => 0
  | a :: cs => (if (esAt S a).way = ((i : Nat) : Int) ∧ (esAt S a).back = b then 1 else 0) + cntS S i b cs
/-- at a node -/
def balE (s : Es) (x : Nat) : Int := (if x = s.to then 1 else 0) - (if x = s.fr then 1 else 0)
def wayBal (S : List Es) (x : Nat) : List Nat → Int
  | [] => 0
  | a :: cs => (if (esAt S a).way = -1 then 0 else balE (esAt S a) x) + wayBal S x cs
def wayCst (S : List Es) : List Nat → Int
  | [] => 0
  | a :: cs => (if (esAt S a).way = -1 then 0 else (esAt S a).cost) + wayCst S cs
theorem takeM_len (s : Es) : (takeM mv s).length = mv.length := by
  unfold takeM
  split
  · rfl
  · rw [List.length_set]
theorem takeAll_len : ∀ (cs : List Nat) (mv : List Int), (takeAll S mv cs).length = mv.length
  | [], _ => rfl
  | a :: cs, mv => by
    show (takeAll S (takeM mv (esAt S a)) cs).length = _
    rw [takeAll_len cs, takeM_len]
theorem takeAll_cons (a : Nat) (cs : List Nat) (mv : List Int) : takeAll S mv (a :: cs) = takeAll S (takeM mv (esAt S a)) cs := rfl
theorem takeAll_snoc (a : Nat) (cs : List Nat) (mv : List Int) : takeAll S mv (cs ++ [a]) = takeM (takeAll S mv cs) (esAt S a) := by simp [takeAll, List.foldl_append]
theorem cost_sum : ∀ k, costTo nt mv k = sumI (fun j => mv.getD j 0 * (nt.ways.getD j way0).cost) k
  | 0 => rfl
  | k + 1 => by rw [costTo, sumI, cost_sum k]
theorem cost_set {i : Nat} (hi : i < nt.ways.length) (hl : mv.length = nt.ways.length) (d : Int) : costL nt (mv.set i (mv.getD i 0 + d)) = costL nt mv + d * (nt.ways.getD i way0).cost := by
  unfold costL
  rw [cost_sum, cost_sum]
  have e : sumI (fun j => (mv.set i (mv.getD i 0 + d)).getD j 0 * (nt.ways.getD j way0).cost) nt.ways.length = sumI (fun j => mv.getD j 0 * (nt.ways.getD j way0).cost + (if j = i then d * (nt.ways.getD i way0).cost else 0)) nt.ways.length := sumI_congr fun j hj => by
    rw [getD_set0 (by omega)]
    by_cases h : j = i
    · subst h; rw [if_pos rfl, if_pos rfl, Int.add_mul]
    · rw [if_neg h, if_neg h]; omega
  rw [e, sumI_add, sumI_at, if_pos hi]
theorem ext_set1 (hv : netB nt = true) {i : Nat} (hi : i < nt.ways.length) (hl : mv.length = nt.ways.length) (d : Int) {v : Nat} (hp : v < nt.ports.length) : (extL nt (mv.set i (mv.getD i 0 + d))).getD v 0 = (extL nt mv).getD v 0 + (if v = (nt.ways.getD i way0).to.toNat then d else 0) - (if v = (nt.ways.getD i way0).fr.toNat then d else 0) := by
  have e1 := ext_sum (mv := mv) hv hp nt.ways.length (Nat.le_refl _)
  have e2 := ext_sum (mv := mv.set i (mv.getD i 0 + d)) hv hp nt.ways.length (Nat.le_refl _)
  have e3 : sumI (fun j => (if v = (nt.ways.getD j way0).to.toNat then (mv.set i (mv.getD i 0 + d)).getD j 0 else 0) - (if v = (nt.ways.getD j way0).fr.toNat then (mv.set i (mv.getD i 0 + d)).getD j 0 else 0)) nt.ways.length = sumI (fun j => ((if v = (nt.ways.getD j way0).to.toNat then mv.getD j 0 else 0) - (if v = (nt.ways.getD j way0).fr.toNat then mv.getD j 0 else 0)) + (if j = i then (if v = (nt.ways.getD i way0).to.toNat then d else 0) - (if v = (nt.ways.getD i way0).fr.toNat then d else 0) else 0)) nt.ways.length := sumI_congr fun j hj => by
    rw [getD_set0 (by omega)]
    by_cases e : j = i
    · subst e
      rw [if_pos rfl, if_pos rfl]
      split <;> split <;> omega
    · rw [if_neg e, if_neg e]; omega
  rw [sumI_add, sumI_at, if_pos hi] at e3
  unfold extL
  rw [e1, e2, e3]
  omega
/-- one step -/
theorem take_one (hv : netB nt = true) {m : List Int} (hl : m.length = nt.ways.length) {s : Es} (hs : s.way = -1 ∨ ∃ i, StepOk nt mv s i) : (∀ i, (takeM m s).getD i 0 = m.getD i 0 + stepD s i) ∧ costL nt (takeM m s) = costL nt m + (if s.way = -1 then 0 else s.cost) ∧
    ∀ v, v < nt.ports.length → (extL nt (takeM m s)).getD v 0 = (extL nt m).getD v 0 + (if s.way = -1 then 0 else balE s v) := by
  rcases hs with h | ⟨i, h⟩
  · unfold takeM
    rw [if_pos h, if_pos h]
    refine ⟨fun i => ?_, by omega, fun v _ => by rw [if_pos h]; omega⟩
    unfold stepD
    rw [if_neg (by omega)]
    omega
  · have hw := h.way
    have hlt := h.lt
    have e : takeM m s = m.set i (m.getD i 0 + (if s.back = true then -1 else 1)) := by
      unfold takeM
      rw [if_neg (by omega), hw, Int.toNat_natCast]
    rw [e]
    refine ⟨fun j => ?_, ?_, fun v hp => ?_⟩
    · rw [getD_set0 (by omega)]
      unfold stepD
      rw [hw]
      by_cases ej : j = i
      · subst ej; rw [if_pos rfl, if_pos rfl]
      · rw [if_neg ej, if_neg (by omega)]; omega
    · rw [cost_set hlt hl, if_neg (show ¬s.way = -1 by omega)]
      cases hb : s.back with
      | true => rw [if_pos rfl, (h.bwd hb).2.2.1]; omega
      | false => rw [if_neg (by decide), (h.fwd hb).2.2.1]; omega
    · rw [ext_set1 hv hlt hl _ hp, if_neg (show ¬s.way = -1 by omega)]
      unfold balE
      cases hb : s.back with
      | true =>
        rw [if_pos rfl, (h.bwd hb).1, (h.bwd hb).2.1]
        split <;> split <;> omega
      | false =>
        rw [(h.fwd hb).1, (h.fwd hb).2.1]
        simp only [Bool.false_eq_true, if_false]
        split <;> split <;> omega
/-- many steps -/
theorem take_all (hv : netB nt = true) (hA : Adm nt mv S) : ∀ (cs : List Nat) (m : List Int), m.length = nt.ways.length → (∀ a ∈ cs, a < S.length) → (∀ i : Nat, (takeAll S m cs).getD i 0 = m.getD i 0 + cntS S i false cs - cntS S i true cs) ∧ costL nt (takeAll S m cs) = costL nt m + wayCst S cs ∧
    ∀ v, v < nt.ports.length → (extL nt (takeAll S m cs)).getD v 0 = (extL nt m).getD v 0 + wayBal S v cs
  | [], m, _, _ => ⟨fun i => by show m.getD i 0 = m.getD i 0 + 0 - 0; omega, by show costL nt m = costL nt m + 0; omega, fun v _ => by show _ = _ + (0 : Int); rw [Int.add_zero]; rfl⟩
  | a :: cs, m, hl, hc => by
    obtain ⟨h1, h2, h3⟩ := take_one hv hl (hA.way a (hc a List.mem_cons_self))
    obtain ⟨g1, g2, g3⟩ := take_all hv hA cs (takeM m (esAt S a)) (by rw [takeM_len]; exact hl) fun b hb => hc b (List.mem_cons_of_mem _ hb)
    rw [takeAll_cons]
    refine ⟨fun i => ?_, ?_, fun v hp => ?_⟩
    · rw [g1, h1, cntS, cntS]
      unfold stepD
      cases (esAt S a).back <;> by_cases e : (esAt S a).way = ((i : Nat) : Int) <;> simp [e] <;> omega
    · rw [g2, h2, wayCst]; omega
    · rw [g3 v hp, h3 v hp, wayBal]; omega
theorem cnt_zero {i : Nat} {b : Bool} : ∀ {cs : List Nat}, (∀ a ∈ cs, ¬((esAt S a).way = ((i : Nat) : Int) ∧ (esAt S a).back = b)) → cntS S i b cs = 0
  | [], _ => rfl
  | a :: cs, h => by rw [cntS, if_neg (h a List.mem_cons_self), cnt_zero fun c hc => h c (List.mem_cons_of_mem _ hc)]; rfl
theorem cnt_one (hA : Adm nt mv S) {i : Nat} {b : Bool} : ∀ {cs : List Nat}, cs.Nodup → (∀ a ∈ cs, a < S.length) → cntS S i b cs = 0 ∨ cntS S i b cs = 1 ∧ ∃ a ∈ cs, (esAt S a).way = ((i : Nat) : Int) ∧ (esAt S a).back = b
  | [], _, _ => .inl rfl
  | a :: cs, hd, hc => by
    have hd' := List.nodup_cons.1 hd
    rw [cntS]
    by_cases h : (esAt S a).way = ((i : Nat) : Int) ∧ (esAt S a).back = b
    · rw [if_pos h, cnt_zero fun c hcc hm => ?_]
      · exact .inr ⟨rfl, a, List.mem_cons_self, h⟩
      · have := hA.uniq a c (hc a List.mem_cons_self) (hc c (List.mem_cons_of_mem _ hcc)) (h.1.trans hm.1.symm) (by omega) (h.2.trans hm.2.symm)
        subst this
        exact hd'.1 hcc
    · rw [if_neg h]
      rcases cnt_one hA (i := i) (b := b) hd'.2 fun c hcc => hc c (List.mem_cons_of_mem _ hcc) with h0 | ⟨h0, c, h1, h2⟩
      · exact .inl (by omega)
      · exact .inr ⟨by omega, c, List.mem_cons_of_mem _ h1, h2⟩
/-- steps, each once, keep moves within their bounds -/
theorem take_ok (hv : netB nt = true) (hA : Adm nt mv S) (hml : mv.length = nt.ways.length) (hok : okTo nt mv nt.ways.length = true) {cs : List Nat} (hd : cs.Nodup) (hc : ∀ a ∈ cs, a < S.length) : okTo nt (takeAll S mv cs) nt.ways.length = true := by
  unfold okTo
  rw [List.all_eq_true]
  intro j hj
  have hj := List.mem_range.1 hj
  have h0 := okTo_at hok hj
  have h1 := (take_all hv hA cs mv hml hc).1 j
  unfold okMv
  rw [inB_iff, h1]
  have hF : cntS S j false cs = 0 ∨ (cntS S j false cs = 1 ∧ mv.getD j 0 < (nt.ways.getD j way0).room) := by
    rcases cnt_one hA (i := j) (b := false) hd hc with h | ⟨h, a, ha, h2, h3⟩
    · exact .inl h
    · rcases hA.way a (hc a ha) with h4 | ⟨i, h4⟩
      · omega
      · have h5 := h4.way
        obtain rfl : i = j := by omega
        exact .inr ⟨h, (h4.fwd h3).2.2.2⟩
  have hT : cntS S j true cs = 0 ∨ (cntS S j true cs = 1 ∧ 0 < mv.getD j 0) := by
    rcases cnt_one hA (i := j) (b := true) hd hc with h | ⟨h, a, ha, h2, h3⟩
    · exact .inl h
    · rcases hA.way a (hc a ha) with h4 | ⟨i, h4⟩
      · omega
      · have h5 := h4.way
        obtain rfl : i = j := by omega
        exact .inr ⟨h, (h4.bwd h3).2.2.2⟩
  rcases hF with hF | ⟨hF, hF2⟩ <;> rcases hT with hT | ⟨hT, hT2⟩ <;> rw [hF, hT] <;> omega
/-! ### A way back -/
/-- steps from a node back to another one -/
def PathE (S : List Es) : List Nat → Nat → Nat → Prop
  | [], v, s => v = s
  | a :: cs, v, s => a < S.length ∧ (esAt S a).to = v ∧ PathE S cs (esAt S a).fr s
def allBal (S : List Es) (x : Nat) : List Nat → Int
  | [] => 0
  | a :: cs => balE (esAt S a) x + allBal S x cs
theorem PathE.bal (x : Nat) : ∀ {cs : List Nat} {v s : Nat}, PathE S cs v s → allBal S x cs = (if x = v then 1 else 0) - (if x = s then 1 else 0)
  | [], v, s, h => by
    have h : v = s := h
    subst h
    show (0 : Int) = _
    omega
  | a :: cs, v, s, ⟨_, h2, h3⟩ => by
    rw [allBal, PathE.bal x h3]
    unfold balE
    rw [h2]
    omega
theorem PathE.lt : ∀ {cs : List Nat} {v s : Nat}, PathE S cs v s → ∀ a ∈ cs, a < S.length
  | [], _, _, _, a, ha => by cases ha
  | c :: cs, v, s, ⟨h1, _, h3⟩, a, ha => by
    rcases List.mem_cons.1 ha with rfl | ha
    · exact h1
    · exact h3.lt a ha
theorem wayBal_all {x : Nat} : ∀ {cs : List Nat}, (∀ a ∈ cs, (esAt S a).way ≠ -1) → wayBal S x cs = allBal S x cs
  | [], _ => rfl
  | a :: cs, h => by rw [wayBal, allBal, if_neg (h a List.mem_cons_self), wayBal_all fun c hc => h c (List.mem_cons_of_mem _ hc)]
end
end Go.Proofs.Ytabgmnmpdjnjoaa
set_option linter.unusedVariables false
set_option linter.unusedSimpArgs false
namespace Go.Proofs.Ytabgmnmpdjnjoaa
open Go Go.RowKit
theorem getD_setI {l : List Int} {v i : Nat} {x : Int} (hi : i < l.length) : (l.set i x).getD v 0 = if v = i then x else l.getD v 0 := getD_set0 hi
/-- the way back from a node, as by tells it -/
def BkE (S : List Es) (th : List Bool) (b : List Int) : List Nat → Nat → Nat → Prop
  | [], v, s => v = s ∧ b.getD v 0 = -1 ∧ th.getD v false = true
  | a :: cs, v, s => a < S.length ∧ (esAt S a).to = v ∧ b.getD v 0 = ((a : Nat) : Int) ∧ th.getD v false = true ∧ BkE S th b cs (esAt S a).fr s
section
variable {S : List Es} {th f0 : List Bool} {b : List Int} {N : Nat}
theorem BkE.path : ∀ {cs : List Nat} {v s : Nat}, BkE S th b cs v s → PathE S cs v s
  | [], _, _, h => h.1
  | a :: cs, _, _, ⟨h1, h2, _, _, h3⟩ => ⟨h1, h2, h3.path⟩
theorem BkE.one : ∀ {cs cs' : List Nat} {v s s' : Nat}, BkE S th b cs v s → BkE S th b cs' v s' → cs = cs'
  | [], [], _, _, _, _, _ => rfl
  | [], a :: cs', v, _, _, h, h' => by have := h.2.1; have := h'.2.2.1; omega
  | a :: cs, [], v, _, _, h, h' => by have := h'.2.1; have := h.2.2.1; omega
  | a :: cs, a' :: cs', v, _, _, h, h' => by
    have e1 := h.2.2.1
    have e2 := h'.2.2.1
    obtain rfl : a = a' := by omega
    rw [BkE.one h.2.2.2.2 h'.2.2.2.2]
theorem BkE.suffix : ∀ {cs : List Nat} {v s : Nat}, BkE S th b cs v s → ∀ a ∈ cs, ∃ cs2, cs2.length < cs.length ∧ BkE S th b (a :: cs2) (esAt S a).to s
  | c :: cs, v, s, h, a, ha => by
    rcases List.mem_cons.1 ha with rfl | ha
    · refine ⟨cs, by simp, ?_⟩
      rw [h.2.1]
      exact h
    · obtain ⟨cs2, h1, h2⟩ := h.2.2.2.2.suffix a ha
      exact ⟨cs2, by simp; omega, h2⟩
theorem BkE.nodup : ∀ {cs : List Nat} {v s : Nat}, BkE S th b cs v s → cs.Nodup
  | [], _, _, _ => List.nodup_nil
  | a :: cs, v, s, h => List.nodup_cons.2 ⟨fun ha => by
    obtain ⟨cs2, h1, h2⟩ := h.2.2.2.2.suffix a ha
    have h3 : BkE S th b (a :: cs) (esAt S a).to s := by rw [h.2.1]; exact h
    have := congrArg List.length (h2.one h3)
    simp at this
    omega, h.2.2.2.2.nodup⟩
theorem BkE.foot : ∀ {cs : List Nat} {v s : Nat}, BkE S th b cs v s → b.getD s 0 = -1 ∧ th.getD s false = true
  | [], _, _, h => by rw [← h.1]; exact h.2
  | _ :: _, _, _, h => h.2.2.2.2.foot
/-- a new node leaves the ways as they were -/
theorem BkE.keep {w : Nat} {y : Int} (hw : w < th.length) (hwb : w < b.length) (hf : th.getD w false = false) : ∀ {cs : List Nat} {v s : Nat}, BkE S th b cs v s → BkE S (th.set w true) (b.set w y) cs v s
  | [], v, s, h => by
    have hv : v ≠ w := fun e => by have h2 := h.2.2; rw [e, hf] at h2; cases h2
    exact ⟨h.1, by rw [getD_setI hwb, if_neg hv]; exact h.2.1, by rw [getD_setB hw, if_neg hv]; exact h.2.2⟩
  | a :: cs, v, s, h => by
    have hv : v ≠ w := fun e => by have h2 := h.2.2.2.1; rw [e, hf] at h2; cases h2
    exact ⟨h.1, h.2.1, by rw [getD_setI hwb, if_neg hv]; exact h.2.2.1, by rw [getD_setB hw, if_neg hv]; exact h.2.2.2.1, h.2.2.2.2.keep hw hwb hf⟩
/-- what is reached -/
structure RcI (S : List Es) (N : Nat) (f0 th : List Bool) (b : List Int) : Prop where
  lt : th.length = N
  lb : b.length = N
  sub : ∀ v, v < N → f0.getD v false = true → th.getD v false = true
  out : ∀ v, v < N → th.getD v false = false → b.getD v 0 = -1
  root : ∀ v, v < N → b.getD v 0 = -1 → th.getD v false = true → f0.getD v false = true
  pth : ∀ v, v < N → th.getD v false = true → ∃ cs s, BkE S th b cs v s ∧ s < N
  low : ∀ v, v < N → -1 ≤ b.getD v 0
def EdN (S : List Es) (N : Nat) : Prop := ∀ a, a < S.length → (esAt S a).fr < N ∧ (esAt S a).to < N
theorem RcI.start (h : f0.length = N) : RcI S N f0 f0 (List.replicate N (-1)) := by
  have hm : ∀ v, v < N → (List.replicate N (-1 : Int)).getD v 0 = -1 := fun v hv => by simp [List.getD, hv]
  exact ⟨h, by simp, fun _ _ h => h, fun v hv _ => hm v hv, fun _ _ _ h => h, fun v hv ht => ⟨[], v, ⟨rfl, hm v hv, ht⟩, hv⟩, fun v hv => by rw [hm v hv]; exact Int.le_refl _⟩
theorem RcI.step (h : RcI S N f0 th b) (hE : EdN S N) {i : Nat} (hi : i < S.length) (hf : th.getD (esAt S i).fr false = true) (ht : th.getD (esAt S i).to false = false) : RcI S N f0 (th.set (esAt S i).to true) (b.set (esAt S i).to ((i : Nat) : Int)) := by
  obtain ⟨hfr, hto⟩ := hE i hi
  have hlt := h.lt
  have hlb := h.lb
  have hne : (esAt S i).fr ≠ (esAt S i).to := fun e => by rw [e, ht] at hf; cases hf
  refine ⟨by rw [List.length_set]; exact hlt, by rw [List.length_set]; exact hlb, fun v hv h0 => ?_, fun v hv h0 => ?_, fun v hv h0 h1 => ?_, fun v hv h0 => ?_, fun v hv => ?_⟩
  · rw [getD_setB (by omega)]
    split
    · rfl
    · exact h.sub v hv h0
  · rw [getD_setB (by omega)] at h0
    rw [getD_setI (by omega)]
    split at h0
    · cases h0
    · rename_i e; rw [if_neg e]; exact h.out v hv h0
  · rw [getD_setI (by omega)] at h0
    rw [getD_setB (by omega)] at h1
    split at h0
    · omega
    · rename_i e; rw [if_neg e] at h1; exact h.root v hv h0 h1
  · by_cases e : v = (esAt S i).to
    · subst e
      obtain ⟨cs, s, h1, h2⟩ := h.pth _ hfr hf
      exact ⟨i :: cs, s, ⟨hi, rfl, by rw [getD_setI (by omega), if_pos rfl], by rw [getD_setB (by omega), if_pos rfl], h1.keep (by omega) (by omega) ht⟩, h2⟩
    · rw [getD_setB (by omega), if_neg e] at h0
      obtain ⟨cs, s, h1, h2⟩ := h.pth v hv h0
      exact ⟨cs, s, h1.keep (by omega) (by omega) ht, h2⟩
  · rw [getD_setI (by omega)]
    split
    · omega
    · exact h.low v hv
/-- how many are not reached -/
def cntF (th : List Bool) : Nat := (th.filter fun x => !x).length
theorem cntF_set : ∀ {th : List Bool} {w : Nat}, w < th.length → th.getD w false = false → cntF (th.set w true) + 1 = cntF th
  | x :: th, 0, _, h => by
    have : x = false := h
    subst this
    simp [cntF]
  | x :: th, w + 1, hw, h => by
    have ih := cntF_set (th := th) (w := w) (by simpa using hw) h
    cases x <;> simp [cntF] at ih ⊢ <;> omega
/-- within a round -/
structure RdI (S : List Es) (N : Nat) (f0 th0 : List Bool) (i : Nat) (again : Bool) (th : List Bool) (b : List Int) : Prop where
  rc : RcI S N f0 th b
  no : again = false → th = th0 ∧ ∀ j, j < i → th.getD (esAt S j).fr false = true → th.getD (esAt S j).to false = true
  yes : again = true → cntF th < cntF th0
  le : cntF th ≤ cntF th0
theorem RdI.start (h : RcI S N f0 th b) : RdI S N f0 th 0 false th b := ⟨h, fun _ => ⟨rfl, fun j hj => absurd hj (Nat.not_lt_zero _)⟩, fun h => (by cases h), Nat.le_refl _⟩
theorem RdI.skip {th0 : List Bool} {i : Nat} {again : Bool} (h : RdI S N f0 th0 i again th b) (hs : th.getD (esAt S i).fr false = true → th.getD (esAt S i).to false = true) : RdI S N f0 th0 (i + 1) again th b := ⟨h.rc, fun ha => ⟨(h.no ha).1, fun j hj hf => by
  by_cases e : j = i
  · subst e; exact hs hf
  · exact (h.no ha).2 j (by omega) hf⟩, h.yes, h.le⟩
theorem RdI.take {th0 : List Bool} {i : Nat} {again : Bool} (h : RdI S N f0 th0 i again th b) (hE : EdN S N) (hi : i < S.length) (hf : th.getD (esAt S i).fr false = true) (ht : th.getD (esAt S i).to false = false) : RdI S N f0 th0 (i + 1) true (th.set (esAt S i).to true) (b.set (esAt S i).to ((i : Nat) : Int)) := by
  have h1 := cntF_set (th := th) (w := (esAt S i).to) (by rw [h.rc.lt]; exact (hE i hi).2) ht
  have h2 := h.le
  exact ⟨h.rc.step hE hi hf ht, fun ha => (by cases ha), fun _ => by omega, by omega⟩
/-- all is reached that can be -/
def Closed (S : List Es) (th : List Bool) : Prop := ∀ j, j < S.length → th.getD (esAt S j).fr false = true → th.getD (esAt S j).to false = true
end
/-! ### Filling -/
def fromL (ex : List Int) : List Bool := ex.map fun x => decide (0 < x)
theorem from_at {ex : List Int} {v : Nat} (h : v < ex.length) : (fromL ex).getD v false = decide (0 < ex.getD v 0) := by simp [fromL, List.getD, h]
section
variable {nt : Net} {mv : List Int}
def defS (nt : Net) (mv : List Int) : Int := sumI (fun q => if (extL nt mv).getD q 0 < 0 then -(extL nt mv).getD q 0 else 0) nt.ports.length
theorem defS_nn : 0 ≤ defS nt mv := sumI_nn fun q _ => by split <;> omega
theorem es_ends (hv : netB nt = true) : EdN (esL nt mv nt.ways.length) nt.ports.length := fun a ha => by
  obtain ⟨_, _, _, hvw⟩ := netB_ok hv
  rcases (esL_adm (nt := nt) (mv := mv) nt.ways.length (Nat.le_refl _)).1.way a ha with h | ⟨i, h⟩
  · have := ((esL_adm (nt := nt) (mv := mv) nt.ways.length (Nat.le_refl _)).2 a ha).1; omega
  · have hw := hvw i h.lt
    cases hb : (esAt (esL nt mv nt.ways.length) a).back with
    | true => rw [(h.bwd hb).1, (h.bwd hb).2.1]; omega
    | false => rw [(h.fwd hb).1, (h.fwd hb).2.1]; omega
theorem es_way {a : Nat} (ha : a < (esL nt mv nt.ways.length).length) : (esAt (esL nt mv nt.ways.length) a).way ≠ -1 := by
  have := ((esL_adm (nt := nt) (mv := mv) nt.ways.length (Nat.le_refl _)).2 a ha).1
  omega
/-- one hull more comes to a port that lacks some -/
theorem fill_step (hv : netB nt = true) (hml : mv.length = nt.ways.length) (hok : okTo nt mv nt.ways.length = true) {th : List Bool} {b : List Int} (hR : RcI (esL nt mv nt.ways.length) nt.ports.length (fromL (extL nt mv)) th b) {at_ s : Nat} (hat : at_ < nt.ports.length) (hx : (extL nt mv).getD at_ 0 < 0) {cs : List Nat} (hs : s < nt.ports.length) (hB : BkE (esL nt mv nt.ways.length) th b cs at_ s) :
    (takeAll (esL nt mv nt.ways.length) mv cs).length = nt.ways.length ∧ okTo nt (takeAll (esL nt mv nt.ways.length) mv cs) nt.ways.length = true ∧ defS nt (takeAll (esL nt mv nt.ways.length) mv cs) < defS nt mv := by
  have hA := (esL_adm (nt := nt) (mv := mv) nt.ways.length (Nat.le_refl _)).1
  have hl : ∀ a ∈ cs, a < (esL nt mv nt.ways.length).length := hB.path.lt
  have hle : (extL nt mv).length = nt.ports.length := extTo_len _
  have hf := hR.root s hs hB.foot.1 hB.foot.2
  rw [from_at (by omega)] at hf
  have hf := of_decide_eq_true hf
  have hne : at_ ≠ s := fun e => by subst e; omega
  refine ⟨by rw [takeAll_len]; exact hml, take_ok hv hA hml hok hB.nodup hl, ?_⟩
  have hext := (take_all hv hA cs mv hml hl).2.2
  have e : defS nt (takeAll (esL nt mv nt.ways.length) mv cs) = sumI (fun q => (if (extL nt mv).getD q 0 < 0 then -(extL nt mv).getD q 0 else 0) - (if q = at_ then 1 else 0)) nt.ports.length := sumI_congr fun q hq => by
    have h1 := hext q hq
    rw [wayBal_all (fun a ha => es_way (hl a ha)), hB.path.bal q] at h1
    rw [h1]
    by_cases e1 : q = at_
    · subst e1
      rw [if_pos rfl, if_neg hne, if_pos hx]
      split <;> omega
    · rw [if_neg e1]
      by_cases e2 : q = s
      · subst e2
        rw [if_pos rfl]
        split <;> split <;> omega
      · rw [if_neg e2, show (extL nt mv).getD q 0 + (0 - 0) = (extL nt mv).getD q 0 by omega]; omega
  rw [e, sumI_sub, sumI_at, if_pos hat]
  unfold defS
  omega
/-- where no port that lacks hulls is reached there are no moves -/
theorem fill_none (hv : netB nt = true) (hml : mv.length = nt.ways.length) (hok : okTo nt mv nt.ways.length = true) {th : List Bool} {b : List Int} (hR : RcI (esL nt mv nt.ways.length) nt.ports.length (fromL (extL nt mv)) th b) (hC : Closed (esL nt mv nt.ways.length) th) (hno : ∀ q, q < nt.ports.length → (extL nt mv).getD q 0 < 0 → th.getD q false = false) {q : Nat} (hq : q < nt.ports.length) (hx : (extL nt mv).getD q 0 < 0) (m2 : List Int) : aftErr nt m2 ≠ 0 := fun ha => by
  obtain ⟨_, _, _, hvw⟩ := netB_ok hv
  have hA := esL_adm (nt := nt) (mv := mv) nt.ways.length (Nat.le_refl _)
  have hle : (extL nt mv).length = nt.ports.length := extTo_len _
  obtain ⟨f, hf⟩ : ∃ f : Nat → Bool, ∀ v, f v = !th.getD v false := ⟨_, fun _ => rfl⟩
  have hf1 : ∀ {v}, f v = true → th.getD v false = false := fun {v} h => by rw [hf] at h; cases e : th.getD v false with | false => rfl | true => rw [e] at h; cases h
  have hf2 : ∀ {v}, f v = false → th.getD v false = true := fun {v} h => by rw [hf] at h; cases e : th.getD v false with | true => rfl | false => rw [e] at h; cases h
  have h1 := lack_none (f := f) hv ha
  rw [lack_id (mv := mv) hv] at h1
  -- steps of a way
  have hstep : ∀ i, i < nt.ways.length → ∀ s ∈ esW nt mv i, th.getD s.fr false = true → th.getD s.to false = true := fun i hi s hs => by
    have hm : s ∈ esL nt mv nt.ways.length := List.mem_flatMap.2 ⟨i, List.mem_range.2 hi, hs⟩
    obtain ⟨a, ha, rfl⟩ := List.getElem_of_mem hm
    have e : esAt (esL nt mv nt.ways.length) a = (esL nt mv nt.ways.length)[a] := by unfold esAt; rw [getD_in ha]
    have := hC a ha
    rw [e] at this
    exact this
  have hloss : sumI (lossW nt mv f) nt.ways.length = 0 := sumI_zero fun j hj => by
    have h0 := okTo_at hok hj
    have f1 := hstep j hj
    unfold lossW lkB
    cases e1 : f (nt.ways.getD j way0).to.toNat <;> cases e2 : f (nt.ways.getD j way0).fr.toNat <;> simp only [Bool.not_true, Bool.not_false, Bool.and_true, Bool.and_false, Bool.true_and, Bool.false_and, Bool.false_eq_true, if_true, if_false]
    · omega
    · have : ¬0 < mv.getD j 0 := fun hlt => by
        have := f1 ⟨(nt.ways.getD j way0).to.toNat, (nt.ways.getD j way0).fr.toNat, -(nt.ways.getD j way0).cost, ((j : Nat) : Int), true⟩ (by unfold esW; rw [if_pos hlt]; simp) (hf2 e1)
        rw [hf1 e2] at this
        cases this
      omega
    · have : ¬mv.getD j 0 < (nt.ways.getD j way0).room := fun hlt => by
        have := f1 ⟨(nt.ways.getD j way0).fr.toNat, (nt.ways.getD j way0).to.toNat, (nt.ways.getD j way0).cost, ((j : Nat) : Int), false⟩ (by unfold esW; rw [if_pos hlt]; simp) (hf2 e2)
        rw [hf1 e1] at this
        cases this
      omega
    · omega
  have hsum : 0 < sumI (fun q => if f q = true then -(extL nt mv).getD q 0 else 0) nt.ports.length := by
    have hnn : ∀ v, v < nt.ports.length → 0 ≤ (fun q => if f q = true then -(extL nt mv).getD q 0 else 0) v := fun v hp => by
      show 0 ≤ (if f v = true then -(extL nt mv).getD v 0 else 0)
      cases e : f v with
      | false => simp
      | true =>
        rw [if_pos rfl]
        have h2 : ¬0 < (extL nt mv).getD v 0 := fun h3 => by
          have := hR.sub v hp (by rw [from_at (by omega)]; exact decide_eq_true h3)
          rw [hf1 e] at this; cases this
        omega
    rcases Int.lt_or_le 0 (sumI (fun q => if f q = true then -(extL nt mv).getD q 0 else 0) nt.ports.length) with h | h
    · exact h
    · have := sumI_each hnn h q hq
      have this : (if f q = true then -(extL nt mv).getD q 0 else 0) = 0 := this
      rw [hf, hno q hq hx] at this
      simp only [Bool.not_false, if_true] at this
      omega
  omega
/-- what Fill answers -/
def FillR (nt : Net) (mv : List Int) : Prop := mv.length = nt.ways.length ∧ okTo nt mv nt.ways.length = true ∧ ((∃ q, q < nt.ports.length ∧ (extL nt mv).getD q 0 < 0) → ∀ m2, aftErr nt m2 ≠ 0)
theorem FillR.aft (h : FillR nt mv) (hn : ∀ q, q < nt.ports.length → 0 ≤ (extL nt mv).getD q 0) : aftErr nt mv = 0 := by
  refine MoreAt.aft (ov := extL nt mv) ⟨h.1, rfl, h.2.1, hn⟩
end
end Go.Proofs.Ytabgmnmpdjnjoaa
set_option linter.unusedVariables false
set_option linter.unusedSimpArgs false
namespace Go.Proofs.Ytabgmnmpdjnjoaa
open Go Go.RowKit
/-- rounds of costs, with the time and the round in which a node was last made cheaper -/
structure RgI (S : List Es) (N r i : Nat) (l b : List Int) (τ ρ : Nat → Nat) : Prop where
  ll : l.length = N
  lb : b.length = N
  bd : ∀ v, v < N → -(1000000 * ((r * S.length + i : Nat) : Int)) ≤ l.getD v 0 ∧ l.getD v 0 ≤ 0
  tm : ∀ v, v < N → τ v ≤ r * S.length + i
  rl : ∀ v, v < N → 0 < ρ v → ∃ j : Nat, j < S.length ∧ b.getD v 0 = (j : Int) ∧ (esAt S j).to = v ∧ l.getD (esAt S j).fr 0 + (esAt S j).cost ≤ l.getD v 0 ∧ (l.getD (esAt S j).fr 0 + (esAt S j).cost = l.getD v 0 → τ (esAt S j).fr < τ v) ∧ ρ v ≤ ρ (esAt S j).fr + 1
  cl : ∀ j, j < S.length → (j < i → ρ (esAt S j).fr ≤ r → l.getD (esAt S j).to 0 ≤ l.getD (esAt S j).fr 0 + (esAt S j).cost) ∧ (i ≤ j → ρ (esAt S j).fr + 1 ≤ r → l.getD (esAt S j).to 0 ≤ l.getD (esAt S j).fr 0 + (esAt S j).cost)
  rm : ∀ v, v < N → ρ v ≤ r + 1
  bn : ∀ v, v < N → 0 ≤ b.getD v 0
structure EdgeOk (S : List Es) (N : Nat) : Prop where
  n : EdN S N
  ne : ∀ a, a < S.length → (esAt S a).fr ≠ (esAt S a).to
  cost : ∀ a, a < S.length → -1000000 ≤ (esAt S a).cost ∧ (esAt S a).cost ≤ 1000000
def setN (f : Nat → Nat) (v x : Nat) : Nat → Nat := fun u => if u = v then x else f u
section
variable {S : List Es} {N r i : Nat} {l b : List Int} {τ ρ : Nat → Nat}
theorem RgI.start : RgI S N 0 0 (List.replicate N 0) (List.replicate N 0) (fun _ => 0) (fun _ => 0) := by
  have hm : ∀ v, v < N → (List.replicate N (0 : Int)).getD v 0 = 0 := fun v hv => by simp [List.getD, hv]
  exact ⟨by simp, by simp, fun v hv => by rw [hm v hv]; omega, fun v _ => Nat.zero_le _, fun v _ h => absurd h (Nat.lt_irrefl _), fun j _ => ⟨fun h => by omega, fun _ h => by omega⟩, fun v _ => Nat.zero_le _, fun v hv => by rw [hm v hv]; exact Int.le_refl _⟩
theorem RgI.skip (h : RgI S N r i l b τ ρ) (hs : ¬l.getD (esAt S i).fr 0 + (esAt S i).cost < l.getD (esAt S i).to 0) : RgI S N r (i + 1) l b τ ρ :=
  ⟨h.ll, h.lb, fun v hv => by have := h.bd v hv; omega, fun v hv => by have := h.tm v hv; omega, h.rl, fun j hj => ⟨fun hji hr => by
    by_cases e : j = i
    · subst e; omega
    · exact (h.cl j hj).1 (by omega) hr, fun hji hr => (h.cl j hj).2 (by omega) hr⟩, h.rm, h.bn⟩
theorem RgI.relax (h : RgI S N r i l b τ ρ) (hE : EdgeOk S N) (hi : i < S.length) (hs : l.getD (esAt S i).fr 0 + (esAt S i).cost < l.getD (esAt S i).to 0) :
    RgI S N r (i + 1) (l.set (esAt S i).to (l.getD (esAt S i).fr 0 + (esAt S i).cost)) (b.set (esAt S i).to ((i : Nat) : Int)) (setN τ (esAt S i).to (r * S.length + i + 1)) (setN ρ (esAt S i).to (r + 1)) := by
  obtain ⟨hfr, hto⟩ := hE.n i hi
  have hne := hE.ne i hi
  have hc := hE.cost i hi
  have hll := h.ll
  have hlb := h.lb
  have hL : ∀ v, (l.set (esAt S i).to (l.getD (esAt S i).fr 0 + (esAt S i).cost)).getD v 0 = if v = (esAt S i).to then l.getD (esAt S i).fr 0 + (esAt S i).cost else l.getD v 0 := fun v => getD_set0 (by omega)
  have hB : ∀ v, (b.set (esAt S i).to ((i : Nat) : Int)).getD v 0 = if v = (esAt S i).to then ((i : Nat) : Int) else b.getD v 0 := fun v => getD_set0 (by omega)
  have hpr : r ≤ ρ (esAt S i).fr := by
    rcases Nat.lt_or_ge (ρ (esAt S i).fr) r with hx | hx
    · have := (h.cl i hi).2 (Nat.le_refl _) (by omega); omega
    · exact hx
  refine ⟨by rw [List.length_set]; exact hll, by rw [List.length_set]; exact hlb, fun v hv => ?_, fun v hv => ?_, fun v hv hr0 => ?_, fun j hj => ?_, fun v hv => ?_, fun v hv => ?_⟩
  · rw [hL]
    have h1 := h.bd v hv
    have h2 := h.bd _ hfr
    have h3 := h.bd _ hto
    split <;> omega
  · have := h.tm v hv
    unfold setN
    split <;> omega
  · unfold setN at hr0 ⊢
    by_cases e : v = (esAt S i).to
    · refine ⟨i, hi, by rw [hB, if_pos e], e.symm, ?_, fun _ => ?_, ?_⟩
      · rw [hL, hL, if_neg hne, if_pos e]; exact Int.le_refl _
      · rw [if_neg hne, if_pos e]
        have := h.tm _ hfr
        omega
      · rw [if_pos e, if_neg hne]; omega
    · rw [if_neg e] at hr0
      obtain ⟨j, h1, h2, h3, h4, h5, h6⟩ := h.rl v hv hr0
      refine ⟨j, h1, by rw [hB, if_neg e]; exact h2, h3, ?_, fun he => ?_, ?_⟩
      · rw [hL, hL, if_neg e]
        split
        · rename_i e2; rw [e2] at h4; omega
        · exact h4
      · rw [hL, hL, if_neg e] at he
        rw [if_neg e]
        split at he
        · rename_i e2; rw [e2] at h4; omega
        · rename_i e2; rw [if_neg e2]; exact h5 he
      · rw [if_neg e]
        split
        · have := h.rm v hv; omega
        · exact h6
  · unfold setN
    obtain ⟨g1, g2⟩ := h.cl j hj
    refine ⟨fun hji hr => ?_, fun hji hr => ?_⟩
    · split at hr
      · omega
      · rename_i e
        rw [hL, hL, if_neg e]
        by_cases ej : j = i
        · subst ej; rw [if_pos rfl]; exact Int.le_refl _
        · have := g1 (by omega) hr
          split
          · rename_i e2; rw [e2] at this; omega
          · exact this
    · split at hr
      · omega
      · rename_i e
        have := g2 (by omega) hr
        rw [hL, hL, if_neg e]
        split
        · rename_i e2; rw [e2] at this; omega
        · exact this
  · have := h.rm v hv
    unfold setN
    split <;> omega
  · rw [hB]
    have := h.bn v hv
    split <;> omega
theorem RgI.round (h : RgI S N r S.length l b τ ρ) : RgI S N (r + 1) 0 l b τ ρ :=
  ⟨h.ll, h.lb, fun v hv => by have := h.bd v hv; rw [Nat.succ_mul, Nat.add_zero]; exact this, fun v hv => by have := h.tm v hv; rw [Nat.succ_mul, Nat.add_zero]; exact this, h.rl, fun j hj => ⟨fun h => by omega, fun _ hr => (h.cl j hj).1 hj (by omega)⟩, fun v hv => by have := h.rm v hv; omega, h.bn⟩
/-- within a round; at_ is the last node that was made cheaper, or -1 -/
def RgE (S : List Es) (N r i : Nat) (l b : List Int) (at_ : Int) : Prop := ∃ τ ρ, RgI S N r i l b τ ρ ∧ ((at_ = -1 ∧ ∀ v, v < N → ρ v ≤ r) ∨ ∃ a : Nat, at_ = (a : Int) ∧ a < N ∧ ρ a = r + 1)
/-- ahead of a round -/
def RgB (S : List Es) (N r : Nat) (l b : List Int) : Prop := ∃ τ ρ, RgI S N r 0 l b τ ρ ∧ ∀ v, v < N → ρ v ≤ r
theorem RgB.first : RgB S N 0 (List.replicate N 0) (List.replicate N 0) := ⟨_, _, RgI.start, fun _ _ => Nat.le_refl _⟩
theorem RgB.begin (h : RgB S N r l b) : RgE S N r 0 l b (-1) := by
  obtain ⟨τ, ρ, h1, h2⟩ := h
  exact ⟨τ, ρ, h1, .inl ⟨rfl, h2⟩⟩
theorem RgE.skip {at_ : Int} (h : RgE S N r i l b at_) (hs : ¬l.getD (esAt S i).fr 0 + (esAt S i).cost < l.getD (esAt S i).to 0) : RgE S N r (i + 1) l b at_ := by
  obtain ⟨τ, ρ, h1, h2⟩ := h
  exact ⟨τ, ρ, h1.skip hs, h2⟩
theorem RgE.relax {at_ : Int} (h : RgE S N r i l b at_) (hE : EdgeOk S N) (hi : i < S.length) (hs : l.getD (esAt S i).fr 0 + (esAt S i).cost < l.getD (esAt S i).to 0) : RgE S N r (i + 1) (l.set (esAt S i).to (l.getD (esAt S i).fr 0 + (esAt S i).cost)) (b.set (esAt S i).to ((i : Nat) : Int)) (((esAt S i).to : Nat) : Int) := by
  obtain ⟨τ, ρ, h1, h2⟩ := h
  exact ⟨_, _, h1.relax hE hi hs, .inr ⟨_, rfl, (hE.n i hi).2, by unfold setN; rw [if_pos rfl]⟩⟩
theorem RgE.next {a : Nat} (h : RgE S N r S.length l b (a : Int)) : RgB S N (r + 1) l b := by
  obtain ⟨τ, ρ, h1, _⟩ := h
  exact ⟨τ, ρ, h1.round, h1.rm⟩
theorem RgE.facts {at_ : Int} (h : RgE S N r i l b at_) : l.length = N ∧ b.length = N ∧ (∀ v, v < N → -(1000000 * ((r * S.length + i : Nat) : Int)) ≤ l.getD v 0 ∧ l.getD v 0 ≤ 0) ∧ (at_ = -1 ∨ ∃ a : Nat, at_ = (a : Int) ∧ a < N) := by
  obtain ⟨τ, ρ, h1, h2⟩ := h
  refine ⟨h1.ll, h1.lb, h1.bd, ?_⟩
  rcases h2 with ⟨h2, _⟩ | ⟨a, h2, h3, _⟩
  · exact .inl h2
  · exact .inr ⟨a, h2, h3⟩
theorem RgE.none (h : RgE S N r S.length l b (-1)) : ∀ j, j < S.length → EdgeOk S N → l.getD (esAt S j).to 0 ≤ l.getD (esAt S j).fr 0 + (esAt S j).cost := fun j hj hE => by
  obtain ⟨τ, ρ, h1, ⟨_, h2⟩ | ⟨a, h2, _⟩⟩ := h
  · exact (h1.cl j hj).1 hj (h2 _ (hE.n j hj).1)
  · omega
/-! ### The way back ends in a ring -/
def predE (S : List Es) (b : List Int) (v : Nat) : Nat := (esAt S (b.getD v 0).toNat).fr
def itP (f : Nat → Nat) : Nat → Nat → Nat
  | 0, v => v
  | k + 1, v => f (itP f k v)
theorem itP_add (f : Nat → Nat) (v j : Nat) : ∀ k, itP f (k + j) v = itP f k (itP f j v)
  | 0 => by rw [Nat.zero_add]; rfl
  | k + 1 => by rw [show k + 1 + j = k + j + 1 by omega, itP, itP_add f v j k]; rfl
/-- nodes on a ring -/
structure OnRing (S : List Es) (N : Nat) (l b : List Int) (first : Nat) : Prop where
  node : ∀ k, itP (predE S b) k first < N ∧ 0 ≤ b.getD (itP (predE S b) k first) 0 ∧ (b.getD (itP (predE S b) k first) 0).toNat < S.length ∧ (esAt S (b.getD (itP (predE S b) k first) 0).toNat).to = itP (predE S b) k first
  back : ∃ m, 0 < m ∧ itP (predE S b) m first = first
  gain : ∃ τ : Nat → Nat, ∀ k, l.getD (itP (predE S b) (k + 1) first) 0 + (esAt S (b.getD (itP (predE S b) k first) 0).toNat).cost ≤ l.getD (itP (predE S b) k first) 0 ∧ (l.getD (itP (predE S b) (k + 1) first) 0 + (esAt S (b.getD (itP (predE S b) k first) 0).toNat).cost = l.getD (itP (predE S b) k first) 0 → τ (itP (predE S b) (k + 1) first) < τ (itP (predE S b) k first))
theorem ring_at {a : Nat} (h : RgI S N (r + 1) 0 l b τ ρ) (hE : EdgeOk S N) (hr : N ≤ r) (ha : a < N) (hρ : ρ a = r + 1) : (∀ k, k ≤ N → itP (predE S b) k a < N ∧ 0 ≤ b.getD (itP (predE S b) k a) 0 ∧ (b.getD (itP (predE S b) k a) 0).toNat < S.length) ∧ OnRing S N l b (itP (predE S b) N a) := by
  have one : ∀ v, v < N → 0 < ρ v → 0 ≤ b.getD v 0 ∧ (b.getD v 0).toNat < S.length ∧ (esAt S (b.getD v 0).toNat).to = v ∧ l.getD (predE S b v) 0 + (esAt S (b.getD v 0).toNat).cost ≤ l.getD v 0 ∧ (l.getD (predE S b v) 0 + (esAt S (b.getD v 0).toNat).cost = l.getD v 0 → τ (predE S b v) < τ v) ∧ ρ v ≤ ρ (predE S b v) + 1 ∧ predE S b v < N := fun v hv h0 => by
    obtain ⟨j, h1, h2, h3, h4, h5, h6⟩ := h.rl v hv h0
    have e : (b.getD v 0).toNat = j := by omega
    unfold predE
    rw [e]
    exact ⟨by omega, h1, h3, h4, h5, h6, (hE.n j h1).1⟩
  have walk : ∀ k, k ≤ N → itP (predE S b) k a < N ∧ r + 1 ≤ ρ (itP (predE S b) k a) + k := by
    intro k
    induction k with
    | zero => intro _; exact ⟨ha, by show r + 1 ≤ ρ a + 0; omega⟩
    | succ k ih =>
      intro hk
      obtain ⟨h1, h2⟩ := ih (by omega)
      obtain ⟨_, _, _, _, _, h6, h7⟩ := one _ h1 (by omega)
      exact ⟨h7, by show r + 1 ≤ ρ (predE S b (itP (predE S b) k a)) + (k + 1); omega⟩
  -- two nodes of the walk are the same
  have rep : ∃ x y, x < y ∧ y ≤ N ∧ itP (predE S b) x a = itP (predE S b) y a := by
    refine Classical.byContradiction fun hno => ?_
    have hnd : ((List.range (N + 1)).map fun k => itP (predE S b) k a).Nodup := by
      refine List.pairwise_iff_getElem.2 fun x y hx hy hxy => ?_
      simp only [List.getElem_map, List.getElem_range]
      simp only [List.length_map, List.length_range] at hx hy
      exact fun e => hno ⟨x, y, hxy, by omega, e⟩
    have := pigeon N _ hnd fun x hx => by
      obtain ⟨k, hk, rfl⟩ := List.mem_map.1 hx
      exact (walk k (by have := List.mem_range.1 hk; omega)).1
    simp at this
    omega
  obtain ⟨x, y, hxy, hyN, hxe⟩ := rep
  have per : ∀ k, x ≤ k → itP (predE S b) (k + (y - x)) a = itP (predE S b) k a := fun k hk => by
    have e1 : k + (y - x) = (k - x) + y := by omega
    have e2 : k = (k - x) + x := by omega
    rw [e1, itP_add, ← hxe, ← itP_add, ← e2]
  have low : ∀ k, x ≤ k → ∃ z, x ≤ z ∧ z < y ∧ itP (predE S b) k a = itP (predE S b) z a := by
    intro k
    induction k using Nat.strongRecOn with
    | ind k ih =>
      intro hk
      by_cases hky : k < y
      · exact ⟨k, hk, hky, rfl⟩
      · obtain ⟨z, h1, h2, h3⟩ := ih (k - (y - x)) (by omega) (by omega)
        refine ⟨z, h1, h2, ?_⟩
        rw [← h3, ← per (k - (y - x)) (by omega)]
        congr 1
        omega
  have all : ∀ k, itP (predE S b) k (itP (predE S b) N a) < N ∧ 0 < ρ (itP (predE S b) k (itP (predE S b) N a)) := fun k => by
    rw [← itP_add]
    obtain ⟨z, h1, h2, h3⟩ := low (k + N) (by omega)
    rw [h3]
    have := walk z (by omega)
    exact ⟨this.1, by omega⟩
  refine ⟨fun k hk => ?_, ⟨fun k => ?_, ⟨y - x, by omega, ?_⟩, ⟨τ, fun k => ?_⟩⟩⟩
  · obtain ⟨h1, h2⟩ := walk k hk
    have := h.bn _ h1
    by_cases hkN : 0 < ρ (itP (predE S b) k a)
    · obtain ⟨g1, g2, _⟩ := one _ h1 hkN
      exact ⟨h1, g1, g2⟩
    · omega
  · obtain ⟨h1, h2⟩ := all k
    obtain ⟨g1, g2, g3, _⟩ := one _ h1 h2
    exact ⟨h1, g1, g2, g3⟩
  · rw [← itP_add, Nat.add_comm]
    exact per N (by omega)
  · obtain ⟨h1, h2⟩ := all k
    obtain ⟨_, _, _, g4, g5, _, _⟩ := one _ h1 h2
    exact ⟨g4, g5⟩
/-- the steps of so many nodes -/
def ringC (S : List Es) (b : List Int) (first k : Nat) : List Nat := (List.range k).map fun x => (b.getD (itP (predE S b) x first) 0).toNat
def sumC (S : List Es) : List Nat → Int
  | [] => 0
  | a :: cs => (esAt S a).cost + sumC S cs
theorem sumC_app : ∀ (cs ds : List Nat), sumC S (cs ++ ds) = sumC S cs + sumC S ds
  | [], ds => by show sumC S ds = 0 + _; omega
  | a :: cs, ds => by show (esAt S a).cost + sumC S (cs ++ ds) = (esAt S a).cost + sumC S cs + _; rw [sumC_app cs ds]; omega
theorem PathE.snoc : ∀ {cs : List Nat} {v s a : Nat}, PathE S cs v s → a < S.length → (esAt S a).to = s → PathE S (cs ++ [a]) v (esAt S a).fr
  | [], v, s, a, h, ha, ht => ⟨ha, ht.trans h.symm, rfl⟩
  | c :: cs, v, s, a, ⟨h1, h2, h3⟩, ha, ht => ⟨h1, h2, h3.snoc ha ht⟩
theorem ringC_succ (first k : Nat) : ringC S b first (k + 1) = ringC S b first k ++ [(b.getD (itP (predE S b) k first) 0).toNat] := by simp [ringC, List.range_succ]
theorem OnRing.path {first : Nat} (h : OnRing S N l b first) : ∀ k, PathE S (ringC S b first k) first (itP (predE S b) k first)
  | 0 => rfl
  | k + 1 => by
    rw [ringC_succ]
    obtain ⟨_, _, h1, h2⟩ := h.node k
    exact (h.path k).snoc h1 h2
theorem OnRing.sum {first : Nat} (h : OnRing S N l b first) {m : Nat} (hm : 0 < m) (hb : itP (predE S b) m first = first) : sumC S (ringC S b first m) < 0 := by
  obtain ⟨τ, hg⟩ := h.gain
  have key : ∀ k, sumC S (ringC S b first k) ≤ l.getD first 0 - l.getD (itP (predE S b) k first) 0 ∧ (sumC S (ringC S b first k) = l.getD first 0 - l.getD (itP (predE S b) k first) 0 → τ (itP (predE S b) k first) + (if 0 < k then 1 else 0) ≤ τ first) := by
    intro k
    induction k with
    | zero => exact ⟨by show (0 : Int) ≤ l.getD first 0 - l.getD first 0; omega, fun _ => by show τ first + 0 ≤ τ first; omega⟩
    | succ k ih =>
      obtain ⟨i1, i2⟩ := ih
      obtain ⟨g1, g2⟩ := hg k
      have e : sumC S (ringC S b first (k + 1)) = sumC S (ringC S b first k) + (esAt S (b.getD (itP (predE S b) k first) 0).toNat).cost := by
        rw [ringC_succ, sumC_app]
        show _ + (_ + (0 : Int)) = _
        omega
      rw [e]
      refine ⟨by omega, fun he => ?_⟩
      have h1 := i2 (by omega)
      have h2 := g2 (by omega)
      rw [if_pos (by omega)]
      split at h1 <;> omega
  obtain ⟨k1, k2⟩ := key m
  rw [hb, if_pos hm] at k2
  rw [hb] at k1
  rcases Int.lt_or_le (sumC S (ringC S b first m)) 0 with h1 | h1
  · exact h1
  · have := k2 (by omega); omega
theorem OnRing.nodup {first : Nat} (h : OnRing S N l b first) {m : Nat} (hb : itP (predE S b) m first = first) (hmin : ∀ k, 0 < k → k < m → itP (predE S b) k first ≠ first) : (ringC S b first m).Nodup := by
  refine List.pairwise_iff_getElem.2 fun x y hx hy hxy => ?_
  unfold ringC at hx hy ⊢
  simp only [List.getElem_map, List.getElem_range]
  simp only [List.length_map, List.length_range] at hx hy
  intro e
  obtain ⟨_, _, _, h1⟩ := h.node x
  obtain ⟨_, _, _, h2⟩ := h.node y
  rw [e] at h1
  have e2 : itP (predE S b) x first = itP (predE S b) y first := h1.symm.trans h2
  refine hmin (m - y + x) (by omega) (by omega) ?_
  rw [itP_add, e2, ← itP_add, show m - y + y = m by omega]
  exact hb
end
/-! ### The ground -/
section
variable (nt : Net) (mv : List Int)
def grW (i : Nat) : List Es := [⟨i, nt.ports.length, 0, -1, false⟩] ++ (if 0 < (extL nt mv).getD i 0 then [⟨nt.ports.length, i, 0, -1, false⟩] else [])
def grL (k : Nat) : List Es := (List.range k).flatMap (grW nt mv)
def allS : List Es := esL nt mv nt.ways.length ++ grL nt mv nt.ports.length
end
section
variable {nt : Net} {mv : List Int}
theorem grL_succ (k : Nat) : grL nt mv (k + 1) = grL nt mv k ++ grW nt mv k := by simp [grL, List.range_succ]
theorem grW_len (k : Nat) : (grW nt mv k).length ≤ 2 := by
  unfold grW
  rw [List.length_append]
  split <;> simp
theorem grL_len : ∀ k, (grL nt mv k).length ≤ 2 * k
  | 0 => by simp [grL]
  | k + 1 => by
    have h1 := grL_len k
    have h2 := grW_len (nt := nt) (mv := mv) k
    rw [grL_succ, List.length_append]
    omega
theorem grW_mem {k : Nat} {s : Es} (h : s ∈ grW nt mv k) : s.way = -1 ∧ s.cost = 0 ∧ ((s.fr = k ∧ s.to = nt.ports.length) ∨ (s.fr = nt.ports.length ∧ s.to = k ∧ 0 < (extL nt mv).getD k 0)) := by
  unfold grW at h
  rcases List.mem_append.1 h with h | h
  · rw [List.mem_singleton] at h
    subst h
    exact ⟨rfl, rfl, .inl ⟨rfl, rfl⟩⟩
  · by_cases hc : 0 < (extL nt mv).getD k 0
    · rw [if_pos hc, List.mem_singleton] at h
      subst h
      exact ⟨rfl, rfl, .inr ⟨rfl, rfl, hc⟩⟩
    · rw [if_neg hc] at h; cases h
theorem grL_mem {k : Nat} {s : Es} (h : s ∈ grL nt mv k) : ∃ i, i < k ∧ s ∈ grW nt mv i := by
  obtain ⟨i, h1, h2⟩ := List.mem_flatMap.1 h
  exact ⟨i, List.mem_range.1 h1, h2⟩
theorem grL_uniq : ∀ k, k ≤ nt.ports.length → ∀ a b, a < (grL nt mv k).length → b < (grL nt mv k).length → (esAt (grL nt mv k) a).to = (esAt (grL nt mv k) b).to → (esAt (grL nt mv k) a).to ≠ nt.ports.length → a = b
  | 0, _, a, _, h, _ => by simp [grL] at h
  | k + 1, hk, a, b, ha, hb => by
    intro e hne
    have ih := grL_uniq k (by omega)
    rw [grL_succ] at ha hb e hne
    rw [List.length_append] at ha hb
    rw [esAt_app] at e hne
    rw [esAt_app] at e
    have hold : ∀ a, a < (grL nt mv k).length → (esAt (grL nt mv k) a).to ≠ nt.ports.length → (esAt (grL nt mv k) a).to < k := fun a ha hx => by
      obtain ⟨i, h1, h2⟩ := grL_mem (esAt_mem ha)
      rcases (grW_mem h2).2.2 with ⟨_, h3⟩ | ⟨_, h3, _⟩
      · exact absurd h3 hx
      · omega
    have hnew : ∀ a, a < (grW nt mv k).length → (esAt (grW nt mv k) a).to ≠ nt.ports.length → (esAt (grW nt mv k) a).to = k ∧ a = 1 := fun a ha hx => by
      rcases (grW_mem (esAt_mem ha)).2.2 with ⟨_, h3⟩ | ⟨_, h3, _⟩
      · exact absurd h3 hx
      · refine ⟨h3, ?_⟩
        have := grW_len (nt := nt) (mv := mv) k
        rcases (show a = 0 ∨ a = 1 by omega) with rfl | rfl
        · exact absurd rfl hx
        · rfl
    by_cases hla : a < (grL nt mv k).length <;> by_cases hlb : b < (grL nt mv k).length
    · rw [if_pos hla] at e hne; rw [if_pos hlb] at e; exact ih a b hla hlb e hne
    · rw [if_pos hla] at e hne; rw [if_neg hlb] at e
      have g1 := hold a hla hne
      rw [e] at hne
      have g2 := (hnew _ (by omega) hne).1
      omega
    · rw [if_neg hla] at e hne; rw [if_pos hlb] at e
      have g1 := (hnew _ (by omega) hne).1
      rw [e] at hne
      have g2 := hold b hlb hne
      omega
    · rw [if_neg hla] at e hne; rw [if_neg hlb] at e
      have g1 := (hnew _ (by omega) hne).2
      rw [e] at hne
      have g2 := (hnew _ (by omega) hne).2
      omega
/-- what all steps are like -/
theorem all_each {a : Nat} (ha : a < (allS nt mv).length) : (∃ i, StepOk nt mv (esAt (allS nt mv) a) i) ∨ ((esAt (allS nt mv) a).way = -1 ∧ (esAt (allS nt mv) a).cost = 0 ∧ ∃ q, q < nt.ports.length ∧ (((esAt (allS nt mv) a).fr = q ∧ (esAt (allS nt mv) a).to = nt.ports.length) ∨ ((esAt (allS nt mv) a).fr = nt.ports.length ∧ (esAt (allS nt mv) a).to = q ∧ 0 < (extL nt mv).getD q 0))) := by
  have hA := esL_adm (nt := nt) (mv := mv) nt.ways.length (Nat.le_refl _)
  unfold allS at ha ⊢
  rw [List.length_append] at ha
  rw [esAt_app]
  by_cases hl : a < (esL nt mv nt.ways.length).length
  · rw [if_pos hl]
    rcases hA.1.way a hl with h | h
    · have := (hA.2 a hl).1; omega
    · exact .inl h
  · rw [if_neg hl]
    obtain ⟨q, h1, h2⟩ := grL_mem (esAt_mem (S := grL nt mv nt.ports.length) (i := a - (esL nt mv nt.ways.length).length) (by omega))
    obtain ⟨h3, h4, h5⟩ := grW_mem h2
    exact .inr ⟨h3, h4, q, h1, h5⟩
theorem all_adm : Adm nt mv (allS nt mv) := (esL_adm (nt := nt) (mv := mv) nt.ways.length (Nat.le_refl _)).1.ground fun g hg => by
  obtain ⟨i, _, h⟩ := grL_mem hg
  exact (grW_mem h).1
theorem all_edge (hv : netB nt = true) : EdgeOk (allS nt mv) (nt.ports.length + 1) := by
  obtain ⟨_, _, _, hvw⟩ := netB_ok hv
  have each : ∀ a, a < (allS nt mv).length → ((esAt (allS nt mv) a).fr < nt.ports.length + 1 ∧ (esAt (allS nt mv) a).to < nt.ports.length + 1) ∧ (esAt (allS nt mv) a).fr ≠ (esAt (allS nt mv) a).to ∧ (-1000000 ≤ (esAt (allS nt mv) a).cost ∧ (esAt (allS nt mv) a).cost ≤ 1000000) := fun a ha => by
    rcases all_each ha with ⟨i, h⟩ | ⟨h1, h2, q, h3, ⟨h4, h5⟩ | ⟨h4, h5, _⟩⟩
    · have hw := hvw i h.lt
      cases hb : (esAt (allS nt mv) a).back with
      | true => rw [(h.bwd hb).1, (h.bwd hb).2.1, (h.bwd hb).2.2.1]; omega
      | false => rw [(h.fwd hb).1, (h.fwd hb).2.1, (h.fwd hb).2.2.1]; omega
    · rw [h2, h4, h5]; omega
    · rw [h2, h4, h5]; omega
  exact ⟨fun a ha => (each a ha).1, fun a ha => (each a ha).2.1, fun a ha => (each a ha).2.2⟩
theorem all_len (hv : netB nt = true) : (allS nt mv).length ≤ 720 := by
  obtain ⟨⟨_, h60⟩, hw, _⟩ := netB_ok hv
  have h1 := esL_len (nt := nt) (mv := mv) nt.ways.length
  have h2 := grL_len (nt := nt) (mv := mv) nt.ports.length
  unfold allS
  rw [List.length_append]
  omega
/-- by the ground -/
def grBal (S : List Es) (x : Nat) : List Nat → Int
  | [] => 0
  | a :: cs => (if (esAt S a).way = -1 then balE (esAt S a) x else 0) + grBal S x cs
theorem bal_parts {S : List Es} {x : Nat} : ∀ cs : List Nat, allBal S x cs = wayBal S x cs + grBal S x cs
  | [] => rfl
  | a :: cs => by
    rw [allBal, wayBal, grBal, bal_parts cs]
    split <;> omega
theorem cst_parts {S : List Es} (h : ∀ a, a < S.length → (esAt S a).way = -1 → (esAt S a).cost = 0) : ∀ {cs : List Nat}, (∀ a ∈ cs, a < S.length) → wayCst S cs = sumC S cs
  | [], _ => rfl
  | a :: cs, hc => by
    rw [wayCst, sumC, cst_parts h fun c hcc => hc c (List.mem_cons_of_mem _ hcc)]
    split
    · rename_i e; rw [h a (hc a List.mem_cons_self) e]
    · rfl
theorem grBal_le {S : List Es} {x : Nat} (hu : ∀ a b, a < S.length → b < S.length → (esAt S a).way = -1 → (esAt S b).way = -1 → (esAt S a).to = x → (esAt S b).to = x → a = b) : ∀ {cs : List Nat}, cs.Nodup → (∀ a ∈ cs, a < S.length) → grBal S x cs ≤ 0 ∨ (grBal S x cs ≤ 1 ∧ ∃ a ∈ cs, (esAt S a).way = -1 ∧ (esAt S a).to = x)
  | [], _, _ => .inl (Int.le_refl _)
  | a :: cs, hd, hc => by
    have hd' := List.nodup_cons.1 hd
    have ih := grBal_le hu hd'.2 fun c hcc => hc c (List.mem_cons_of_mem _ hcc)
    rw [grBal]
    by_cases hw : (esAt S a).way = -1
    · rw [if_pos hw]
      unfold balE
      by_cases ht : x = (esAt S a).to
      · rw [if_pos ht]
        rcases ih with h | ⟨h, c, h1, h2, h3⟩
        · refine .inr ⟨?_, a, List.mem_cons_self, hw, ht.symm⟩
          split <;> omega
        · have := hu a c (hc a List.mem_cons_self) (hc c (List.mem_cons_of_mem _ h1)) hw h2 ht.symm h3
          subst this
          exact absurd h1 hd'.1
      · rw [if_neg ht]
        rcases ih with h | ⟨h, c, h1, h2, h3⟩
        · refine .inl ?_
          split <;> omega
        · refine .inr ⟨?_, c, List.mem_cons_of_mem _ h1, h2, h3⟩
          split <;> omega
    · rw [if_neg hw]
      rcases ih with h | ⟨h, c, h1, h2, h3⟩
      · exact .inl (by omega)
      · exact .inr ⟨by omega, c, List.mem_cons_of_mem _ h1, h2, h3⟩
/-- steps around a ring that costs less than nothing -/
theorem ring_take (hv : netB nt = true) (ha : aftErr nt mv = 0) {cs : List Nat} {v : Nat} (hp : PathE (allS nt mv) cs v v) (hd : cs.Nodup) (hs : sumC (allS nt mv) cs < 0) : aftErr nt (takeAll (allS nt mv) mv cs) = 0 ∧ costL nt (takeAll (allS nt mv) mv cs) < costL nt mv := by
  obtain ⟨hml, hok, _⟩ := aft_parts ha
  obtain ⟨_, h2, h3⟩ := take_all hv all_adm cs mv hml hp.lt
  have hcst := cst_parts (S := allS nt mv) (fun a ha hw => by
    rcases all_each ha with ⟨i, h⟩ | ⟨_, h, _⟩
    · have := h.way; omega
    · exact h) hp.lt
  refine ⟨MoreAt.aft (ov := extL nt (takeAll (allS nt mv) mv cs)) ⟨by rw [takeAll_len]; exact hml, rfl, take_ok hv all_adm hml hok hd hp.lt, fun q hq => ?_⟩, by omega⟩
  rw [h3 q hq]
  have h4 := hp.bal q
  rw [bal_parts] at h4
  have h5 := ext_nn ha hq
  have hu : ∀ a b, a < (allS nt mv).length → b < (allS nt mv).length → (esAt (allS nt mv) a).way = -1 → (esAt (allS nt mv) b).way = -1 → (esAt (allS nt mv) a).to = q → (esAt (allS nt mv) b).to = q → a = b := fun a b ha hb hwa hwb hta htb => by
    have hA := esL_adm (nt := nt) (mv := mv) nt.ways.length (Nat.le_refl _)
    unfold allS at ha hb hwa hwb hta htb
    rw [List.length_append] at ha hb
    rw [esAt_app] at hwa hwb hta htb
    by_cases hla : a < (esL nt mv nt.ways.length).length
    · rw [if_pos hla] at hwa; have := (hA.2 a hla).1; omega
    · by_cases hlb : b < (esL nt mv nt.ways.length).length
      · rw [if_pos hlb] at hwb; have := (hA.2 b hlb).1; omega
      · rw [if_neg hla] at hta; rw [if_neg hlb] at htb
        have := grL_uniq (nt := nt) (mv := mv) nt.ports.length (Nat.le_refl _) (a - (esL nt mv nt.ways.length).length) (b - (esL nt mv nt.ways.length).length) (by omega) (by omega) (hta.trans htb.symm) (by omega)
        omega
  rcases grBal_le hu hd hp.lt with h6 | ⟨h6, a, h7, h8, h9⟩
  · split at h4 <;> omega
  · have h10 : 0 < (extL nt mv).getD q 0 := by
      rcases all_each (hp.lt a h7) with ⟨i, h⟩ | ⟨_, _, q', hq', ⟨_, h11⟩ | ⟨_, h11, h12⟩⟩
      · have := h.way; omega
      · omega
      · obtain rfl : q' = q := by omega
        exact h12
    split at h4 <;> omega
/-- where no ring saves money the moves cost least -/
theorem ring_none (hv : netB nt = true) (ha : aftErr nt mv = 0) {l : List Int} (hl : ∀ j, j < (allS nt mv).length → l.getD (esAt (allS nt mv) j).to 0 ≤ l.getD (esAt (allS nt mv) j).fr 0 + (esAt (allS nt mv) j).cost) (m2 : List Int) (h2 : aftErr nt m2 = 0) : costL nt mv ≤ costL nt m2 := by
  obtain ⟨_, _, _, hvw⟩ := netB_ok hv
  obtain ⟨hml, hok, _⟩ := aft_parts ha
  have mem : ∀ s ∈ allS nt mv, l.getD s.to 0 ≤ l.getD s.fr 0 + s.cost := fun s hs => by
    obtain ⟨a, ha, rfl⟩ := List.getElem_of_mem hs
    have e : esAt (allS nt mv) a = (allS nt mv)[a] := by unfold esAt; rw [getD_in ha]
    have := hl a ha
    rw [e] at this
    exact this
  have memW : ∀ i, i < nt.ways.length → ∀ s ∈ esW nt mv i, l.getD s.to 0 ≤ l.getD s.fr 0 + s.cost := fun i hi s hs => mem s (List.mem_append.2 (.inl (List.mem_flatMap.2 ⟨i, List.mem_range.2 hi, hs⟩)))
  have memG : ∀ i, i < nt.ports.length → ∀ s ∈ grW nt mv i, l.getD s.to 0 ≤ l.getD s.fr 0 + s.cost := fun i hi s hs => mem s (List.mem_append.2 (.inr (List.mem_flatMap.2 ⟨i, List.mem_range.2 hi, hs⟩)))
  obtain ⟨pr, epr⟩ : ∃ z, z = (List.range nt.ports.length).map (fun q => l.getD q 0 - l.getD nt.ports.length 0) := ⟨_, rfl⟩
  have hpr : ∀ q, q < nt.ports.length → pr.getD q 0 = l.getD q 0 - l.getD nt.ports.length 0 := fun q hq => by rw [epr]; simp [List.getD, hq]
  have hlow : ∀ q, q < nt.ports.length → l.getD nt.ports.length 0 ≤ l.getD q 0 := fun q hq => by
    have := memG q hq ⟨q, nt.ports.length, 0, -1, false⟩ (by unfold grW; simp)
    simp only at this
    omega
  have hp : ∀ q, 0 ≤ pr.getD q 0 := fun q => by
    by_cases hq : q < nt.ports.length
    · rw [hpr q hq]; have := hlow q hq; omega
    · rw [epr]; simp [List.getD, hq]
  have hP : provesB nt pr mv = true := by
    unfold provesB
    rw [Bool.and_eq_true, List.all_eq_true, List.all_eq_true]
    refine ⟨fun j hj => ?_, fun q hq => ?_⟩
    · have hj := List.mem_range.1 hj
      have hw := hvw j hj
      have h0 := okTo_at hok hj
      unfold wayP
      rw [gainW, hpr _ (by omega), hpr _ (by omega)]
      have g1 : mv.getD j 0 < (nt.ways.getD j way0).room → l.getD (nt.ways.getD j way0).to.toNat 0 ≤ l.getD (nt.ways.getD j way0).fr.toNat 0 + (nt.ways.getD j way0).cost := fun h => memW j hj ⟨(nt.ways.getD j way0).fr.toNat, (nt.ways.getD j way0).to.toNat, (nt.ways.getD j way0).cost, ((j : Nat) : Int), false⟩ (by unfold esW; rw [if_pos h]; simp)
      have g2 : 0 < mv.getD j 0 → l.getD (nt.ways.getD j way0).fr.toNat 0 ≤ l.getD (nt.ways.getD j way0).to.toNat 0 + -(nt.ways.getD j way0).cost := fun h => memW j hj ⟨(nt.ways.getD j way0).to.toNat, (nt.ways.getD j way0).fr.toNat, -(nt.ways.getD j way0).cost, ((j : Nat) : Int), true⟩ (by unfold esW; rw [if_pos h]; simp)
      generalize l.getD (nt.ways.getD j way0).to.toNat 0 = pt at *
      generalize l.getD (nt.ways.getD j way0).fr.toNat 0 = pf at *
      simp only [Bool.and_eq_true, Bool.not_eq_true', Bool.and_eq_false_iff, decide_eq_false_iff_not]
      refine ⟨?_, ?_⟩
      · by_cases h : 0 < mv.getD j 0
        · have := g2 h; exact .inl (by omega)
        · exact .inr h
      · by_cases h : mv.getD j 0 < (nt.ways.getD j way0).room
        · have := g1 h; exact .inl (by omega)
        · exact .inr h
    · have hq := List.mem_range.1 hq
      unfold prtP
      rw [hpr q hq]
      simp only [Bool.not_eq_true', Bool.and_eq_false_iff, decide_eq_false_iff_not]
      by_cases h : 0 < (extL nt mv).getD q 0
      · refine .inl ?_
        have := memG q hq ⟨nt.ports.length, q, 0, -1, false⟩ (by unfold grW; rw [if_pos h]; simp)
        simp only at this
        omega
      · exact .inr h
  have := strong hv ha hp hP
  have := weak hv h2 hp
  omega
/-! ### What the reference answers -/
def takeL (mv : List Int) (R : List Es) : List Int := R.foldl takeM mv
def ringL (S : List Es) (cs : List Nat) : List Es := (cs.map (esAt S)).filter fun s => decide (0 ≤ s.way)
theorem takeL_ring {S : List Es} (h : ∀ a, a < S.length → -1 ≤ (esAt S a).way) : ∀ {cs : List Nat} {mv : List Int}, (∀ a ∈ cs, a < S.length) → takeL mv (ringL S cs) = takeAll S mv cs
  | [], mv, _ => rfl
  | a :: cs, mv, hc => by
    have h1 := h a (hc a List.mem_cons_self)
    have ih := fun m => takeL_ring h (cs := cs) (mv := m) fun c hcc => hc c (List.mem_cons_of_mem _ hcc)
    rw [takeAll_cons, ← ih]
    unfold ringL
    rw [List.map_cons, List.filter_cons]
    split
    · rfl
    · rename_i e
      have e2 : (esAt S a).way = -1 := by simp only [decide_eq_true_eq] at e; omega
      unfold takeM
      rw [if_pos e2]
def RingR (nt : Net) (mv : List Int) (R : List Es) : Prop := (R = [] ∧ ∀ m2, aftErr nt m2 = 0 → costL nt mv ≤ costL nt m2) ∨ (R ≠ [] ∧ (∀ s ∈ R, 0 ≤ s.way ∧ s.way < nt.ways.length) ∧ aftErr nt (takeL mv R) = 0 ∧ costL nt (takeL mv R) < costL nt mv)
theorem all_way {a : Nat} (ha : a < (allS nt mv).length) : -1 ≤ (esAt (allS nt mv) a).way ∧ (0 ≤ (esAt (allS nt mv) a).way → (esAt (allS nt mv) a).way < nt.ways.length) := by
  rcases all_each ha with ⟨i, h⟩ | ⟨h, _⟩
  · have := h.way; have := h.lt; omega
  · omega
theorem ring_some (hv : netB nt = true) (ha : aftErr nt mv = 0) {l b : List Int} {first m : Nat} (h : OnRing (allS nt mv) (nt.ports.length + 1) l b first) (hm : 0 < m) (hb : itP (predE (allS nt mv) b) m first = first) (hmin : ∀ k, 0 < k → k < m → itP (predE (allS nt mv) b) k first ≠ first) : RingR nt mv (ringL (allS nt mv) (ringC (allS nt mv) b first m)) := by
  have hp := h.path m
  rw [hb] at hp
  obtain ⟨h1, h2⟩ := ring_take hv ha hp (h.nodup hb hmin) (h.sum hm hb)
  rw [← takeL_ring (fun a ha => (all_way ha).1) hp.lt] at h1 h2
  refine .inr ⟨fun e => ?_, fun s hs => ?_, h1, h2⟩
  · rw [e] at h2
    exact absurd h2 (Int.lt_irrefl _)
  · unfold ringL at hs
    obtain ⟨h3, h4⟩ := List.mem_filter.1 hs
    obtain ⟨a, h5, rfl⟩ := List.mem_map.1 h3
    have h4 := of_decide_eq_true h4
    exact ⟨h4, (all_way (hp.lt a h5)).2 h4⟩
def LeastR (nt : Net) (c : Int) (ok : Bool) : Prop := (ok = true ∧ ∃ m, aftErr nt m = 0 ∧ costL nt m = c ∧ ∀ m2, aftErr nt m2 = 0 → c ≤ costL nt m2) ∨ (ok = false ∧ c = 0 ∧ ∀ m2, aftErr nt m2 ≠ 0)
/-- both find the same cost -/
theorem least_move {ml pr : List Int} {c c2 e : Int} {ok : Bool} (hv : netB nt = true) (h : MoveR nt ml c pr e) (h2 : LeastR nt c2 ok) : (ok = true ∧ e = 0 ∧ c = c2) ∨ (ok = false ∧ e = 7 ∧ c = 0 ∧ ml = [] ∧ pr = [] ∧ c2 = 0) := by
  rcases move_err hv h with ⟨rfl, m, hm⟩ | ⟨h3, h4, h5, h6, h7⟩ <;> rcases h2 with ⟨g1, m', g2, g3, g4⟩ | ⟨g1, g2, g3⟩
  · obtain ⟨k1, _, _, k4, _⟩ := move_ok hv h
    have := g4 _ k1
    have := move_least hv h g2
    exact .inl ⟨g1, rfl, by omega⟩
  · exact absurd hm (g3 m)
  · exact absurd g2 (h7 m')
  · exact .inr ⟨g1, h3, h4, h5, h6, g2⟩
end
end Go.Proofs.Ytabgmnmpdjnjoaa
set_option linter.unusedVariables false
namespace Go.Proofs.Ytabgmnmpdjnjoaa
open Go Go.RowKit
def stepC (s : Es) : List Value := [.int .i64 s.way, .bool s.back]
def endC (s : Es) : List Value := [.int .i64 (s.fr : Nat), .int .i64 (s.to : Nat), .int .i64 s.cost]
def stepsC (l : List Es) : List Value := l.flatMap stepC
def endsC (l : List Es) : List Value := l.flatMap endC
theorem stepC_len (s : Es) : (stepC s).length = 2 := rfl
theorem endC_len (s : Es) : (endC s).length = 3 := rfl
theorem stepsC_len (l : List Es) : (stepsC l).length = l.length * 2 := flat_len stepC_len l
theorem endsC_len (l : List Es) : (endsC l).length = l.length * 3 := flat_len endC_len l
theorem stepsC_app (l m : List Es) : stepsC (l ++ m) = stepsC l ++ stepsC m := by simp [stepsC]
theorem endsC_app (l m : List Es) : endsC (l ++ m) = endsC l ++ endsC m := by simp [endsC]
theorem steps_cells (l : List Es) (k : Nat) (hk : k < l.length) (w : World) (B : Nat) (A : Option Addr) (n c : Nat) (hr : Rd w B 2 (.slice A n c) n (stepsC l)) :
    ∃ b off, A = some ⟨b, off, none⟩ ∧ b < B ∧ w.cell? ⟨b, off + k * 2, none⟩ = some (.int .i64 (esAt l k).way) ∧ w.cell? ⟨b, off + k * 2 + 1, none⟩ = some (.bool (esAt l k).back) := by
  have hl : n * 2 = l.length * 2 := by rw [← hr.len, stepsC_len]
  obtain ⟨b, off, rfl, hb, hc⟩ := hr.at_ (by omega)
  have e : esAt l k = l[k] := by unfold esAt; exact getD_in hk
  rw [e]
  exact ⟨b, off, rfl, hb, hc (k * 2) _ (flat_get stepC_len l k hk 0 (by omega)), hc (k * 2 + 1) _ (flat_get stepC_len l k hk 1 (by omega))⟩
theorem ends_cells (l : List Es) (k : Nat) (hk : k < l.length) (w : World) (B : Nat) (A : Option Addr) (n c : Nat) (hr : Rd w B 3 (.slice A n c) n (endsC l)) :
    ∃ b off, A = some ⟨b, off, none⟩ ∧ b < B ∧ w.cell? ⟨b, off + k * 3, none⟩ = some (.int .i64 ((esAt l k).fr : Nat)) ∧ w.cell? ⟨b, off + k * 3 + 1, none⟩ = some (.int .i64 ((esAt l k).to : Nat)) ∧ w.cell? ⟨b, off + k * 3 + 2, none⟩ = some (.int .i64 (esAt l k).cost) := by
  have hl : n * 3 = l.length * 3 := by rw [← hr.len, endsC_len]
  obtain ⟨b, off, rfl, hb, hc⟩ := hr.at_ (by omega)
  have e : esAt l k = l[k] := by unfold esAt; exact getD_in hk
  rw [e]
  have g := fun j hj => flat_get endC_len l k hk j hj
  exact ⟨b, off, rfl, hb, hc (k * 3) _ (g 0 (by omega)), hc (k * 3 + 1) _ (g 1 (by omega)), hc (k * 3 + 2) _ (g 2 (by omega))⟩
theorem steps_push (l : List Es) (s : Es) : stepsC (l ++ [s]) = stepsC l ++ [.int .i64 s.way, .bool s.back] := by rw [stepsC_app]; rfl
theorem ends_push (l : List Es) (s : Es) : endsC (l ++ [s]) = endsC l ++ [.int .i64 (s.fr : Nat), .int .i64 (s.to : Nat), .int .i64 s.cost] := by rw [endsC_app]; rfl
def esF (nt : Net) (mv : List Int) (i : Nat) : List Es := if mv.getD i 0 < (nt.ways.getD i way0).room then [⟨(nt.ways.getD i way0).fr.toNat, (nt.ways.getD i way0).to.toNat, (nt.ways.getD i way0).cost, ((i : Nat) : Int), false⟩] else []
def esB (nt : Net) (mv : List Int) (i : Nat) : List Es := if 0 < mv.getD i 0 then [⟨(nt.ways.getD i way0).to.toNat, (nt.ways.getD i way0).fr.toNat, -(nt.ways.getD i way0).cost, ((i : Nat) : Int), true⟩] else []
theorem esL_two (nt : Net) (mv : List Int) (k : Nat) : esL nt mv (k + 1) = (esL nt mv k ++ esF nt mv k) ++ esB nt mv k := by rw [esL_succ, List.append_assoc]; rfl
theorem esF_len (nt : Net) (mv : List Int) (k : Nat) : (esF nt mv k).length ≤ 1 := by unfold esF; split <;> simp
end Go.Proofs.Ytabgmnmpdjnjoaa
set_option linter.unusedVariables false
set_option linter.unusedSimpArgs false
namespace Go.Proofs.Ytabgmnmpdjnjoaa
open Go Go.RowKit
section
variable {n : Nat} {σ : Sg} {w : World} {dst : Option Tmp} {ty : TypeId} {pos : String} {af : Array Edge} {g : Option (Nat × Bool)} {x y z : Operand} {at' : Array TypeId}
theorem cl_12 {x0 : Operand} {v0 : Value} (h0 : evS σ x0 = some v0) (a : Act) (ha : Env n σ a) : (execOp a.eval ⟨dst, .call { callee := .value (.func 12), args := #[x0], argTypes := at' }, ty, pos, af, g⟩).run Try.prog w = .ok (.enter 12 #[v0]) w := by
  simp only [execOp, resolve, List.map_toArray, List.map_cons, List.map_nil, ha.eval h0]
  simp [go_sem, Act.eval]
end
end Go.Proofs.Ytabgmnmpdjnjoaa
set_option linter.unusedVariables false
set_option linter.unusedSimpArgs false
namespace Go.Proofs.Ytabgmnmpdjnjoaa
open Go Go.RowKit
section
variable {n : Nat} {σ : Sg} {w : World} {dst : Option Tmp} {ty : TypeId} {pos : String} {af : Array Edge} {g : Option (Nat × Bool)} {x y z : Operand} {at' : Array TypeId}
theorem bx_89 {v0 v1 : Value} (hx : evS σ x = some (.agg #[v0, v1])) (a : Act) (ha : Env n σ a) : (execOp a.eval ⟨dst, .box 89 x, ty, pos, af, g⟩).run Try.prog w = .ok (.value (.pointer (some ⟨w.heap.size, 0, none⟩))) (w.alloc (.cells #[v0, v1] 89)) := by
  simp only [execOp, ha.eval hx]
  simp [go_sem]
theorem fa_89_1 {b o : Nat} (hx : evS σ x = some (.pointer (some ⟨b, o, none⟩))) : Gives Try.prog n σ w ⟨dst, .fieldAddr 89 x 1, ty, pos, af, g⟩ (.pointer (some ⟨b, o + 1, none⟩)) := fun a ha => by
  simp only [execOp, ha.eval hx]
  simp [go_sem]
theorem fa_89_0 {b o : Nat} (hx : evS σ x = some (.pointer (some ⟨b, o, none⟩))) : Gives Try.prog n σ w ⟨dst, .fieldAddr 89 x 0, ty, pos, af, g⟩ (.pointer (some ⟨b, o, none⟩)) := fun a ha => by
  simp only [execOp, ha.eval hx]
  simp [go_sem]
theorem bs_85_0 (a : Act) (_ : Env n σ a) : (execOp a.eval ⟨dst, .buildSlice 85 0 #[], ty, pos, af, g⟩).run Try.prog w = .ok (.value (.slice (some ⟨w.heap.size, 0, none⟩) 0 0)) (w.alloc (.cells #[] 89)) := by
  simp only [execOp]
  go_simp
theorem bs_123_0 (a : Act) (_ : Env n σ a) : (execOp a.eval ⟨dst, .buildSlice 123 0 #[], ty, pos, af, g⟩).run Try.prog w = .ok (.value (.slice (some ⟨w.heap.size, 0, none⟩) 0 0)) (w.alloc (.cells #[] 128)) := by
  simp only [execOp]
  go_simp
theorem bs_85_1 {x0 : Operand} {v0_0 v0_1 : Value} (h0 : evS σ x0 = some (.agg #[v0_0, v0_1]))  (a : Act) (ha : Env n σ a) : (execOp a.eval ⟨dst, .buildSlice 85 1 #[(0, x0)], ty, pos, af, g⟩).run Try.prog w = .ok (.value (.slice (some ⟨w.heap.size, 0, none⟩) 1 1)) (w.alloc (.cells #[v0_0, v0_1] 89)) := by
  simp only [execOp, List.map_toArray, List.map_cons, List.map_nil, ha.eval h0]
  go_simp
theorem bs_123_1 {x0 : Operand} {v0_0 v0_1 v0_2 : Value} (h0 : evS σ x0 = some (.agg #[v0_0, v0_1, v0_2]))  (a : Act) (ha : Env n σ a) : (execOp a.eval ⟨dst, .buildSlice 123 1 #[(0, x0)], ty, pos, af, g⟩).run Try.prog w = .ok (.value (.slice (some ⟨w.heap.size, 0, none⟩) 1 1)) (w.alloc (.cells #[v0_0, v0_1, v0_2] 128)) := by
  simp only [execOp, List.map_toArray, List.map_cons, List.map_nil, ha.eval h0]
  go_simp
theorem bd_89_0_1 {x0 x1 : Operand} {z0 : Int} {b1 : Bool} (h0 : evS σ x0 = some (.int .i64 z0)) (h1 : evS σ x1 = some (.bool b1)) : Gives Try.prog n σ w ⟨dst, .build 89 #[(0, x0), (1, x1)], ty, pos, af, g⟩ (.agg #[.int .i64 z0, .bool b1]) := fun a ha => by
  simp only [execOp, List.map_toArray, List.map_cons, List.map_nil, ha.eval h0, ha.eval h1]
  go_simp
theorem bd_128_0_1_2 {x0 x1 x2 : Operand} {z0 : Int} {z1 : Int} {z2 : Int} (h0 : evS σ x0 = some (.int .i64 z0)) (h1 : evS σ x1 = some (.int .i64 z1)) (h2 : evS σ x2 = some (.int .i64 z2)) : Gives Try.prog n σ w ⟨dst, .build 128 #[(0, x0), (1, x1), (2, x2)], ty, pos, af, g⟩ (.agg #[.int .i64 z0, .int .i64 z1, .int .i64 z2]) := fun a ha => by
  simp only [execOp, List.map_toArray, List.map_cons, List.map_nil, ha.eval h0, ha.eval h1, ha.eval h2]
  go_simp
end
end Go.Proofs.Ytabgmnmpdjnjoaa
set_option linter.unusedVariables false
set_option linter.unusedSimpArgs false
namespace Go.Proofs.Ytabgmnmpdjnjoaa
open Go Go.RowKit
theorem step_info : (Try.prog.info? 89).map (fun i => (i.zero, i.size, i.bytes)) = some (some (.agg #[.int .i64 0, .bool false]), 2, 16) := by kernel_rfl
theorem step_elem : Elem Try.prog 85 89 2 16 := Elem.mk' Try.underlying85 step_info rfl (by omega)
theorem end_info : (Try.prog.info? 128).map (fun i => (i.zero, i.size, i.bytes)) = some (some (.agg #[.int .i64 0, .int .i64 0, .int .i64 0]), 3, 24) := by kernel_rfl
theorem end_elem : Elem Try.prog 123 128 3 24 := Elem.mk' Try.underlying123 end_info rfl (by omega)
theorem bool_elem : Elem Try.prog 51 4 1 1 := Elem.mk' Try.underlying51 (z := .bool false) (by kernel_rfl) rfl (by omega)
theorem take_f {mv : List Int} {s : Es} {k : Nat} (h : s.way = ((k : Nat) : Int)) (hb : s.back = false) : takeM mv s = mv.set k (mv.getD k 0 + 1) := by
  unfold takeM
  rw [if_neg (by omega), h, Int.toNat_natCast, hb]
  rfl
theorem take_b {mv : List Int} {s : Es} {k : Nat} (h : s.way = ((k : Nat) : Int)) (hb : s.back = true) : takeM mv s = mv.set k (mv.getD k 0 - 1) := by
  unfold takeM
  rw [if_neg (by omega), h, Int.toNat_natCast, hb]
  rfl
theorem take_raw {base g n c k : Nat} {mv : List Int} {bk : Bool} (w : World) (ho : w.ownsRow base 3 1 (.slice (some ⟨g, 0, none⟩) n c) n (ints mv)) (hml : mv.length = n) (hk : k < n) (hbd : -1000000 ≤ mv.getD k 0 ∧ mv.getD k 0 ≤ 1000000) :
    Calls Try.prog 47 #[.slice (some ⟨g, 0, none⟩) n c, .agg #[.int .i64 (k : Nat), .bool bk]] w fun e w' => e = .returned (.tuple #[]) ∧ w'.ownsRow base 3 1 (.slice (some ⟨g, 0, none⟩) n c) n (ints (if bk = true then mv.set k (mv.getD k 0 - 1) else mv.set k (mv.getD k 0 + 1))) ∧ w.grownBy w' (some g) := by
  have hgg := grown_refl w (some g)
  refine EC.enter 20 Try.func47 rfl rfl rfl ?_
  refine EC.seq ?_
  refine EC.region ?_
  refine EL.newP (bx_89 rfl) rfl ?_
  intro g1 w1 q1 hb1 hg1 hl1
  replace ho := own_below ho hb1 (Nat.le_refl _)
  replace hgg := grown_thenB hgg hb1
  clear hb1 hg1 hl1
  refine EL.nil ?_
  refine EX.seq ?_
  refine EC.seq ?_
  refine EC.region ?_
  refine EL.val (fa_89_1 rfl) rfl ?_
  refine EL.val (ld_4 rfl (q1.at (j := 1) rfl)) rfl ?_
  refine EL.nil ?_
  refine EX.seq ?_
  cases bk
  ·
    have rc := own_int_cell ho (k := k) (by omega)
    refine EC.no rfl ?_
    refine EC.region ?_
    refine EL.val (x_move rfl) rfl ?_
    refine EL.val (fa_89_0 rfl) rfl ?_
    refine EL.val (ld_3 rfl (q1.at (j := 0) rfl)) rfl ?_
    refine EL.val (ix_29 rfl rfl hk) rfl ?_
    refine EL.val (ld_3 rfl rc) rfl ?_
    refine EL.val (x_add rfl rfl (c := mv.getD k 0 + 1) (IntWalk.i64_in _ ⟨by omega, by omega⟩)) rfl ?_
    refine EL.val (ix_29 rfl rfl hk) rfl ?_
    refine EL.storeRow (l' := [.int .i64 (mv.getD k 0 + 1)]) rfl rfl ho sz_3 rfl rfl (by rw [ints_len, Nat.zero_add]; omega) rfl ?_
    intro w2 ho2 hgr
    rw [Nat.zero_add, spl_ints (by omega)] at ho2
    replace hgg := grown_three hgg hgr
    clear ho hgr
    refine EL.nil ?_
    exact EX.done' (res0 rfl) ⟨rfl, ho2, hgg⟩
  ·
    have rc := own_int_cell ho (k := k) (by omega)
    refine EC.yes rfl ?_
    refine EC.region ?_
    refine EL.val (x_move rfl) rfl ?_
    refine EL.val (fa_89_0 rfl) rfl ?_
    refine EL.val (ld_3 rfl (q1.at (j := 0) rfl)) rfl ?_
    refine EL.val (ix_29 rfl rfl hk) rfl ?_
    refine EL.val (ld_3 rfl rc) rfl ?_
    refine EL.val (x_sub rfl rfl (c := mv.getD k 0 - 1) (IntWalk.i64_in _ ⟨by omega, by omega⟩)) rfl ?_
    refine EL.val (ix_29 rfl rfl hk) rfl ?_
    refine EL.storeRow (l' := [.int .i64 (mv.getD k 0 - 1)]) rfl rfl ho sz_3 rfl rfl (by rw [ints_len, Nat.zero_add]; omega) rfl ?_
    intro w3 ho2 hgr
    rw [Nat.zero_add, spl_ints (by omega)] at ho2
    replace hgg := grown_three hgg hgr
    clear ho hgr
    refine EL.nil ?_
    exact EX.done' (res0 rfl) ⟨rfl, ho2, hgg⟩
theorem take_any {base g n c : Nat} {mv : List Int} {s : Es} (w : World) (ho : w.ownsRow base 3 1 (.slice (some ⟨g, 0, none⟩) n c) n (ints mv)) (hml : mv.length = n) (h0 : 0 ≤ s.way) (h1 : s.way < n) (hbd : -1000000 ≤ mv.getD s.way.toNat 0 ∧ mv.getD s.way.toNat 0 ≤ 1000000) :
    Calls Try.prog 47 #[.slice (some ⟨g, 0, none⟩) n c, .agg #[.int .i64 s.way, .bool s.back]] w fun e w' => e = .returned (.tuple #[]) ∧ w'.ownsRow base 3 1 (.slice (some ⟨g, 0, none⟩) n c) n (ints (takeM mv s)) ∧ w.grownBy w' (some g) := by
  obtain ⟨k, hk⟩ := Int.eq_ofNat_of_zero_le h0
  have hk2 : s.way = ((k : Nat) : Int) := hk
  rw [hk2, Int.toNat_natCast] at hbd
  have key := take_raw (k := k) (bk := s.back) w ho hml (by omega) hbd
  have e : (if s.back = true then mv.set k (mv.getD k 0 - 1) else mv.set k (mv.getD k 0 + 1)) = takeM mv s := by
    cases hb : s.back with
    | true => rw [if_pos rfl, take_b hk2 hb]
    | false => rw [if_neg (by decide), take_f hk2 hb]
  rw [e] at key
  rw [hk2]
  exact key
set_option maxHeartbeats 1000000 in
set_option maxRecDepth 100000 in
theorem rsteps_any (nt : Net) (mv : List Int) (vp vw vm : Value) (w : World) (B : Nat) (hr : RdNet w B vp vw nt) (hrm : Rd w B 1 vm mv.length (ints mv)) (hB : B ≤ w.heap.size) (hv : netB nt = true) (hml : mv.length = nt.ways.length) :
    Calls Try.prog 70 #[.agg #[vp, vw], vm] w fun e w' => (∃ v1 v2, e = .returned (.tuple #[v1, v2]) ∧ w'.ownsRow w.heap.size 89 2 v1 ((esL nt mv nt.ways.length)).length (stepsC ((esL nt mv nt.ways.length))) ∧ w'.ownsRow w.heap.size 128 3 v2 ((esL nt mv nt.ways.length)).length (endsC ((esL nt mv nt.ways.length)))) ∧ Below w.heap.size w w' := by
  obtain ⟨Ap, cp_, rfl, _⟩ := hr.ports.shape
  obtain ⟨Aw, cw_, rfl, _⟩ := hr.ways.shape
  obtain ⟨Am, cm_, rfl, _⟩ := hrm.shape
  obtain ⟨⟨hp1, hp60⟩, hw300, hvp, hvw⟩ := netB_ok hv
  have hbw := Below.refl w.heap.size w
  refine EC.enter 69 Try.func70 rfl rfl rfl ?_
  refine EC.seq ?_
  refine EC.region ?_
  refine EL.newP (bx_25 rfl) rfl ?_
  intro g1 w1 q1 hb1 hg1 hl1
  have bhbw_1 := Nat.le_trans hbw.size hg1
  replace hbw := Below.on hbw hb1 hbw.size
  clear hb1 hg1 hl1
  refine EL.val (x_assign rfl) rfl ?_
  refine EL.val (x_assign rfl) rfl ?_
  refine EL.nil ?_
  refine EX.seq ?_
  refine EC.seq ?_
  refine EC.region ?_
  refine EL.newS bs_85_0 rfl ?_
  intro g2 w2 q2 hb2 hg2 hl2
  have n1_2 : g1 ≠ g2 := Nat.ne_of_lt (Nat.lt_of_lt_of_le q1.lt hg2)
  have bhbw_2 := Nat.le_trans hbw.size hg2
  replace q1 := q1.below hb2 q1.lt
  replace hbw := Below.on hbw hb2 hbw.size
  clear hb2 hl2
  have hos : World.ownsRow w2 w.heap.size 89 2 (.slice (some ⟨g2, 0, none⟩) 0 0) 0 [] := own_empty 2 q2 (by have := hbw.size; first | exact bhbw_2 | omega)
  refine EL.newS bs_123_0 rfl ?_
  intro g3 w3 q3 hb3 hg3 hl3
  have n1_3 : g1 ≠ g3 := Nat.ne_of_lt (Nat.lt_of_lt_of_le q1.lt hg3)
  have bhbw_3 := Nat.le_trans hbw.size hg3
  replace q1 := q1.below hb3 q1.lt
  replace hos := own_below hos hb3 (Nat.le_refl _)
  replace hbw := Below.on hbw hb3 hbw.size
  clear hb3 hl3
  have hoe : World.ownsRow w3 w.heap.size 128 3 (.slice (some ⟨g3, 0, none⟩) 0 0) 0 [] := own_empty 3 q3 (by have := hbw.size; first | exact bhbw_3 | omega)
  refine EL.val (x_assign rfl) rfl ?_
  refine EL.val (x_assign rfl) rfl ?_
  refine EL.nil ?_
  refine EX.seq ?_
  refine EC.seq ?_
  refine EC.seq ?_
  refine EC.region ?_
  refine EL.val (x_assign rfl) rfl ?_
  refine EL.nil ?_
  refine EX.seq ?_
  refine EC.block ?_
  refine EC.loopD [6, 7, 8, 9, 12, 13, 14, 15, 16, 17, 18, 19, 20, 21, 22, 23, 24, 25, 26, 27, 28, 29, 30, 31, 32, 33, 34, 35, 36, 37, 38, 39, 40, 41, 42, 43, 44, 45, 46, 47, 48, 49, 50, 51, 52, 53, 54, 55, 56, 57, 58, 59, 60, 61, 62, 63, 64, 65, 66] (fun x : Nat × Value × Value => [(6, x.2.1), (7, x.2.2), (8, .int .i64 (x.1 : Nat))]) (fun x W => x.1 ≤ nt.ways.length ∧ W.ownsRow w.heap.size 89 2 x.2.1 ((esL nt mv x.1)).length (stepsC ((esL nt mv x.1))) ∧ W.ownsRow w.heap.size 128 3 x.2.2 ((esL nt mv x.1)).length (endsC ((esL nt mv x.1))) ∧ Blk W g1 25 #[.slice Ap nt.ports.length cp_, .slice Aw nt.ways.length cw_] ∧ Below w.heap.size w W) (fun x => nt.ways.length - x.1) (0, .slice (some ⟨g2, 0, none⟩) 0 0, .slice (some ⟨g3, 0, none⟩) 0 0) ⟨Nat.zero_le _, hos, hoe, q1, hbw⟩ ⟨rfl, rfl, rfl, trivial⟩ ?_
  clear q1 hos hoe hbw
  rintro ⟨x, vs_, ve_⟩ wx ⟨hx, hos, hoe, q2x, hbw⟩
  dsimp only at hx hos hoe
  obtain ⟨S0, eS0⟩ : ∃ z, z = esL nt mv x := ⟨_, rfl⟩
  rw [← eS0] at hos hoe
  obtain ⟨As, cs_, rfl, _⟩ := (Rd.of_own hos).shape
  obtain ⟨Ae, ce_, rfl, _⟩ := (Rd.of_own hoe).shape
  by_cases hlt : x < nt.ways.length
  ·
    have hesl := esL_len (nt := nt) (mv := mv) x
    have hfl := esF_len nt mv x
    have hs2 := esL_two nt mv x
    have eF : esF nt mv x = if mv.getD x 0 < (nt.ways.getD x way0).room then [⟨(nt.ways.getD x way0).fr.toNat, (nt.ways.getD x way0).to.toNat, (nt.ways.getD x way0).cost, ((x : Nat) : Int), false⟩] else [] := rfl
    have eB : esB nt mv x = if 0 < mv.getD x 0 then [⟨(nt.ways.getD x way0).to.toNat, (nt.ways.getD x way0).fr.toNat, -(nt.ways.getD x way0).cost, ((x : Nat) : Int), true⟩] else [] := rfl
    obtain ⟨S2, eS2⟩ : ∃ z, z = esF nt mv x := ⟨_, rfl⟩
    obtain ⟨S3, eS3⟩ : ∃ z, z = esB nt mv x := ⟨_, rfl⟩
    rw [← eS0] at hesl hs2
    rw [← eS2] at hfl hs2 eF
    rw [← eS3] at hs2 eB
    obtain ⟨bw, ow, e_, _, wc⟩ := ways_cells nt.ways x hlt _ _ _ _ _ hr.ways
    subst e_
    obtain ⟨bm, om, e_, _, mc⟩ := ints_cells mv x (by omega) _ _ _ _ _ hrm
    subst e_
    obtain ⟨⟨wf0, wf1⟩, ⟨wt0, wt1⟩, wne, ⟨wc0, wc1⟩, wr0, wr1⟩ := hvw x hlt
    obtain ⟨y, ey⟩ : ∃ z, z = nt.ways.getD x way0 := ⟨_, rfl⟩
    obtain ⟨m, em⟩ : ∃ z, z = mv.getD x 0 := ⟨_, rfl⟩
    rw [← em] at mc eF eB
    rw [← ey] at wc wf0 wf1 wt0 wt1 wne wc0 wc1 wr0 wr1 eF eB
    clear ey em eS0 eS2 eS3
    obtain ⟨yf, yt, yc, yr⟩ := y
    obtain ⟨wk0, wk1, wk2, wk3⟩ := wc
    dsimp only at wf0 wf1 wt0 wt1 wne wc0 wc1 wr0 wr1 wk0 wk1 wk2 wk3 eF eB
    obtain ⟨f_, rfl⟩ := Int.eq_ofNat_of_zero_le wf0
    obtain ⟨t_, rfl⟩ := Int.eq_ofNat_of_zero_le wt0
    simp only [Int.toNat_natCast] at eF eB
    refine EC.seq ?_
    refine EC.seq ?_
    refine EC.region ?_
    refine EL.val (x_move rfl) rfl ?_
    refine EL.val (fa_25_1 rfl) rfl ?_
    refine EL.val (ld_23 rfl (q2x.at (j := 1) rfl)) rfl ?_
    refine EL.val (ln_23 rfl) rfl ?_
    refine EL.val (x_lss rfl rfl (decide_eq_true (show (((x : Nat) : Int) < ((nt.ways.length : Nat) : Int)) by omega))) rfl ?_
    refine EL.nil ?_
    refine EX.seq ?_
    refine EC.yes rfl ?_
    refine EC.skip ?_
    refine EX.seq ?_
    refine EC.seq ?_
    refine EC.block ?_
    refine EC.seq ?_
    refine EC.region ?_
    refine EL.val (fa_25_1 rfl) rfl ?_
    refine EL.val (ld_23 rfl (q2x.at (j := 1) rfl)) rfl ?_
    refine EL.val (x_move rfl) rfl ?_
    refine EL.val (ix_23 rfl rfl hlt) rfl ?_
    refine EL.val (ld_56 rfl (below_load hbw wk0) (below_load hbw wk1) (below_load hbw wk2) (below_load hbw wk3)) rfl ?_
    refine EL.newP al_56 rfl ?_
    intro g4 w4 q4 hb4 hg4 hl4
    have n1_4 : g1 ≠ g4 := Nat.ne_of_lt (Nat.lt_of_lt_of_le q2x.lt hg4)
    have bhbw_4 := Nat.le_trans hbw.size hg4
    replace q2x := q2x.below hb4 q2x.lt
    replace hos := own_below hos hb4 (Nat.le_refl _)
    replace hoe := own_below hoe hb4 (Nat.le_refl _)
    replace hbw := Below.on hbw hb4 hbw.size
    clear hb4 hg4 hl4
    refine EL.store rfl rfl q4 sz_56 rfl rfl rfl rfl ?_
    intro w5 hq5 hg5
    replace q2x := q2x.grown hg5 (fun h => n1_4 (Option.some.inj h))
    replace hos := own_type hos q4 rfl hg5
    replace hoe := own_type hoe q4 rfl hg5
    replace hbw := below_store hbw hg5 bhbw_4
    replace q4 := hq5
    clear hg5 hq5
    refine EL.nil ?_
    refine EX.seq ?_
    refine EC.cutD [6, 7, 24, 25, 26, 27, 28, 29, 30, 31, 32, 33, 34, 35, 36, 37, 38, 39, 40, 41, 42, 43, 44, 45] (fun x : Value × Value => [(6, x.1), (7, x.2)]) (fun x W => W.ownsRow w.heap.size 89 2 x.1 (S0 ++ S2).length (stepsC (S0 ++ S2)) ∧ W.ownsRow w.heap.size 128 3 x.2 (S0 ++ S2).length (endsC (S0 ++ S2)) ∧ Blk W g1 25 #[.slice Ap nt.ports.length cp_, .slice (some ⟨bw, ow, none⟩) nt.ways.length cw_] ∧ Blk W g4 56 #[.int .i64 (f_ : Nat), .int .i64 (t_ : Nat), .int .i64 yc, .int .i64 yr] ∧ Below w.heap.size w W) ?_ ?_
    ·
      by_cases hc : m < yr
      ·
        rw [if_pos hc] at eF
        refine EC.seq ?_
        refine EC.regionQ (by kernel_rfl) (by kernel_rfl) ?_
        refine EQ.val (fun _ hw => (x_move rfl)) rfl ?_
        refine EQ.val (fun _ hw => (x_move rfl)) rfl ?_
        refine EQ.val (fun _ hw => (ix_29 rfl rfl (show x < mv.length by omega))) rfl ?_
        refine EQ.val (fun _ hw => (ld_3 rfl (below_load hw (below_load hbw mc)))) rfl ?_
        refine EQ.val (fun _ hw => (fa_56_3 rfl)) rfl ?_
        refine EQ.val (fun _ hw => (ld_3 rfl (below_load hw (q4.at (j := 3) rfl)))) rfl ?_
        refine EQ.val (fun _ hw => (x_lss (r := true) rfl rfl (decide_eq_true (by omega)))) rfl ?_
        refine EQ.fin (fun w6 hw_ => ?_)
        replace q2x := q2x.below hw_ q2x.lt
        replace q4 := q4.below hw_ q4.lt
        replace hos := own_below hos hw_ (Nat.le_refl _)
        replace hoe := own_below hoe hw_ (Nat.le_refl _)
        replace hbw := Below.on hbw hw_ hbw.size
        clear hw_
        refine EX.seq ?_
        refine EC.yes rfl ?_
        have hW := below_row hos (w1 := w6) ⟨rfl, rfl, rfl, Nat.le_refl _, fun _ _ _ => rfl⟩ hbw.size
        clear hW
        have lt_1 := q2x.lt
        have lt_4 := q4.lt
        refine EC.regionS [[], [], [1], [1, 2], [0, 1, 2, 3], [], [], [6], [], [8], [], [10], [6, 7, 8, 9, 10, 11], [6, 7, 8, 9, 10, 11, 12], [0, 1, 2, 3, 4, 5, 6, 7, 8, 9, 10, 11, 12, 13], [0, 1, 2, 3, 4, 5, 6, 7, 8, 9, 10, 11, 12, 13, 14], [0, 1, 2, 3, 4, 5, 6, 7, 8, 9, 10, 11, 12, 13, 14, 15]] 14 [] [4] (fun fl w_ => w6.grownBy w_ ((.slice As S0.length cs_) : Value).ownBlock ∧ (fl 4 = false → w_.ownsRow w.heap.size 89 2 (.slice As S0.length cs_) S0.length (stepsC S0))) (phiS (fun i_ r => match i_ with | 0 => r 0 = .slice As S0.length cs_ | 1 => r 1 = .int .i64 (x : Nat) | 2 => r 2 = .agg #[.int .i64 (x : Nat), .bool false] | 5 => r 5 = .slice Ae S0.length ce_ | 6 => r 6 = .pointer (some ⟨g4, 0, none⟩) | 7 => r 7 = .int .i64 (f_ : Nat) | 8 => r 8 = .pointer (some ⟨g4, 1, none⟩) | 9 => r 9 = .int .i64 (t_ : Nat) | 10 => r 10 = .pointer (some ⟨g4, 2, none⟩) | 11 => r 11 = .int .i64 yc | 12 => r 12 = .agg #[.int .i64 (f_ : Nat), .int .i64 (t_ : Nat), .int .i64 yc] | _ => True) [(3, fun fl r w_ => fl 4 = false → (∃ g_, r 3 = .slice (some ⟨g_, 0, none⟩) 1 1 ∧ Blk w_ g_ 89 #[.int .i64 (x : Nat), .bool false] ∧ w6.heap.size ≤ g_)), (4, fun _ r w_ => w_.ownsRow w.heap.size 89 2 (r 4) (S0.length + 1) ((stepsC S0) ++ [.int .i64 (x : Nat), .bool false]) ∧ ∀ b, (r 4).ownBlock = some b → ((.slice As S0.length cs_) : Value).ownBlock = some b ∨ w6.heap.size ≤ b), (13, fun _ r w_ => ∃ g_, r 13 = .slice (some ⟨g_, 0, none⟩) 1 1 ∧ Blk w_ g_ 128 #[.int .i64 (f_ : Nat), .int .i64 (t_ : Nat), .int .i64 yc] ∧ w6.heap.size ≤ g_)]) (by kernel_rfl) rfl rfl (by intro i hi; simp at hi; subst hi; exact ⟨by simp, by omega⟩) (base_row hos) (phiS_cons (monoS_till mono_bs) (phiS_cons (monoS_row (e := 4) (C := fun u_ => ∀ b, u_.ownBlock = some b → ((.slice As S0.length cs_) : Value).ownBlock = some b ∨ w6.heap.size ≤ b)) (phiS_cons monoS_bs (phiS_nil)))) (fun i_ hi_ hs_ => ?_) (fun i_ hi_ => ?_) ?_
        · match i_, hi_ with
          | 0, _ =>
            intro val fl w1 a hb ha hd hfl
            obtain ⟨hgb, hg0⟩ := hb
            have hb := below_row hos hgb hbw.size
            have ha := ha.sub (Sub.ins (d := 6) (Sub.nil _) rfl)
            exact ss_val ha rfl rfl (x_move rfl) rfl rfl
          | 1, _ =>
            intro val fl w1 a hb ha hd hfl
            obtain ⟨hgb, hg0⟩ := hb
            have hb := below_row hos hgb hbw.size
            have ha := ha.sub (Sub.ins (d := 8) (Sub.nil _) rfl)
            exact ss_val ha rfl rfl (x_move rfl) rfl rfl
          | 2, _ =>
            intro val fl w1 a hb ha hd hfl
            obtain ⟨hgb, hg0⟩ := hb
            have hb := below_row hos hgb hbw.size
            have e1 : val 1 = .int .i64 (x : Nat) := hd 1 (memB_mem.1 rfl)
            have ha := ha.sub (Sub.ins (d := 32) (Sub.nil _) (dep_get rfl e1))
            exact ss_val ha rfl rfl (bd_89_0_1 rfl rfl) rfl rfl
          | 3, _ =>
            intro val fl w1 a hb ha hd hfl
            obtain ⟨hgb, hg0⟩ := hb
            have hb := below_row hos hgb hbw.size
            have e2 : val 2 = .agg #[.int .i64 (x : Nat), .bool false] := hd 2 (memB_mem.1 rfl)
            have ha := ha.sub (Sub.ins (d := 33) (Sub.nil _) (dep_get rfl e2))
            exact ss_newS ha rfl rfl (bs_85_1 rfl) rfl (fun g w' hq _ hge => fun _ => ⟨g, rfl, hq, Nat.le_trans hgb.size hge⟩)
          | 4, _ =>
            exact absurd (by simp) hs_
          | 5, _ =>
            intro val fl w1 a hb ha hd hfl
            obtain ⟨hgb, hg0⟩ := hb
            have hb := below_row hos hgb hbw.size
            have ha := ha.sub (Sub.ins (d := 7) (Sub.nil _) rfl)
            exact ss_val ha rfl rfl (x_move rfl) rfl rfl
          | 6, _ =>
            intro val fl w1 a hb ha hd hfl
            obtain ⟨hgb, hg0⟩ := hb
            have hb := below_row hos hgb hbw.size
            have ha := ha.sub (Sub.ins (d := 9) (Sub.nil _) rfl)
            exact ss_val ha rfl rfl (fa_56_0 rfl) rfl rfl
          | 7, _ =>
            intro val fl w1 a hb ha hd hfl
            obtain ⟨hgb, hg0⟩ := hb
            have hb := below_row hos hgb hbw.size
            have e6 : val 6 = .pointer (some ⟨g4, 0, none⟩) := hd 6 (memB_mem.1 rfl)
            have ha := ha.sub (Sub.ins (d := 37) (Sub.nil _) (dep_get rfl e6))
            exact ss_val ha rfl rfl (ld_3 rfl ((blk_grown q4 hos rfl hgb).at (j := 0) rfl)) rfl rfl
          | 8, _ =>
            intro val fl w1 a hb ha hd hfl
            obtain ⟨hgb, hg0⟩ := hb
            have hb := below_row hos hgb hbw.size
            have ha := ha.sub (Sub.ins (d := 9) (Sub.nil _) rfl)
            exact ss_val ha rfl rfl (fa_56_1 rfl) rfl rfl
          | 9, _ =>
            intro val fl w1 a hb ha hd hfl
            obtain ⟨hgb, hg0⟩ := hb
            have hb := below_row hos hgb hbw.size
            have e8 : val 8 = .pointer (some ⟨g4, 1, none⟩) := hd 8 (memB_mem.1 rfl)
            have ha := ha.sub (Sub.ins (d := 39) (Sub.nil _) (dep_get rfl e8))
            exact ss_val ha rfl rfl (ld_3 rfl ((blk_grown q4 hos rfl hgb).at (j := 1) rfl)) rfl rfl
          | 10, _ =>
            intro val fl w1 a hb ha hd hfl
            obtain ⟨hgb, hg0⟩ := hb
            have hb := below_row hos hgb hbw.size
            have ha := ha.sub (Sub.ins (d := 9) (Sub.nil _) rfl)
            exact ss_val ha rfl rfl (fa_56_2 rfl) rfl rfl
          | 11, _ =>
            intro val fl w1 a hb ha hd hfl
            obtain ⟨hgb, hg0⟩ := hb
            have hb := below_row hos hgb hbw.size
            have e10 : val 10 = .pointer (some ⟨g4, 2, none⟩) := hd 10 (memB_mem.1 rfl)
            have ha := ha.sub (Sub.ins (d := 41) (Sub.nil _) (dep_get rfl e10))
            exact ss_val ha rfl rfl (ld_3 rfl ((blk_grown q4 hos rfl hgb).at (j := 2) rfl)) rfl rfl
          | 12, _ =>
            intro val fl w1 a hb ha hd hfl
            obtain ⟨hgb, hg0⟩ := hb
            have hb := below_row hos hgb hbw.size
            have e7 : val 7 = .int .i64 (f_ : Nat) := hd 7 (memB_mem.1 rfl)
            have e9 : val 9 = .int .i64 (t_ : Nat) := hd 9 (memB_mem.1 rfl)
            have e11 : val 11 = .int .i64 yc := hd 11 (memB_mem.1 rfl)
            have ha := ha.sub (Sub.ins (d := 42) (Sub.ins (d := 40) (Sub.ins (d := 38) (Sub.nil _) (dep_get rfl e7)) (dep_get rfl e9)) (dep_get rfl e11))
            exact ss_val ha rfl rfl (bd_128_0_1_2 rfl rfl rfl) rfl rfl
          | 13, _ =>
            intro val fl w1 a hb ha hd hfl
            obtain ⟨hgb, hg0⟩ := hb
            have hb := below_row hos hgb hbw.size
            have e12 : val 12 = .agg #[.int .i64 (f_ : Nat), .int .i64 (t_ : Nat), .int .i64 yc] := hd 12 (memB_mem.1 rfl)
            have ha := ha.sub (Sub.ins (d := 43) (Sub.nil _) (dep_get rfl e12))
            exact ss_newS ha rfl rfl (bs_123_1 rfl) rfl (fun g w' hq _ hge => ⟨g, rfl, hq, Nat.le_trans hgb.size hge⟩)
          | k + 14, h => exact absurd h (by omega)
        · simp only [List.mem_singleton] at hi_; subst hi_
          intro val fl w1 a hb hfi ha hd hfl
          obtain ⟨hgb, hg0⟩ := hb
          have hb := below_row hos hgb hbw.size
          have e0 : val 0 = .slice As S0.length cs_ := hd 0 (memB_mem.1 rfl)
          obtain ⟨g3_, e3, q3_, h3_⟩ := hd 3 (memB_mem.1 rfl) hfi
          change val 3 = _ at e3
          have ha := ha.sub (Sub.ins (d := 34) (Sub.ins (d := 31) (Sub.nil _) (dep_get rfl e0)) (dep_get rfl e3))
          refine ts_push step_elem ha rfl rfl rfl (hg0 hfi) (rd_one (l := [.int .i64 (x : Nat), .bool false]) q3_ rfl) (by intro u hu; simp only [List.mem_cons, List.not_mem_nil, or_false] at hu; rcases hu with rfl | rfl <;> rfl) (by omega) rfl (Nat.le_trans hbw.size hgb.size) ?_
          intro v' w' ho' hgr hat
          refine ⟨v', rfl, hgr.size, ⟨grown_three hgb hgr, fun h => by rw [fset_eq] at h; cases h⟩, ⟨ho', fun b hb' => ?_⟩, fun j _ hj hn hA => ?_⟩
          · rcases hat with h | h
            · exact .inl (h ▸ hb')
            · refine .inr ?_
              change v'.ownBlock = some b at hb'
              rw [h] at hb'
              injection hb' with hb'
              have := hgb.size
              omega
          · exact phiS_cons_st (C := fun j => j ≠ 4 ∧ 4 ∉ clsAt [[], [], [1], [1, 2], [0, 1, 2, 3], [], [], [6], [], [8], [], [10], [6, 7, 8, 9, 10, 11], [6, 7, 8, 9, 10, 11, 12], [0, 1, 2, 3, 4, 5, 6, 7, 8, 9, 10, 11, 12, 13], [0, 1, 2, 3, 4, 5, 6, 7, 8, 9, 10, 11, 12, 13, 14], [0, 1, 2, 3, 4, 5, 6, 7, 8, 9, 10, 11, 12, 13, 14, 15]] j) (fun _ _ h => by rw [fset_eq] at h; cases h) (phiS_cons_st (C := fun j => j ≠ 4 ∧ 4 ∉ clsAt [[], [], [1], [1, 2], [0, 1, 2, 3], [], [], [6], [], [8], [], [10], [6, 7, 8, 9, 10, 11], [6, 7, 8, 9, 10, 11, 12], [0, 1, 2, 3, 4, 5, 6, 7, 8, 9, 10, 11, 12, 13], [0, 1, 2, 3, 4, 5, 6, 7, 8, 9, 10, 11, 12, 13, 14], [0, 1, 2, 3, 4, 5, 6, 7, 8, 9, 10, 11, 12, 13, 14, 15]] j) (fun hc => absurd rfl hc.1) (phiS_cons_st (C := fun j => j ≠ 4 ∧ 4 ∉ clsAt [[], [], [1], [1, 2], [0, 1, 2, 3], [], [], [6], [], [8], [], [10], [6, 7, 8, 9, 10, 11], [6, 7, 8, 9, 10, 11, 12], [0, 1, 2, 3, 4, 5, 6, 7, 8, 9, 10, 11, 12, 13], [0, 1, 2, 3, 4, 5, 6, 7, 8, 9, 10, 11, 12, 13, 14], [0, 1, 2, 3, 4, 5, 6, 7, 8, 9, 10, 11, 12, 13, 14, 15]] j) (fun _ ⟨g, h1, h2, h3⟩ => ⟨g, h1, h2.grown hgr (fun h => by have := (hos.lt _ h.symm).2; omega), h3⟩) (fun _ _ h => h))) j ⟨hj, hn⟩
        · intro val fl w' hfl hb halc hd
          obtain ⟨hgb, _⟩ := hb
          have hb := below_row hos hgb hbw.size
          have e0 : val 0 = .slice As S0.length cs_ := hd 0 (by omega)
          have e1 : val 1 = .int .i64 (x : Nat) := hd 1 (by omega)
          have e2 : val 2 = .agg #[.int .i64 (x : Nat), .bool false] := hd 2 (by omega)
          obtain ⟨ho4, hn4⟩ := hd 4 (by omega)
          change w'.ownsRow _ _ _ (val 4) _ _ at ho4
          have e5 : val 5 = .slice Ae S0.length ce_ := hd 5 (by omega)
          have e6 : val 6 = .pointer (some ⟨g4, 0, none⟩) := hd 6 (by omega)
          have e7 : val 7 = .int .i64 (f_ : Nat) := hd 7 (by omega)
          have e8 : val 8 = .pointer (some ⟨g4, 1, none⟩) := hd 8 (by omega)
          have e9 : val 9 = .int .i64 (t_ : Nat) := hd 9 (by omega)
          have e10 : val 10 = .pointer (some ⟨g4, 2, none⟩) := hd 10 (by omega)
          have e11 : val 11 = .int .i64 yc := hd 11 (by omega)
          have e12 : val 12 = .agg #[.int .i64 (f_ : Nat), .int .i64 (t_ : Nat), .int .i64 yc] := hd 12 (by omega)
          obtain ⟨ga13, e13, qa13, hga13⟩ := hd 13 (by omega)
          change val 13 = _ at e13
          refine EL.ends (cs := [.slice As S0.length cs_, .int .i64 (x : Nat), .agg #[.int .i64 (x : Nat), .bool false], val 3, val 4, .slice Ae S0.length ce_, .pointer (some ⟨g4, 0, none⟩), .int .i64 (f_ : Nat), .pointer (some ⟨g4, 1, none⟩), .int .i64 (t_ : Nat), .pointer (some ⟨g4, 2, none⟩), .int .i64 yc, .agg #[.int .i64 (f_ : Nat), .int .i64 (t_ : Nat), .int .i64 yc], .slice (some ⟨ga13, 0, none⟩) 1 1]) ⟨e0, e1, e2, rfl, rfl, e5, e6, e7, e8, e9, e10, e11, e12, e13, trivial⟩ rfl ?_
          replace q2x := blk_grown q2x hos rfl hgb
          replace q4 := blk_grown q4 hos rfl hgb
          replace hoe := own_grown hoe hos rfl hgb
          have n1_7 : g1 ≠ ga13 := Nat.ne_of_lt (Nat.lt_of_lt_of_le lt_1 hga13)
          have n4_7 : g4 ≠ ga13 := Nat.ne_of_lt (Nat.lt_of_lt_of_le lt_4 hga13)
          have bhbw_7 := Nat.le_trans hbw.size hga13
          replace hbw := hbw.trans (hb.mono (Nat.le_refl _))
          obtain ⟨v4_, ev4_⟩ : ∃ z, z = val 4 := ⟨_, rfl⟩
          rw [← ev4_] at ho4 ⊢
          refine EL.push end_elem rfl rfl hoe (rd_one (l := [.int .i64 (f_ : Nat), .int .i64 (t_ : Nat), .int .i64 yc]) qa13 rfl) (by intro u hu; simp only [List.mem_cons, List.not_mem_nil, or_false] at hu; rcases hu with rfl | rfl | rfl <;> rfl) (by omega) rfl hbw.size rfl ?_
          intro v8 w8 hoe2 hgr hb_ hat
          replace q2x := blk_grown q2x hoe rfl hgr
          replace q4 := blk_grown q4 hoe rfl hgr
          replace ho4 := own_grown ho4 hoe rfl hgr
          replace hbw := hbw.trans hb_
          clear hoe hgr hb_ hat
          refine EL.val (x_assign rfl) rfl ?_
          refine EL.val (x_assign rfl) rfl ?_
          refine EL.nil ?_
          refine EX.cutE (_, _) ⟨rfl, rfl, trivial⟩ (by repeat first | with_reducible exact (Sub.refl _).del _ | refine sub_past rfl ?_ | exact (Sub.refl _).del _ | refine sub_del rfl ?_ | refine sub_insL_nil ?_) ⟨(by rw [eF, List.length_append, steps_push]; exact ho4), (by rw [eF, List.length_append, ends_push]; exact hoe2), q2x, q4, hbw⟩
      ·
        rw [if_neg hc] at eF
        subst eF
        refine EC.seq ?_
        refine EC.regionQ (by kernel_rfl) (by kernel_rfl) ?_
        refine EQ.val (fun _ hw => (x_move rfl)) rfl ?_
        refine EQ.val (fun _ hw => (x_move rfl)) rfl ?_
        refine EQ.val (fun _ hw => (ix_29 rfl rfl (show x < mv.length by omega))) rfl ?_
        refine EQ.val (fun _ hw => (ld_3 rfl (below_load hw (below_load hbw mc)))) rfl ?_
        refine EQ.val (fun _ hw => (fa_56_3 rfl)) rfl ?_
        refine EQ.val (fun _ hw => (ld_3 rfl (below_load hw (q4.at (j := 3) rfl)))) rfl ?_
        refine EQ.val (fun _ hw => (x_lss (r := false) rfl rfl (decide_eq_false (by omega)))) rfl ?_
        refine EQ.fin (fun w9 hw_ => ?_)
        replace q2x := q2x.below hw_ q2x.lt
        replace q4 := q4.below hw_ q4.lt
        replace hos := own_below hos hw_ (Nat.le_refl _)
        replace hoe := own_below hoe hw_ (Nat.le_refl _)
        replace hbw := Below.on hbw hw_ hbw.size
        clear hw_
        refine EX.seq ?_
        refine EC.no rfl ?_
        refine EC.skip ?_
        refine EX.cutE (_, _) ⟨rfl, rfl, trivial⟩ (by repeat first | with_reducible exact (Sub.refl _).del _ | refine sub_past rfl ?_ | exact (Sub.refl _).del _ | refine sub_del rfl ?_ | refine sub_insL_nil ?_) ⟨(by rw [List.append_nil]; exact hos), (by rw [List.append_nil]; exact hoe), q2x, q4, hbw⟩
    ·
      clear hos hoe q2x q4 hbw
      rintro ⟨vs2, ve2⟩ wc7 ⟨hos, hoe, q2c, q9c, hbw⟩
      dsimp only at hos hoe
      obtain ⟨S1, eS1⟩ : ∃ z, z = S0 ++ S2 := ⟨_, rfl⟩
      rw [← eS1] at hos hoe hs2
      obtain ⟨As2, cs2_, rfl, _⟩ := (Rd.of_own hos).shape
      obtain ⟨Ae2, ce2_, rfl, _⟩ := (Rd.of_own hoe).shape
      have hS1 : S1.length ≤ 2 * x + 1 := by rw [eS1, List.length_append]; omega
      refine EC.seq ?_
      refine EC.region ?_
      refine EL.val (x_move rfl) rfl ?_
      refine EL.val (x_move rfl) rfl ?_
      refine EL.val (ix_29 rfl rfl (show x < mv.length by omega)) rfl ?_
      refine EL.val (ld_3 rfl (below_load hbw mc)) rfl ?_
      by_cases hc0 : 0 < m
      ·
        rw [if_pos hc0] at eB
        refine EL.val (x_gtr (r := true) rfl rfl (decide_eq_true (by omega))) rfl ?_
        refine EL.nil ?_
        refine EX.seq ?_
        refine EC.yes rfl ?_
        have hW := below_row hos (w1 := wc7) ⟨rfl, rfl, rfl, Nat.le_refl _, fun _ _ _ => rfl⟩ hbw.size
        clear hW
        have lt_1 := q2c.lt
        have lt_4 := q9c.lt
        refine EC.regionS [[], [], [1], [1, 2], [0, 1, 2, 3], [], [], [6], [], [8], [], [10], [10, 11], [6, 7, 8, 9, 10, 11, 12], [6, 7, 8, 9, 10, 11, 12, 13], [0, 1, 2, 3, 4, 5, 6, 7, 8, 9, 10, 11, 12, 13, 14], [0, 1, 2, 3, 4, 5, 6, 7, 8, 9, 10, 11, 12, 13, 14, 15], [0, 1, 2, 3, 4, 5, 6, 7, 8, 9, 10, 11, 12, 13, 14, 15, 16]] 15 [] [4] (fun fl w_ => wc7.grownBy w_ ((.slice As2 S1.length cs2_) : Value).ownBlock ∧ (fl 4 = false → w_.ownsRow w.heap.size 89 2 (.slice As2 S1.length cs2_) S1.length (stepsC S1))) (phiS (fun i_ r => match i_ with | 0 => r 0 = .slice As2 S1.length cs2_ | 1 => r 1 = .int .i64 (x : Nat) | 2 => r 2 = .agg #[.int .i64 (x : Nat), .bool true] | 5 => r 5 = .slice Ae2 S1.length ce2_ | 6 => r 6 = .pointer (some ⟨g4, 1, none⟩) | 7 => r 7 = .int .i64 (t_ : Nat) | 8 => r 8 = .pointer (some ⟨g4, 0, none⟩) | 9 => r 9 = .int .i64 (f_ : Nat) | 10 => r 10 = .pointer (some ⟨g4, 2, none⟩) | 11 => r 11 = .int .i64 yc | 12 => r 12 = .int .i64 (-yc) | 13 => r 13 = .agg #[.int .i64 (t_ : Nat), .int .i64 (f_ : Nat), .int .i64 (-yc)] | _ => True) [(3, fun fl r w_ => fl 4 = false → (∃ g_, r 3 = .slice (some ⟨g_, 0, none⟩) 1 1 ∧ Blk w_ g_ 89 #[.int .i64 (x : Nat), .bool true] ∧ wc7.heap.size ≤ g_)), (4, fun _ r w_ => w_.ownsRow w.heap.size 89 2 (r 4) (S1.length + 1) ((stepsC S1) ++ [.int .i64 (x : Nat), .bool true]) ∧ ∀ b, (r 4).ownBlock = some b → ((.slice As2 S1.length cs2_) : Value).ownBlock = some b ∨ wc7.heap.size ≤ b), (14, fun _ r w_ => ∃ g_, r 14 = .slice (some ⟨g_, 0, none⟩) 1 1 ∧ Blk w_ g_ 128 #[.int .i64 (t_ : Nat), .int .i64 (f_ : Nat), .int .i64 (-yc)] ∧ wc7.heap.size ≤ g_)]) (by kernel_rfl) rfl rfl (by intro i hi; simp at hi; subst hi; exact ⟨by simp, by omega⟩) (base_row hos) (phiS_cons (monoS_till mono_bs) (phiS_cons (monoS_row (e := 4) (C := fun u_ => ∀ b, u_.ownBlock = some b → ((.slice As2 S1.length cs2_) : Value).ownBlock = some b ∨ wc7.heap.size ≤ b)) (phiS_cons monoS_bs (phiS_nil)))) (fun i_ hi_ hs_ => ?_) (fun i_ hi_ => ?_) ?_
        · match i_, hi_ with
          | 0, _ =>
            intro val fl w1 a hb ha hd hfl
            obtain ⟨hgb, hg0⟩ := hb
            have hb := below_row hos hgb hbw.size
            have ha := ha.sub (Sub.ins (d := 6) (Sub.nil _) rfl)
            exact ss_val ha rfl rfl (x_move rfl) rfl rfl
          | 1, _ =>
            intro val fl w1 a hb ha hd hfl
            obtain ⟨hgb, hg0⟩ := hb
            have hb := below_row hos hgb hbw.size
            have ha := ha.sub (Sub.ins (d := 8) (Sub.nil _) rfl)
            exact ss_val ha rfl rfl (x_move rfl) rfl rfl
          | 2, _ =>
            intro val fl w1 a hb ha hd hfl
            obtain ⟨hgb, hg0⟩ := hb
            have hb := below_row hos hgb hbw.size
            have e1 : val 1 = .int .i64 (x : Nat) := hd 1 (memB_mem.1 rfl)
            have ha := ha.sub (Sub.ins (d := 52) (Sub.nil _) (dep_get rfl e1))
            exact ss_val ha rfl rfl (bd_89_0_1 rfl rfl) rfl rfl
          | 3, _ =>
            intro val fl w1 a hb ha hd hfl
            obtain ⟨hgb, hg0⟩ := hb
            have hb := below_row hos hgb hbw.size
            have e2 : val 2 = .agg #[.int .i64 (x : Nat), .bool true] := hd 2 (memB_mem.1 rfl)
            have ha := ha.sub (Sub.ins (d := 53) (Sub.nil _) (dep_get rfl e2))
            exact ss_newS ha rfl rfl (bs_85_1 rfl) rfl (fun g w' hq _ hge => fun _ => ⟨g, rfl, hq, Nat.le_trans hgb.size hge⟩)
          | 4, _ =>
            exact absurd (by simp) hs_
          | 5, _ =>
            intro val fl w1 a hb ha hd hfl
            obtain ⟨hgb, hg0⟩ := hb
            have hb := below_row hos hgb hbw.size
            have ha := ha.sub (Sub.ins (d := 7) (Sub.nil _) rfl)
            exact ss_val ha rfl rfl (x_move rfl) rfl rfl
          | 6, _ =>
            intro val fl w1 a hb ha hd hfl
            obtain ⟨hgb, hg0⟩ := hb
            have hb := below_row hos hgb hbw.size
            have ha := ha.sub (Sub.ins (d := 9) (Sub.nil _) rfl)
            exact ss_val ha rfl rfl (fa_56_1 rfl) rfl rfl
          | 7, _ =>
            intro val fl w1 a hb ha hd hfl
            obtain ⟨hgb, hg0⟩ := hb
            have hb := below_row hos hgb hbw.size
            have e6 : val 6 = .pointer (some ⟨g4, 1, none⟩) := hd 6 (memB_mem.1 rfl)
            have ha := ha.sub (Sub.ins (d := 57) (Sub.nil _) (dep_get rfl e6))
            exact ss_val ha rfl rfl (ld_3 rfl ((blk_grown q9c hos rfl hgb).at (j := 1) rfl)) rfl rfl
          | 8, _ =>
            intro val fl w1 a hb ha hd hfl
            obtain ⟨hgb, hg0⟩ := hb
            have hb := below_row hos hgb hbw.size
            have ha := ha.sub (Sub.ins (d := 9) (Sub.nil _) rfl)
            exact ss_val ha rfl rfl (fa_56_0 rfl) rfl rfl
          | 9, _ =>
            intro val fl w1 a hb ha hd hfl
            obtain ⟨hgb, hg0⟩ := hb
            have hb := below_row hos hgb hbw.size
            have e8 : val 8 = .pointer (some ⟨g4, 0, none⟩) := hd 8 (memB_mem.1 rfl)
            have ha := ha.sub (Sub.ins (d := 59) (Sub.nil _) (dep_get rfl e8))
            exact ss_val ha rfl rfl (ld_3 rfl ((blk_grown q9c hos rfl hgb).at (j := 0) rfl)) rfl rfl
          | 10, _ =>
            intro val fl w1 a hb ha hd hfl
            obtain ⟨hgb, hg0⟩ := hb
            have hb := below_row hos hgb hbw.size
            have ha := ha.sub (Sub.ins (d := 9) (Sub.nil _) rfl)
            exact ss_val ha rfl rfl (fa_56_2 rfl) rfl rfl
          | 11, _ =>
            intro val fl w1 a hb ha hd hfl
            obtain ⟨hgb, hg0⟩ := hb
            have hb := below_row hos hgb hbw.size
            have e10 : val 10 = .pointer (some ⟨g4, 2, none⟩) := hd 10 (memB_mem.1 rfl)
            have ha := ha.sub (Sub.ins (d := 61) (Sub.nil _) (dep_get rfl e10))
            exact ss_val ha rfl rfl (ld_3 rfl ((blk_grown q9c hos rfl hgb).at (j := 2) rfl)) rfl rfl
          | 12, _ =>
            intro val fl w1 a hb ha hd hfl
            obtain ⟨hgb, hg0⟩ := hb
            have hb := below_row hos hgb hbw.size
            have e11 : val 11 = .int .i64 yc := hd 11 (memB_mem.1 rfl)
            have ha := ha.sub (Sub.ins (d := 62) (Sub.nil _) (dep_get rfl e11))
            exact ss_val ha rfl rfl (x_neg rfl (c := -yc) (IntWalk.i64_in _ ⟨by omega, by omega⟩)) rfl rfl
          | 13, _ =>
            intro val fl w1 a hb ha hd hfl
            obtain ⟨hgb, hg0⟩ := hb
            have hb := below_row hos hgb hbw.size
            have e7 : val 7 = .int .i64 (t_ : Nat) := hd 7 (memB_mem.1 rfl)
            have e9 : val 9 = .int .i64 (f_ : Nat) := hd 9 (memB_mem.1 rfl)
            have e12 : val 12 = .int .i64 (-yc) := hd 12 (memB_mem.1 rfl)
            have ha := ha.sub (Sub.ins (d := 63) (Sub.ins (d := 60) (Sub.ins (d := 58) (Sub.nil _) (dep_get rfl e7)) (dep_get rfl e9)) (dep_get rfl e12))
            exact ss_val ha rfl rfl (bd_128_0_1_2 rfl rfl rfl) rfl rfl
          | 14, _ =>
            intro val fl w1 a hb ha hd hfl
            obtain ⟨hgb, hg0⟩ := hb
            have hb := below_row hos hgb hbw.size
            have e13 : val 13 = .agg #[.int .i64 (t_ : Nat), .int .i64 (f_ : Nat), .int .i64 (-yc)] := hd 13 (memB_mem.1 rfl)
            have ha := ha.sub (Sub.ins (d := 64) (Sub.nil _) (dep_get rfl e13))
            exact ss_newS ha rfl rfl (bs_123_1 rfl) rfl (fun g w' hq _ hge => ⟨g, rfl, hq, Nat.le_trans hgb.size hge⟩)
          | k + 15, h => exact absurd h (by omega)
        · simp only [List.mem_singleton] at hi_; subst hi_
          intro val fl w1 a hb hfi ha hd hfl
          obtain ⟨hgb, hg0⟩ := hb
          have hb := below_row hos hgb hbw.size
          have e0 : val 0 = .slice As2 S1.length cs2_ := hd 0 (memB_mem.1 rfl)
          obtain ⟨g3_, e3, q3_, h3_⟩ := hd 3 (memB_mem.1 rfl) hfi
          change val 3 = _ at e3
          have ha := ha.sub (Sub.ins (d := 54) (Sub.ins (d := 51) (Sub.nil _) (dep_get rfl e0)) (dep_get rfl e3))
          refine ts_push step_elem ha rfl rfl rfl (hg0 hfi) (rd_one (l := [.int .i64 (x : Nat), .bool true]) q3_ rfl) (by intro u hu; simp only [List.mem_cons, List.not_mem_nil, or_false] at hu; rcases hu with rfl | rfl <;> rfl) (by omega) rfl (Nat.le_trans hbw.size hgb.size) ?_
          intro v' w' ho' hgr hat
          refine ⟨v', rfl, hgr.size, ⟨grown_three hgb hgr, fun h => by rw [fset_eq] at h; cases h⟩, ⟨ho', fun b hb' => ?_⟩, fun j _ hj hn hA => ?_⟩
          · rcases hat with h | h
            · exact .inl (h ▸ hb')
            · refine .inr ?_
              change v'.ownBlock = some b at hb'
              rw [h] at hb'
              injection hb' with hb'
              have := hgb.size
              omega
          · exact phiS_cons_st (C := fun j => j ≠ 4 ∧ 4 ∉ clsAt [[], [], [1], [1, 2], [0, 1, 2, 3], [], [], [6], [], [8], [], [10], [10, 11], [6, 7, 8, 9, 10, 11, 12], [6, 7, 8, 9, 10, 11, 12, 13], [0, 1, 2, 3, 4, 5, 6, 7, 8, 9, 10, 11, 12, 13, 14], [0, 1, 2, 3, 4, 5, 6, 7, 8, 9, 10, 11, 12, 13, 14, 15], [0, 1, 2, 3, 4, 5, 6, 7, 8, 9, 10, 11, 12, 13, 14, 15, 16]] j) (fun _ _ h => by rw [fset_eq] at h; cases h) (phiS_cons_st (C := fun j => j ≠ 4 ∧ 4 ∉ clsAt [[], [], [1], [1, 2], [0, 1, 2, 3], [], [], [6], [], [8], [], [10], [10, 11], [6, 7, 8, 9, 10, 11, 12], [6, 7, 8, 9, 10, 11, 12, 13], [0, 1, 2, 3, 4, 5, 6, 7, 8, 9, 10, 11, 12, 13, 14], [0, 1, 2, 3, 4, 5, 6, 7, 8, 9, 10, 11, 12, 13, 14, 15], [0, 1, 2, 3, 4, 5, 6, 7, 8, 9, 10, 11, 12, 13, 14, 15, 16]] j) (fun hc => absurd rfl hc.1) (phiS_cons_st (C := fun j => j ≠ 4 ∧ 4 ∉ clsAt [[], [], [1], [1, 2], [0, 1, 2, 3], [], [], [6], [], [8], [], [10], [10, 11], [6, 7, 8, 9, 10, 11, 12], [6, 7, 8, 9, 10, 11, 12, 13], [0, 1, 2, 3, 4, 5, 6, 7, 8, 9, 10, 11, 12, 13, 14], [0, 1, 2, 3, 4, 5, 6, 7, 8, 9, 10, 11, 12, 13, 14, 15], [0, 1, 2, 3, 4, 5, 6, 7, 8, 9, 10, 11, 12, 13, 14, 15, 16]] j) (fun _ ⟨g, h1, h2, h3⟩ => ⟨g, h1, h2.grown hgr (fun h => by have := (hos.lt _ h.symm).2; omega), h3⟩) (fun _ _ h => h))) j ⟨hj, hn⟩
        · intro val fl w' hfl hb halc hd
          obtain ⟨hgb, _⟩ := hb
          have hb := below_row hos hgb hbw.size
          have e0 : val 0 = .slice As2 S1.length cs2_ := hd 0 (by omega)
          have e1 : val 1 = .int .i64 (x : Nat) := hd 1 (by omega)
          have e2 : val 2 = .agg #[.int .i64 (x : Nat), .bool true] := hd 2 (by omega)
          obtain ⟨ho4, hn4⟩ := hd 4 (by omega)
          change w'.ownsRow _ _ _ (val 4) _ _ at ho4
          have e5 : val 5 = .slice Ae2 S1.length ce2_ := hd 5 (by omega)
          have e6 : val 6 = .pointer (some ⟨g4, 1, none⟩) := hd 6 (by omega)
          have e7 : val 7 = .int .i64 (t_ : Nat) := hd 7 (by omega)
          have e8 : val 8 = .pointer (some ⟨g4, 0, none⟩) := hd 8 (by omega)
          have e9 : val 9 = .int .i64 (f_ : Nat) := hd 9 (by omega)
          have e10 : val 10 = .pointer (some ⟨g4, 2, none⟩) := hd 10 (by omega)
          have e11 : val 11 = .int .i64 yc := hd 11 (by omega)
          have e12 : val 12 = .int .i64 (-yc) := hd 12 (by omega)
          have e13 : val 13 = .agg #[.int .i64 (t_ : Nat), .int .i64 (f_ : Nat), .int .i64 (-yc)] := hd 13 (by omega)
          obtain ⟨ga14, e14, qa14, hga14⟩ := hd 14 (by omega)
          change val 14 = _ at e14
          refine EL.ends (cs := [.slice As2 S1.length cs2_, .int .i64 (x : Nat), .agg #[.int .i64 (x : Nat), .bool true], val 3, val 4, .slice Ae2 S1.length ce2_, .pointer (some ⟨g4, 1, none⟩), .int .i64 (t_ : Nat), .pointer (some ⟨g4, 0, none⟩), .int .i64 (f_ : Nat), .pointer (some ⟨g4, 2, none⟩), .int .i64 yc, .int .i64 (-yc), .agg #[.int .i64 (t_ : Nat), .int .i64 (f_ : Nat), .int .i64 (-yc)], .slice (some ⟨ga14, 0, none⟩) 1 1]) ⟨e0, e1, e2, rfl, rfl, e5, e6, e7, e8, e9, e10, e11, e12, e13, e14, trivial⟩ rfl ?_
          replace q2c := blk_grown q2c hos rfl hgb
          replace q9c := blk_grown q9c hos rfl hgb
          replace hoe := own_grown hoe hos rfl hgb
          have n1_10 : g1 ≠ ga14 := Nat.ne_of_lt (Nat.lt_of_lt_of_le lt_1 hga14)
          have n4_10 : g4 ≠ ga14 := Nat.ne_of_lt (Nat.lt_of_lt_of_le lt_4 hga14)
          have bhbw_10 := Nat.le_trans hbw.size hga14
          replace hbw := hbw.trans (hb.mono (Nat.le_refl _))
          obtain ⟨v4_, ev4_⟩ : ∃ z, z = val 4 := ⟨_, rfl⟩
          rw [← ev4_] at ho4 ⊢
          refine EL.push end_elem rfl rfl hoe (rd_one (l := [.int .i64 (t_ : Nat), .int .i64 (f_ : Nat), .int .i64 (-yc)]) qa14 rfl) (by intro u hu; simp only [List.mem_cons, List.not_mem_nil, or_false] at hu; rcases hu with rfl | rfl | rfl <;> rfl) (by omega) rfl hbw.size rfl ?_
          intro v11 w11 hoe2 hgr hb_ hat
          replace q2c := blk_grown q2c hoe rfl hgr
          replace q9c := blk_grown q9c hoe rfl hgr
          replace ho4 := own_grown ho4 hoe rfl hgr
          replace hbw := hbw.trans hb_
          clear hoe hgr hb_ hat
          refine EL.val (x_assign rfl) rfl ?_
          refine EL.val (x_assign rfl) rfl ?_
          refine EL.nil ?_
          refine EX.blk ?_
          refine EX.seq ?_
          refine EC.region ?_
          refine EL.val (x_move rfl) rfl ?_
          refine EL.val (x_add rfl rfl (c := ((x + 1 : Nat) : Int)) ((IntWalk.i64_in _ ⟨by first | omega | (simp only; omega), by first | omega | (simp only; omega)⟩).trans (by first | omega | (simp only; omega)))) rfl ?_
          refine EL.val (x_assign rfl) rfl ?_
          refine EL.nil ?_
          refine EX.roundD (x + 1, _, _) ⟨rfl, rfl, rfl, trivial⟩ (by repeat first | with_reducible exact Sub.refl _ | refine sub_past rfl ?_ | exact Sub.refl _ | refine sub_del rfl ?_ | refine sub_insL_nil ?_) ⟨hlt, (by show World.ownsRow _ _ _ _ _ (esL nt mv (x + 1)).length (stepsC (esL nt mv (x + 1))); rw [hs2, eB, List.length_append, steps_push]; exact ho4), (by show World.ownsRow _ _ _ _ _ (esL nt mv (x + 1)).length (endsC (esL nt mv (x + 1))); rw [hs2, eB, List.length_append, ends_push]; exact hoe2), q2c, hbw⟩ (by simp only; omega)
      ·
        rw [if_neg hc0] at eB
        subst eB
        refine EL.val (x_gtr (r := false) rfl rfl (decide_eq_false (by omega))) rfl ?_
        refine EL.nil ?_
        refine EX.seq ?_
        refine EC.no rfl ?_
        refine EC.skip ?_
        refine EX.blk ?_
        refine EX.seq ?_
        refine EC.region ?_
        refine EL.val (x_move rfl) rfl ?_
        refine EL.val (x_add rfl rfl (c := ((x + 1 : Nat) : Int)) ((IntWalk.i64_in _ ⟨by first | omega | (simp only; omega), by first | omega | (simp only; omega)⟩).trans (by first | omega | (simp only; omega)))) rfl ?_
        refine EL.val (x_assign rfl) rfl ?_
        refine EL.nil ?_
        refine EX.roundD (x + 1, _, _) ⟨rfl, rfl, rfl, trivial⟩ (by repeat first | with_reducible exact Sub.refl _ | refine sub_past rfl ?_ | exact Sub.refl _ | refine sub_del rfl ?_ | refine sub_insL_nil ?_) ⟨hlt, (by show World.ownsRow _ _ _ _ _ (esL nt mv (x + 1)).length (stepsC (esL nt mv (x + 1))); rw [hs2, List.append_nil]; exact hos), (by show World.ownsRow _ _ _ _ _ (esL nt mv (x + 1)).length (endsC (esL nt mv (x + 1))); rw [hs2, List.append_nil]; exact hoe), q2c, hbw⟩ (by simp only; omega)
  ·
    have hxe : x = nt.ways.length := by omega
    subst hxe
    subst eS0
    refine EC.seq ?_
    refine EC.seq ?_
    refine EC.region ?_
    refine EL.val (x_move rfl) rfl ?_
    refine EL.val (fa_25_1 rfl) rfl ?_
    refine EL.val (ld_23 rfl (q2x.at (j := 1) rfl)) rfl ?_
    refine EL.val (ln_23 rfl) rfl ?_
    refine EL.val (x_lss rfl rfl (decide_eq_false (show ¬(((nt.ways.length : Nat) : Int) < ((nt.ways.length : Nat) : Int)) by omega))) rfl ?_
    refine EL.nil ?_
    refine EX.seq ?_
    refine EC.no rfl ?_
    refine EC.exit ?_
    refine EX.seq_exit ?_
    refine EX.seq_exit ?_
    refine EX.blk_here ?_
    refine EX.seq ?_
    refine EC.seq ?_
    refine EC.region ?_
    refine EL.val (x_move rfl) rfl ?_
    refine EL.val (x_move rfl) rfl ?_
    refine EL.val (x_assign rfl) rfl ?_
    refine EL.val (x_assign rfl) rfl ?_
    refine EL.nil ?_
    refine EX.seq ?_
    refine EC.ret ?_
    exact EX.done (res2 rfl rfl rfl) ⟨⟨_, _, rfl, hos, hoe⟩, hbw⟩
end Go.Proofs.Ytabgmnmpdjnjoaa
set_option linter.unusedVariables false
set_option linter.unusedSimpArgs false
namespace Go.Proofs.Ytabgmnmpdjnjoaa
open Go Go.RowKit
section
variable {n : Nat} {σ : Sg} {w : World} {dst : Option Tmp} {ty : TypeId} {pos : String} {af : Array Edge} {g : Option (Nat × Bool)} {x y z : Operand} {at' : Array TypeId}
theorem bs_51_0 (a : Act) (_ : Env n σ a) : (execOp a.eval ⟨dst, .buildSlice 51 0 #[], ty, pos, af, g⟩).run Try.prog w = .ok (.value (.slice (some ⟨w.heap.size, 0, none⟩) 0 0)) (w.alloc (.cells #[] 4)) := by
  simp only [execOp]
  go_simp
theorem ix_123 {b o m c k : Nat} (hx : evS σ x = some (.slice (some ⟨b, o, none⟩) m c)) (hy : evS σ y = some (.int .i64 (k : Int))) (hk : k < m) : Gives Try.prog n σ w ⟨dst, .indexAddr 123 x y, ty, pos, af, g⟩ (.pointer (some ⟨b, o + k * 3, none⟩)) := fun a ha => by
  have k0 : (0 : Int) ≤ (k : Int) := Int.natCast_nonneg _
  have k1 : (k : Int) < (m : Int) := by omega
  simp only [execOp, ha.eval hx, ha.eval hy]
  simp [go_sem, k0, k1]
theorem ixa_128 {b o k : Nat} (hx : evS σ x = some (.pointer (some ⟨b, o, none⟩))) (hy : evS σ y = some (.int .i64 (k : Int))) (hk : k < 3) : Gives Try.prog n σ w ⟨dst, .indexAddr 128 x y, ty, pos, af, g⟩ (.pointer (some ⟨b, o + k, none⟩)) := fun a ha => by
  have k0 : (0 : Int) ≤ (k : Int) := Int.natCast_nonneg _
  have k1 : (k : Int) < 3 := by omega
  simp only [execOp, ha.eval hx, ha.eval hy]
  simp [go_sem, k0, k1]
theorem ln_123 {A : Option Addr} {m c : Nat} (hx : evS σ x = some (.slice A m c)) : Gives Try.prog n σ w ⟨dst, .call { callee := .builtin .len, args := #[x], argTypes := #[123] }, ty, pos, af, g⟩ (.int .i64 (m : Int)) := fun a ha => by
  simp only [execOp, resolve, List.map_toArray, List.map_cons, List.map_nil, ha.eval hx]
  simp [go_sem]
end
end Go.Proofs.Ytabgmnmpdjnjoaa
set_option linter.unusedVariables false
set_option linter.unusedSimpArgs false
namespace Go.Proofs.Ytabgmnmpdjnjoaa
open Go Go.RowKit
theorem bools_one (l : List Bool) : ∀ u ∈ bools l, u.oneCell' = true := by
  intro u hu
  obtain ⟨b, _, rfl⟩ := List.mem_map.1 hu
  rfl
set_option maxHeartbeats 1000000 in
set_option maxRecDepth 100000 in
theorem rreach_any (S : List Es) (f0 : List Bool) (N : Nat) (ve vf : Value) (w : World) (B : Nat) (he : Rd w B 3 ve S.length (endsC S)) (hf : Rd w B 1 vf N (bools f0)) (hB : B ≤ w.heap.size) (hN : f0.length = N) (hN1 : 1 ≤ N) (hN2 : N ≤ 1000) (hS : S.length ≤ 1000000) (hE : EdN S N) :
    Calls Try.prog 71 #[ve, vf] w fun e w' => (∃ v1 v2 th b, e = .returned (.tuple #[v1, v2]) ∧ RcI S N f0 th b ∧ Closed S th ∧ w'.ownsRow w.heap.size 4 1 v1 N (bools th) ∧ w'.ownsRow w.heap.size 3 1 v2 N (ints b)) ∧ Below w.heap.size w w' := by
  obtain ⟨Ae, ce, rfl, _⟩ := he.shape
  obtain ⟨Af, cf, rfl, _⟩ := hf.shape
  have hbw := Below.refl w.heap.size w
  refine EC.enter 67 Try.func71 rfl rfl rfl ?_
  refine EC.seq ?_
  refine EC.region ?_
  refine EL.val (x_assign rfl) rfl ?_
  refine EL.val (x_assign rfl) rfl ?_
  refine EL.nil ?_
  refine EX.seq ?_
  refine EC.seq ?_
  refine EC.region ?_
  have hsz := hbw.size
  refine EL.newS bs_51_0 rfl ?_
  intro g1 w1 q1 hb1 hg1 hl1
  have bhbw_1 := Nat.le_trans hbw.size hg1
  replace hbw := Below.on hbw hb1 hbw.size
  clear hb1 hl1
  refine EL.val (x_move rfl) rfl ?_
  refine EL.copy bool_elem rfl rfl (base := w.heap.size) q1 (Nat.le_trans hsz hg1) (hf.below (hbw.mono hB)) (bools_one f0) (by omega) (by omega) hbw.size rfl ?_
  intro v2 w2 hot hb2
  replace hbw := Below.on hbw hb2 hbw.size
  clear hb2
  obtain ⟨At, ct, rfl, _⟩ := (Rd.of_own hot).shape
  obtain ⟨gt, rfl⟩ := own_slice hot (by omega)
  have hsz := hbw.size
  refine EL.newS bs_29_0 rfl ?_
  intro g3 w3 q3 hb3 hg3 hl3
  have bhbw_3 := Nat.le_trans hbw.size hg3
  replace hot := own_below hot hb3 (Nat.le_refl _)
  replace hbw := Below.on hbw hb3 hbw.size
  clear hb3 hl3
  have hob : World.ownsRow w3 w.heap.size 3 1 (.slice (some ⟨g3, 0, none⟩) 0 0) 0 [] := own_empty 1 q3 (by have := hbw.size; first | exact bhbw_3 | omega)
  refine EL.val (x_assign rfl) rfl ?_
  refine EL.val (x_assign rfl) rfl ?_
  refine EL.nil ?_
  refine EX.seq ?_
  refine EC.seq ?_
  refine EC.seq ?_
  refine EC.region ?_
  refine EL.val (x_assign rfl) rfl ?_
  refine EL.nil ?_
  refine EX.seq ?_
  refine EC.block ?_
  refine EC.loopD [7, 8, 15, 16, 17, 18, 19, 20, 21, 22, 23] (fun x : Nat × Value => [(7, x.2), (8, .int .i64 (x.1 : Nat))]) (fun x W => x.1 ≤ N ∧ W.ownsRow w.heap.size 3 1 x.2 x.1 (ints (List.replicate x.1 (-1))) ∧ W.ownsRow w.heap.size 4 1 (.slice (some ⟨gt, 0, none⟩) N ct) N (bools f0) ∧ Below w.heap.size w W) (fun x => N - x.1) (0, .slice (some ⟨g3, 0, none⟩) 0 0) ⟨Nat.zero_le _, hob, hot, hbw⟩ ⟨rfl, rfl, trivial⟩ ?_
  clear hob hot hbw
  rintro ⟨x, vl⟩ wx ⟨hx, hob, hot, hbw⟩
  dsimp only at hx hob
  obtain ⟨Al, cl, rfl, _⟩ := (Rd.of_own hob).shape
  by_cases hlt : x < N
  ·
    refine EC.seq ?_
    refine EC.seq ?_
    refine EC.region ?_
    refine EL.val (x_move rfl) rfl ?_
    refine EL.val (x_move rfl) rfl ?_
    refine EL.val (ln_51 rfl) rfl ?_
    refine EL.val (x_lss rfl rfl (decide_eq_true (show (((x : Nat) : Int) < ((N : Nat) : Int)) by omega))) rfl ?_
    refine EL.nil ?_
    refine EX.seq ?_
    refine EC.yes rfl ?_
    refine EC.skip ?_
    refine EX.seq ?_
    refine EC.seq ?_
    refine EC.block ?_
    refine EC.region ?_
    refine EL.val (x_move rfl) rfl ?_
    refine EL.newS (bs_29_1 rfl) rfl ?_
    intro g4 w4 q4 hb4 hg4 hl4
    have bhbw_4 := Nat.le_trans hbw.size hg4
    replace hob := own_below hob hb4 (Nat.le_refl _)
    replace hot := own_below hot hb4 (Nat.le_refl _)
    replace hbw := Below.on hbw hb4 hbw.size
    clear hb4 hg4 hl4
    refine EL.push i64_elem rfl rfl hob (rd_one (l := [.int .i64 (-1)]) q4 rfl) (by intro u hu; rw [List.mem_singleton.1 hu]; rfl) (by first | omega | (simp only; omega)) rfl hbw.size rfl ?_
    intro v5 w5 hob2 hgr hb_ hat
    replace hot := own_grown hot hob rfl hgr
    replace hbw := hbw.trans hb_
    clear hob hgr hb_ hat
    refine EL.val (x_assign rfl) rfl ?_
    refine EL.nil ?_
    refine EX.blk ?_
    refine EX.seq ?_
    refine EC.region ?_
    refine EL.val (x_move rfl) rfl ?_
    refine EL.val (x_add rfl rfl (c := ((x + 1 : Nat) : Int)) ((IntWalk.i64_in _ ⟨by first | omega | (simp only; omega), by first | omega | (simp only; omega)⟩).trans (by first | omega | (simp only; omega)))) rfl ?_
    refine EL.val (x_assign rfl) rfl ?_
    refine EL.nil ?_
    refine EX.roundD (x + 1, _) ⟨rfl, rfl, trivial⟩ (by repeat first | with_reducible exact Sub.refl _ | refine sub_past rfl ?_ | exact Sub.refl _ | refine sub_del rfl ?_ | refine sub_insL_nil ?_) ⟨hlt, by show World.ownsRow _ _ _ _ _ (x + 1) (ints (List.replicate (x + 1) (-1))); rw [List.replicate_succ', ints_app]; exact hob2, hot, hbw⟩ (by simp only; omega)
  ·
    have hxe : x = N := by omega
    subst hxe
    obtain ⟨gb, rfl⟩ := own_slice hob (by omega)
    refine EC.seq ?_
    refine EC.seq ?_
    refine EC.region ?_
    refine EL.val (x_move rfl) rfl ?_
    refine EL.val (x_move rfl) rfl ?_
    refine EL.val (ln_51 rfl) rfl ?_
    refine EL.val (x_lss rfl rfl (decide_eq_false (show ¬(((x : Nat) : Int) < ((x : Nat) : Int)) by omega))) rfl ?_
    refine EL.nil ?_
    refine EX.seq ?_
    refine EC.no rfl ?_
    refine EC.exit ?_
    refine EX.seq_exit ?_
    refine EX.seq_exit ?_
    refine EX.blk_here ?_
    refine EX.seq ?_
    refine EC.seq ?_
    refine EC.seq ?_
    refine EC.region ?_
    refine EL.val (x_assign rfl) rfl ?_
    refine EL.nil ?_
    refine EX.seq ?_
    refine EC.block ?_
    obtain ⟨cs1_, hq1_⟩ := own_blk hot
    have hne : gt ≠ gb := row_ne2 hob hq1_ rfl
    have lbt : w.heap.size ≤ gt := (hot.lt _ rfl).1
    have lbb : w.heap.size ≤ gb := (hob.lt _ rfl).1
    clear hq1_
    have hgs : ∀ g ∈ [gt, gb], w.heap.size ≤ g := by intro g hg; simp only [List.mem_cons, List.not_mem_nil, or_false] at hg; rcases hg with rfl | rfl <;> assumption
    refine EC.loopD [9, 10, 24, 25, 26, 27, 28, 29, 30, 31, 32, 33, 34, 35, 36, 37, 38, 39, 40, 41, 42, 43, 44, 45, 46, 47, 48, 49, 50, 51, 52, 53, 54, 55, 56, 57, 58, 59, 60, 61, 62, 63, 64] (fun x_ : Bool × List Bool × List Int => [(9, .bool x_.1)]) (fun x_ W => RcI S x f0 x_.2.1 x_.2.2 ∧ (x_.1 = false → Closed S x_.2.1) ∧ W.ownsRow w.heap.size 4 1 (.slice (some ⟨gt, 0, none⟩) x ct) x (bools x_.2.1) ∧ W.ownsRow w.heap.size 3 1 (.slice (some ⟨gb, 0, none⟩) x cl) x (ints x_.2.2) ∧ Below w.heap.size w W) (fun x_ => 2 * cntF x_.2.1 + if x_.1 = true then 1 else 0) (true, f0, List.replicate x (-1)) ⟨RcI.start hN, fun h => (by cases h), hot, hob, hbw⟩ ⟨rfl, trivial⟩ ?_
    clear hot hob hbw
    rintro ⟨ag, th0, b0⟩ wy ⟨hrc, hcl, hot, hob, hbw⟩
    dsimp only at hrc hcl hot hob
    cases ag
    ·
      replace hcl := hcl rfl
      refine EC.seq ?_
      refine EC.seq ?_
      refine EC.region ?_
      refine EL.val (x_move rfl) rfl ?_
      refine EL.nil ?_
      refine EX.seq ?_
      refine EC.no rfl ?_
      refine EC.exit ?_
      refine EX.seq_exit ?_
      refine EX.seq_exit ?_
      refine EX.blk_here ?_
      refine EX.seq ?_
      refine EC.seq ?_
      refine EC.region ?_
      refine EL.val (x_move rfl) rfl ?_
      refine EL.val (x_move rfl) rfl ?_
      refine EL.val (x_assign rfl) rfl ?_
      refine EL.val (x_assign rfl) rfl ?_
      refine EL.nil ?_
      refine EX.seq ?_
      refine EC.ret ?_
      exact EX.done (res2 rfl rfl rfl) ⟨⟨_, _, th0, b0, rfl, hrc, hcl, hot, hob⟩, hbw⟩
    ·
      clear hcl
      refine EC.seq ?_
      refine EC.seq ?_
      refine EC.region ?_
      refine EL.val (x_move rfl) rfl ?_
      refine EL.nil ?_
      refine EX.seq ?_
      refine EC.yes rfl ?_
      refine EC.skip ?_
      refine EX.seq ?_
      refine EC.block ?_
      refine EC.seq ?_
      refine EC.region ?_
      refine EL.val (x_assign rfl) rfl ?_
      refine EL.nil ?_
      refine EX.seq ?_
      refine EC.seq ?_
      refine EC.region ?_
      refine EL.val (x_assign rfl) rfl ?_
      refine EL.nil ?_
      refine EX.seq ?_
      refine EC.block ?_
      refine EC.loopD [9, 10, 25, 26, 27, 28, 29, 30, 31, 32, 33, 34, 35, 36, 37, 38, 39, 40, 41, 42, 43, 44, 45, 46, 47, 48, 49, 50, 51, 52, 53, 54, 55, 56, 57, 58, 59, 60, 61, 62, 63, 64] (fun x_ : Nat × Bool × List Bool × List Int => [(9, .bool x_.2.1), (10, .int .i64 (x_.1 : Nat))]) (fun x_ W => x_.1 ≤ S.length ∧ RdI S x f0 th0 x_.1 x_.2.1 x_.2.2.1 x_.2.2.2 ∧ W.ownsRow w.heap.size 4 1 (.slice (some ⟨gt, 0, none⟩) x ct) x (bools x_.2.2.1) ∧ W.ownsRow w.heap.size 3 1 (.slice (some ⟨gb, 0, none⟩) x cl) x (ints x_.2.2.2) ∧ Below w.heap.size w W) (fun x_ => S.length - x_.1) (0, false, th0, b0) ⟨Nat.zero_le _, RdI.start hrc, hot, hob, hbw⟩ ⟨rfl, rfl, trivial⟩ ?_
      clear hot hob hbw
      rintro ⟨i, ag2, th, b⟩ wz ⟨hi, hrd, hot, hob, hbw⟩
      dsimp only at hi hrd hot hob
      by_cases hlt : i < S.length
      ·
        obtain ⟨be, oe, e_, _, c0, c1, _⟩ := ends_cells S i hlt _ _ _ _ _ he
        subst e_
        obtain ⟨hf1, ht1⟩ := hE i hlt
        have hthl := hrd.rc.lt
        have hbl := hrd.rc.lb
        have hsk := hrd.skip
        have htk := hrd.take hE hlt
        obtain ⟨y, ey⟩ : ∃ z, z = esAt S i := ⟨_, rfl⟩
        rw [← ey] at c0 c1 hf1 ht1 hsk htk
        have rcf := own_bool_cell hot (k := y.fr) (by omega)
        have rct := own_bool_cell hot (k := y.to) (by omega)
        cases hff : th.getD y.fr false
        ·
          rw [hff] at rcf
          refine EC.seq ?_
          refine EC.seq ?_
          refine EC.region ?_
          refine EL.val (x_move rfl) rfl ?_
          refine EL.val (x_move rfl) rfl ?_
          refine EL.val (ln_123 rfl) rfl ?_
          refine EL.val (x_lss rfl rfl (decide_eq_true (show (((i : Nat) : Int) < ((S.length : Nat) : Int)) by omega))) rfl ?_
          refine EL.nil ?_
          refine EX.seq ?_
          refine EC.yes rfl ?_
          refine EC.skip ?_
          refine EX.seq ?_
          refine EC.seq ?_
          refine EC.block ?_
          refine EC.seq ?_
          refine EC.region ?_
          refine EL.val (x_move rfl) rfl ?_
          refine EL.val (x_move rfl) rfl ?_
          refine EL.val (x_move rfl) rfl ?_
          refine EL.val (ix_123 rfl rfl hlt) rfl ?_
          refine EL.val (ixa_128 (k := 0) rfl rfl (by omega)) rfl ?_
          refine EL.val (ld_3 rfl (below_load hbw c0)) rfl ?_
          refine EL.val (ix_51 rfl rfl hf1) rfl ?_
          refine EL.val (ld_4 rfl rcf) rfl ?_
          refine EL.val (x_move rfl) rfl ?_
          refine EL.skip rfl rfl rfl rfl ?_
          refine EL.skip rfl rfl rfl rfl ?_
          refine EL.skip rfl rfl rfl rfl ?_
          refine EL.skip rfl rfl rfl rfl ?_
          refine EL.skip rfl rfl rfl rfl ?_
          refine EL.skip rfl rfl rfl rfl ?_
          refine EL.skip rfl rfl rfl rfl ?_
          refine EL.skip rfl rfl rfl rfl ?_
          refine EL.skip rfl rfl rfl rfl ?_
          refine EL.val (x_pick_f rfl rfl) rfl ?_
          refine EL.nil ?_
          refine EX.seq ?_
          refine EC.no rfl ?_
          refine EC.skip ?_
          refine EX.blk ?_
          refine EX.seq ?_
          refine EC.region ?_
          refine EL.val (x_move rfl) rfl ?_
          refine EL.val (x_add rfl rfl (c := ((i + 1 : Nat) : Int)) ((IntWalk.i64_in _ ⟨by first | omega | (simp only; omega), by first | omega | (simp only; omega)⟩).trans (by first | omega | (simp only; omega)))) rfl ?_
          refine EL.val (x_assign rfl) rfl ?_
          refine EL.nil ?_
          refine EX.roundD (i + 1, ag2, th, b) ⟨rfl, rfl, trivial⟩ (by repeat first | with_reducible exact Sub.refl _ | refine sub_past rfl ?_ | exact Sub.refl _ | refine sub_del rfl ?_ | refine sub_insL_nil ?_) ⟨hlt, hsk (fun h => by rw [hff] at h; cases h), hot, hob, hbw⟩ (by simp only; omega)
        ·
          rw [hff] at rcf
          cases htt : th.getD y.to false
          ·
            rw [htt] at rct
            refine EC.seq ?_
            refine EC.seq ?_
            refine EC.region ?_
            refine EL.val (x_move rfl) rfl ?_
            refine EL.val (x_move rfl) rfl ?_
            refine EL.val (ln_123 rfl) rfl ?_
            refine EL.val (x_lss rfl rfl (decide_eq_true (show (((i : Nat) : Int) < ((S.length : Nat) : Int)) by omega))) rfl ?_
            refine EL.nil ?_
            refine EX.seq ?_
            refine EC.yes rfl ?_
            refine EC.skip ?_
            refine EX.seq ?_
            refine EC.seq ?_
            refine EC.block ?_
            refine EC.seq ?_
            refine EC.region ?_
            refine EL.val (x_move rfl) rfl ?_
            refine EL.val (x_move rfl) rfl ?_
            refine EL.val (x_move rfl) rfl ?_
            refine EL.val (ix_123 rfl rfl hlt) rfl ?_
            refine EL.val (ixa_128 (k := 0) rfl rfl (by omega)) rfl ?_
            refine EL.val (ld_3 rfl (below_load hbw c0)) rfl ?_
            refine EL.val (ix_51 rfl rfl hf1) rfl ?_
            refine EL.val (ld_4 rfl rcf) rfl ?_
            refine EL.val (x_move rfl) rfl ?_
            refine EL.valg rfl rfl (x_move rfl) rfl ?_
            refine EL.valg rfl rfl (x_move rfl) rfl ?_
            refine EL.valg rfl rfl (x_move rfl) rfl ?_
            refine EL.valg rfl rfl (ix_123 rfl rfl hlt) rfl ?_
            refine EL.valg rfl rfl (ixa_128 (k := 1) rfl rfl (by omega)) rfl ?_
            refine EL.valg rfl rfl (ld_3 rfl (below_load hbw c1)) rfl ?_
            refine EL.valg rfl rfl (ix_51 rfl rfl ht1) rfl ?_
            refine EL.valg rfl rfl (ld_4 rfl rct) rfl ?_
            refine EL.valg rfl rfl (x_not rfl) rfl ?_
            refine EL.val (x_pick_t rfl rfl) rfl ?_
            refine EL.nil ?_
            refine EX.seq ?_
            refine EC.yes rfl ?_
            have lb_t : w.heap.size ≤ gt := (hot.lt _ rfl).1
            have lb_b : w.heap.size ≤ gb := (hob.lt _ rfl).1
            refine EC.regionS [[], [], [], [1, 2], [1, 2, 3], [1, 2, 3, 4], [], [], [], [7, 8], [7, 8, 9], [7, 8, 9, 10], [], [0, 1, 2, 3, 4, 5, 7, 8, 9, 10, 11], [0, 1, 2, 3, 4, 5, 7, 8, 9, 10, 11, 13], [0, 1, 2, 3, 4, 5, 6, 7, 8, 9, 10, 11, 12, 13, 14], [0, 1, 2, 3, 4, 5, 6, 7, 8, 9, 10, 11, 12, 13, 14, 15], [0, 1, 2, 3, 4, 5, 6, 7, 8, 9, 10, 11, 12, 13, 14, 15, 16]] 17 [] [14, 16] (fun fl w_ => Touch wz w_ [gt, gb] ∧ (fl 14 = false → w_.ownsRow w.heap.size 4 1 (.slice (some ⟨gt, 0, none⟩) x ct) x (bools th)) ∧ (fl 16 = false → w_.ownsRow w.heap.size 3 1 (.slice (some ⟨gb, 0, none⟩) x cl) x (ints b))) (phiS (fun i_ r => match i_ with | 0 => r 0 = .slice (some ⟨gt, 0, none⟩) x ct | 1 => r 1 = .slice (some ⟨be, oe, none⟩) S.length ce | 2 => r 2 = .int .i64 (i : Nat) | 3 => r 3 = .pointer (some ⟨be, oe + i * 3, none⟩) | 4 => r 4 = .pointer (some ⟨be, oe + i * 3 + 1, none⟩) | 5 => r 5 = .int .i64 (y.to : Nat) | 6 => r 6 = .slice (some ⟨gb, 0, none⟩) x cl | 7 => r 7 = .slice (some ⟨be, oe, none⟩) S.length ce | 8 => r 8 = .int .i64 (i : Nat) | 9 => r 9 = .pointer (some ⟨be, oe + i * 3, none⟩) | 10 => r 10 = .pointer (some ⟨be, oe + i * 3 + 1, none⟩) | 11 => r 11 = .int .i64 (y.to : Nat) | 12 => r 12 = .int .i64 (i : Nat) | 13 => r 13 = .pointer (some ⟨gt, 0 + y.to, none⟩) | 15 => r 15 = .pointer (some ⟨gb, 0 + y.to, none⟩) | _ => True) [(14, fun fl _ w_ => fl 14 = true ∧ w_.ownsRow w.heap.size 4 1 (.slice (some ⟨gt, 0, none⟩) x ct) x (bools (th.set y.to true))), (16, fun fl _ w_ => fl 16 = true ∧ w_.ownsRow w.heap.size 3 1 (.slice (some ⟨gb, 0, none⟩) x cl) x (ints (b.set y.to ((i : Nat) : Int))))]) (by kernel_rfl) rfl rfl (by intro i hi; simp at hi; rcases hi with rfl | rfl <;> exact ⟨by simp, by omega⟩) ⟨fun _ _ => ⟨Touch.start _ _, fun _ => own_drewN hot 1, fun _ => own_drewN hob 1⟩, fun _ _ _ ⟨hT, hA0_, hA1_⟩ hb => ⟨hT.below hb, fun h => own_below (hA0_ h) hb (Nat.le_refl _), fun h => own_below (hA1_ h) hb (Nat.le_refl _)⟩, fun _ _ h => h.1.size⟩ (phiS_cons (fun _ _ _ _ hb ⟨h1, h2⟩ => ⟨h1, own_below h2 hb (Nat.le_refl _)⟩) (phiS_cons (fun _ _ _ _ hb ⟨h1, h2⟩ => ⟨h1, own_below h2 hb (Nat.le_refl _)⟩) (phiS_nil))) (fun i_ hi_ hs_ => ?_) (fun i_ hi_ => ?_) ?_
            · match i_, hi_ with
              | 0, _ =>
                intro val fl w1 a hb ha hd hfl
                obtain ⟨hT, hA0_, hA1_⟩ := hb
                have ha := ha.sub (Sub.ins (d := 6) (Sub.nil _) rfl)
                exact ss_val ha rfl rfl (x_move rfl) rfl rfl
              | 1, _ =>
                intro val fl w1 a hb ha hd hfl
                obtain ⟨hT, hA0_, hA1_⟩ := hb
                have ha := ha.sub (Sub.ins (d := 0) (Sub.nil _) rfl)
                exact ss_val ha rfl rfl (x_move rfl) rfl rfl
              | 2, _ =>
                intro val fl w1 a hb ha hd hfl
                obtain ⟨hT, hA0_, hA1_⟩ := hb
                have ha := ha.sub (Sub.ins (d := 10) (Sub.nil _) rfl)
                exact ss_val ha rfl rfl (x_move rfl) rfl rfl
              | 3, _ =>
                intro val fl w1 a hb ha hd hfl
                obtain ⟨hT, hA0_, hA1_⟩ := hb
                have e1 : val 1 = .slice (some ⟨be, oe, none⟩) S.length ce := hd 1 (memB_mem.1 rfl)
                have e2 : val 2 = .int .i64 (i : Nat) := hd 2 (memB_mem.1 rfl)
                have ha := ha.sub (Sub.ins (d := 52) (Sub.ins (d := 51) (Sub.nil _) (dep_get rfl e1)) (dep_get rfl e2))
                exact ss_val ha rfl rfl (ix_123 rfl rfl hlt) rfl rfl
              | 4, _ =>
                intro val fl w1 a hb ha hd hfl
                obtain ⟨hT, hA0_, hA1_⟩ := hb
                have e3 : val 3 = .pointer (some ⟨be, oe + i * 3, none⟩) := hd 3 (memB_mem.1 rfl)
                have ha := ha.sub (Sub.ins (d := 53) (Sub.nil _) (dep_get rfl e3))
                exact ss_val ha rfl rfl (ixa_128 (k := 1) rfl rfl (by omega)) rfl rfl
              | 5, _ =>
                intro val fl w1 a hb ha hd hfl
                obtain ⟨hT, hA0_, hA1_⟩ := hb
                have e4 : val 4 = .pointer (some ⟨be, oe + i * 3 + 1, none⟩) := hd 4 (memB_mem.1 rfl)
                have ha := ha.sub (Sub.ins (d := 54) (Sub.nil _) (dep_get rfl e4))
                exact ss_val ha rfl rfl (ld_3 rfl (below_load (Touch.anchor hT hbw hgs) c1)) rfl rfl
              | 6, _ =>
                intro val fl w1 a hb ha hd hfl
                obtain ⟨hT, hA0_, hA1_⟩ := hb
                have ha := ha.sub (Sub.ins (d := 7) (Sub.nil _) rfl)
                exact ss_val ha rfl rfl (x_move rfl) rfl rfl
              | 7, _ =>
                intro val fl w1 a hb ha hd hfl
                obtain ⟨hT, hA0_, hA1_⟩ := hb
                have ha := ha.sub (Sub.ins (d := 0) (Sub.nil _) rfl)
                exact ss_val ha rfl rfl (x_move rfl) rfl rfl
              | 8, _ =>
                intro val fl w1 a hb ha hd hfl
                obtain ⟨hT, hA0_, hA1_⟩ := hb
                have ha := ha.sub (Sub.ins (d := 10) (Sub.nil _) rfl)
                exact ss_val ha rfl rfl (x_move rfl) rfl rfl
              | 9, _ =>
                intro val fl w1 a hb ha hd hfl
                obtain ⟨hT, hA0_, hA1_⟩ := hb
                have e7 : val 7 = .slice (some ⟨be, oe, none⟩) S.length ce := hd 7 (memB_mem.1 rfl)
                have e8 : val 8 = .int .i64 (i : Nat) := hd 8 (memB_mem.1 rfl)
                have ha := ha.sub (Sub.ins (d := 58) (Sub.ins (d := 57) (Sub.nil _) (dep_get rfl e7)) (dep_get rfl e8))
                exact ss_val ha rfl rfl (ix_123 rfl rfl hlt) rfl rfl
              | 10, _ =>
                intro val fl w1 a hb ha hd hfl
                obtain ⟨hT, hA0_, hA1_⟩ := hb
                have e9 : val 9 = .pointer (some ⟨be, oe + i * 3, none⟩) := hd 9 (memB_mem.1 rfl)
                have ha := ha.sub (Sub.ins (d := 59) (Sub.nil _) (dep_get rfl e9))
                exact ss_val ha rfl rfl (ixa_128 (k := 1) rfl rfl (by omega)) rfl rfl
              | 11, _ =>
                intro val fl w1 a hb ha hd hfl
                obtain ⟨hT, hA0_, hA1_⟩ := hb
                have e10 : val 10 = .pointer (some ⟨be, oe + i * 3 + 1, none⟩) := hd 10 (memB_mem.1 rfl)
                have ha := ha.sub (Sub.ins (d := 60) (Sub.nil _) (dep_get rfl e10))
                exact ss_val ha rfl rfl (ld_3 rfl (below_load (Touch.anchor hT hbw hgs) c1)) rfl rfl
              | 12, _ =>
                intro val fl w1 a hb ha hd hfl
                obtain ⟨hT, hA0_, hA1_⟩ := hb
                have ha := ha.sub (Sub.ins (d := 10) (Sub.nil _) rfl)
                exact ss_val ha rfl rfl (x_move rfl) rfl rfl
              | 13, _ =>
                intro val fl w1 a hb ha hd hfl
                obtain ⟨hT, hA0_, hA1_⟩ := hb
                have e0 : val 0 = .slice (some ⟨gt, 0, none⟩) x ct := hd 0 (memB_mem.1 rfl)
                have e5 : val 5 = .int .i64 (y.to : Nat) := hd 5 (memB_mem.1 rfl)
                have ha := ha.sub (Sub.ins (d := 55) (Sub.ins (d := 50) (Sub.nil _) (dep_get rfl e0)) (dep_get rfl e5))
                exact ss_val ha rfl rfl (ix_51 rfl rfl ht1) rfl rfl
              | 14, _ =>
                exact absurd (by simp) hs_
              | 15, _ =>
                intro val fl w1 a hb ha hd hfl
                obtain ⟨hT, hA0_, hA1_⟩ := hb
                have e6 : val 6 = .slice (some ⟨gb, 0, none⟩) x cl := hd 6 (memB_mem.1 rfl)
                have e11 : val 11 = .int .i64 (y.to : Nat) := hd 11 (memB_mem.1 rfl)
                have ha := ha.sub (Sub.ins (d := 61) (Sub.ins (d := 56) (Sub.nil _) (dep_get rfl e6)) (dep_get rfl e11))
                exact ss_val ha rfl rfl (ix_29 rfl rfl ht1) rfl rfl
              | 16, _ =>
                exact absurd (by simp) hs_
              | k + 17, h => exact absurd h (by omega)
            · simp only [List.mem_cons, List.not_mem_nil, or_false] at hi_
              rcases hi_ with rfl | rfl
              ·
                intro val fl w1 a hb hfi ha hd hfl
                obtain ⟨hT, hA0_, hA1_⟩ := hb
                have e13 : val 13 = .pointer (some ⟨gt, 0 + y.to, none⟩) := hd 13 (memB_mem.1 rfl)
                have ha := ha.sub (Sub.ins (d := 63) (Sub.nil _) (dep_get rfl e13))
                refine ts_storeRow (l' := [.bool true]) ha rfl rfl rfl (hA0_ hfi) sz_4 rfl rfl (by rw [bools_len, Nat.zero_add]; omega) rfl ?_
                intro w' ho2 hgr
                rw [Nat.zero_add, spl_bools (by omega)] at ho2
                refine ⟨undef, rfl, hgr.size, ⟨hT.grown hgr (by simp), (fun h => by rw [fset_eq] at h; cases h), (fun h => own_ne (hA1_ (by rwa [fset_ne rfl] at h)) hgr hne.symm)⟩, ⟨fset_eq, ho2⟩, fun j _ hj hn hA => ?_⟩
                exact phiS_cons_st (C := fun j => j ≠ 14 ∧ 14 ∉ clsAt [[], [], [], [1, 2], [1, 2, 3], [1, 2, 3, 4], [], [], [], [7, 8], [7, 8, 9], [7, 8, 9, 10], [], [0, 1, 2, 3, 4, 5, 7, 8, 9, 10, 11], [0, 1, 2, 3, 4, 5, 7, 8, 9, 10, 11, 13], [0, 1, 2, 3, 4, 5, 6, 7, 8, 9, 10, 11, 12, 13, 14], [0, 1, 2, 3, 4, 5, 6, 7, 8, 9, 10, 11, 12, 13, 14, 15], [0, 1, 2, 3, 4, 5, 6, 7, 8, 9, 10, 11, 12, 13, 14, 15, 16]] j) (fun hc => absurd rfl hc.1) (phiS_cons_st (C := fun j => j ≠ 14 ∧ 14 ∉ clsAt [[], [], [], [1, 2], [1, 2, 3], [1, 2, 3, 4], [], [], [], [7, 8], [7, 8, 9], [7, 8, 9, 10], [], [0, 1, 2, 3, 4, 5, 7, 8, 9, 10, 11], [0, 1, 2, 3, 4, 5, 7, 8, 9, 10, 11, 13], [0, 1, 2, 3, 4, 5, 6, 7, 8, 9, 10, 11, 12, 13, 14], [0, 1, 2, 3, 4, 5, 6, 7, 8, 9, 10, 11, 12, 13, 14, 15], [0, 1, 2, 3, 4, 5, 6, 7, 8, 9, 10, 11, 12, 13, 14, 15, 16]] j) (fun hc => absurd (memB_mem.1 rfl) hc.2) (fun _ _ h => h)) j ⟨hj, hn⟩
              ·
                intro val fl w1 a hb hfi ha hd hfl
                obtain ⟨hT, hA0_, hA1_⟩ := hb
                have e15 : val 15 = .pointer (some ⟨gb, 0 + y.to, none⟩) := hd 15 (memB_mem.1 rfl)
                have e12 : val 12 = .int .i64 (i : Nat) := hd 12 (memB_mem.1 rfl)
                have ha := ha.sub (Sub.ins (d := 62) (Sub.ins (d := 64) (Sub.nil _) (dep_get rfl e15)) (dep_get rfl e12))
                refine ts_storeRow (l' := [.int .i64 (i : Nat)]) ha rfl rfl rfl (hA1_ hfi) sz_3 rfl rfl (by rw [ints_len, Nat.zero_add]; omega) rfl ?_
                intro w' ho2 hgr
                rw [Nat.zero_add, spl_ints (by omega)] at ho2
                refine ⟨undef, rfl, hgr.size, ⟨hT.grown hgr (by simp), (fun h => own_ne (hA0_ (by rwa [fset_ne rfl] at h)) hgr hne), (fun h => by rw [fset_eq] at h; cases h)⟩, ⟨fset_eq, ho2⟩, fun j _ hj hn hA => ?_⟩
                exact phiS_cons_st (C := fun j => j ≠ 16 ∧ 16 ∉ clsAt [[], [], [], [1, 2], [1, 2, 3], [1, 2, 3, 4], [], [], [], [7, 8], [7, 8, 9], [7, 8, 9, 10], [], [0, 1, 2, 3, 4, 5, 7, 8, 9, 10, 11], [0, 1, 2, 3, 4, 5, 7, 8, 9, 10, 11, 13], [0, 1, 2, 3, 4, 5, 6, 7, 8, 9, 10, 11, 12, 13, 14], [0, 1, 2, 3, 4, 5, 6, 7, 8, 9, 10, 11, 12, 13, 14, 15], [0, 1, 2, 3, 4, 5, 6, 7, 8, 9, 10, 11, 12, 13, 14, 15, 16]] j) (fun _ ⟨h1, h2⟩ => ⟨by rw [fset_ne rfl]; exact h1, own_ne h2 hgr hne⟩) (phiS_cons_st (C := fun j => j ≠ 16 ∧ 16 ∉ clsAt [[], [], [], [1, 2], [1, 2, 3], [1, 2, 3, 4], [], [], [], [7, 8], [7, 8, 9], [7, 8, 9, 10], [], [0, 1, 2, 3, 4, 5, 7, 8, 9, 10, 11], [0, 1, 2, 3, 4, 5, 7, 8, 9, 10, 11, 13], [0, 1, 2, 3, 4, 5, 6, 7, 8, 9, 10, 11, 12, 13, 14], [0, 1, 2, 3, 4, 5, 6, 7, 8, 9, 10, 11, 12, 13, 14, 15], [0, 1, 2, 3, 4, 5, 6, 7, 8, 9, 10, 11, 12, 13, 14, 15, 16]] j) (fun hc => absurd rfl hc.1) (fun _ _ h => h)) j ⟨hj, hn⟩
            · intro val fl wR13 hfl hb halc hd
              obtain ⟨hT, _⟩ := hb
              have hz_t := (hd 14 (by omega)).2
              change wR13.ownsRow w.heap.size 4 1 (.slice (some ⟨gt, 0, none⟩) x ct) x (bools (th.set y.to true)) at hz_t
              have hz_b := (hd 16 (by omega)).2
              change wR13.ownsRow w.heap.size 3 1 (.slice (some ⟨gb, 0, none⟩) x cl) x (ints (b.set y.to ((i : Nat) : Int))) at hz_b
              have e0 : val 0 = .slice (some ⟨gt, 0, none⟩) x ct := hd 0 (by omega)
              have e1 : val 1 = .slice (some ⟨be, oe, none⟩) S.length ce := hd 1 (by omega)
              have e2 : val 2 = .int .i64 (i : Nat) := hd 2 (by omega)
              have e3 : val 3 = .pointer (some ⟨be, oe + i * 3, none⟩) := hd 3 (by omega)
              have e4 : val 4 = .pointer (some ⟨be, oe + i * 3 + 1, none⟩) := hd 4 (by omega)
              have e5 : val 5 = .int .i64 (y.to : Nat) := hd 5 (by omega)
              have e6 : val 6 = .slice (some ⟨gb, 0, none⟩) x cl := hd 6 (by omega)
              have e7 : val 7 = .slice (some ⟨be, oe, none⟩) S.length ce := hd 7 (by omega)
              have e8 : val 8 = .int .i64 (i : Nat) := hd 8 (by omega)
              have e9 : val 9 = .pointer (some ⟨be, oe + i * 3, none⟩) := hd 9 (by omega)
              have e10 : val 10 = .pointer (some ⟨be, oe + i * 3 + 1, none⟩) := hd 10 (by omega)
              have e11 : val 11 = .int .i64 (y.to : Nat) := hd 11 (by omega)
              have e12 : val 12 = .int .i64 (i : Nat) := hd 12 (by omega)
              have e13 : val 13 = .pointer (some ⟨gt, 0 + y.to, none⟩) := hd 13 (by omega)
              have e15 : val 15 = .pointer (some ⟨gb, 0 + y.to, none⟩) := hd 15 (by omega)
              refine EL.ends (cs := [.slice (some ⟨gt, 0, none⟩) x ct, .slice (some ⟨be, oe, none⟩) S.length ce, .int .i64 (i : Nat), .pointer (some ⟨be, oe + i * 3, none⟩), .pointer (some ⟨be, oe + i * 3 + 1, none⟩), .int .i64 (y.to : Nat), .slice (some ⟨gb, 0, none⟩) x cl, .slice (some ⟨be, oe, none⟩) S.length ce, .int .i64 (i : Nat), .pointer (some ⟨be, oe + i * 3, none⟩), .pointer (some ⟨be, oe + i * 3 + 1, none⟩), .int .i64 (y.to : Nat), .int .i64 (i : Nat), .pointer (some ⟨gt, 0 + y.to, none⟩), val 14, .pointer (some ⟨gb, 0 + y.to, none⟩), val 16]) ⟨e0, e1, e2, e3, e4, e5, e6, e7, e8, e9, e10, e11, e12, e13, rfl, e15, rfl, trivial⟩ rfl ?_
              replace hbw := Touch.anchor hT hbw (fun g hg => by simp only [List.mem_cons, List.not_mem_nil, or_false] at hg; rcases hg with rfl | rfl <;> omega)
              clear hT hot hob
              have hot := hz_t
              clear hz_t
              have hob := hz_b
              clear hz_b
              refine EL.val (x_assign rfl) rfl ?_
              refine EL.nil ?_
              refine EX.blk ?_
              refine EX.seq ?_
              refine EC.region ?_
              refine EL.val (x_move rfl) rfl ?_
              refine EL.val (x_add rfl rfl (c := ((i + 1 : Nat) : Int)) ((IntWalk.i64_in _ ⟨by first | omega | (simp only; omega), by first | omega | (simp only; omega)⟩).trans (by first | omega | (simp only; omega)))) rfl ?_
              refine EL.val (x_assign rfl) rfl ?_
              refine EL.nil ?_
              refine EX.roundD (i + 1, true, th.set y.to true, b.set y.to ((i : Nat) : Int)) ⟨rfl, rfl, trivial⟩ (by repeat first | with_reducible exact Sub.refl _ | refine sub_past rfl ?_ | exact Sub.refl _ | refine sub_del rfl ?_ | refine sub_insL_nil ?_) ⟨hlt, htk hff htt, hot, hob, hbw⟩ (by simp only; omega)
          ·
            rw [htt] at rct
            refine EC.seq ?_
            refine EC.seq ?_
            refine EC.region ?_
            refine EL.val (x_move rfl) rfl ?_
            refine EL.val (x_move rfl) rfl ?_
            refine EL.val (ln_123 rfl) rfl ?_
            refine EL.val (x_lss rfl rfl (decide_eq_true (show (((i : Nat) : Int) < ((S.length : Nat) : Int)) by omega))) rfl ?_
            refine EL.nil ?_
            refine EX.seq ?_
            refine EC.yes rfl ?_
            refine EC.skip ?_
            refine EX.seq ?_
            refine EC.seq ?_
            refine EC.block ?_
            refine EC.seq ?_
            refine EC.region ?_
            refine EL.val (x_move rfl) rfl ?_
            refine EL.val (x_move rfl) rfl ?_
            refine EL.val (x_move rfl) rfl ?_
            refine EL.val (ix_123 rfl rfl hlt) rfl ?_
            refine EL.val (ixa_128 (k := 0) rfl rfl (by omega)) rfl ?_
            refine EL.val (ld_3 rfl (below_load hbw c0)) rfl ?_
            refine EL.val (ix_51 rfl rfl hf1) rfl ?_
            refine EL.val (ld_4 rfl rcf) rfl ?_
            refine EL.val (x_move rfl) rfl ?_
            refine EL.valg rfl rfl (x_move rfl) rfl ?_
            refine EL.valg rfl rfl (x_move rfl) rfl ?_
            refine EL.valg rfl rfl (x_move rfl) rfl ?_
            refine EL.valg rfl rfl (ix_123 rfl rfl hlt) rfl ?_
            refine EL.valg rfl rfl (ixa_128 (k := 1) rfl rfl (by omega)) rfl ?_
            refine EL.valg rfl rfl (ld_3 rfl (below_load hbw c1)) rfl ?_
            refine EL.valg rfl rfl (ix_51 rfl rfl ht1) rfl ?_
            refine EL.valg rfl rfl (ld_4 rfl rct) rfl ?_
            refine EL.valg rfl rfl (x_not rfl) rfl ?_
            refine EL.val (x_pick_t rfl rfl) rfl ?_
            refine EL.nil ?_
            refine EX.seq ?_
            refine EC.no rfl ?_
            refine EC.skip ?_
            refine EX.blk ?_
            refine EX.seq ?_
            refine EC.region ?_
            refine EL.val (x_move rfl) rfl ?_
            refine EL.val (x_add rfl rfl (c := ((i + 1 : Nat) : Int)) ((IntWalk.i64_in _ ⟨by first | omega | (simp only; omega), by first | omega | (simp only; omega)⟩).trans (by first | omega | (simp only; omega)))) rfl ?_
            refine EL.val (x_assign rfl) rfl ?_
            refine EL.nil ?_
            refine EX.roundD (i + 1, ag2, th, b) ⟨rfl, rfl, trivial⟩ (by repeat first | with_reducible exact Sub.refl _ | refine sub_past rfl ?_ | exact Sub.refl _ | refine sub_del rfl ?_ | refine sub_insL_nil ?_) ⟨hlt, hsk (fun _ => htt), hot, hob, hbw⟩ (by simp only; omega)
      ·
        have hie : i = S.length := by omega
        subst hie
        refine EC.seq ?_
        refine EC.seq ?_
        refine EC.region ?_
        refine EL.val (x_move rfl) rfl ?_
        refine EL.val (x_move rfl) rfl ?_
        refine EL.val (ln_123 rfl) rfl ?_
        refine EL.val (x_lss rfl rfl (decide_eq_false (show ¬(((S.length : Nat) : Int) < ((S.length : Nat) : Int)) by omega))) rfl ?_
        refine EL.nil ?_
        refine EX.seq ?_
        refine EC.no rfl ?_
        refine EC.exit ?_
        refine EX.seq_exit ?_
        refine EX.seq_exit ?_
        refine EX.blk_here ?_
        refine EX.blk ?_
        refine EX.roundD (ag2, th, b) ⟨rfl, trivial⟩ (by repeat first | with_reducible exact Sub.refl _ | refine sub_past rfl ?_ | exact Sub.refl _ | refine sub_del rfl ?_ | refine sub_insL_nil ?_) ⟨hrd.rc, fun h => (hrd.no h).2, hot, hob, hbw⟩ (by have h1 := hrd.yes; have h2 := hrd.le; show 2 * cntF th + (if ag2 = true then 1 else 0) < 2 * cntF th0 + (if true = true then 1 else 0); rw [if_pos rfl]; cases ag2 <;> simp at h1 ⊢ <;> omega)
end Go.Proofs.Ytabgmnmpdjnjoaa
set_option linter.unusedVariables false
set_option linter.unusedSimpArgs false
namespace Go.Proofs.Ytabgmnmpdjnjoaa
open Go Go.RowKit
section
variable {n : Nat} {σ : Sg} {w : World} {dst : Option Tmp} {ty : TypeId} {pos : String} {af : Array Edge} {g : Option (Nat × Bool)} {x y z : Operand} {at' : Array TypeId}
theorem bs_51_1 {x0 : Operand} {b0 : Bool} (h0 : evS σ x0 = some (.bool b0)) (a : Act) (ha : Env n σ a) : (execOp a.eval ⟨dst, .buildSlice 51 1 #[(0, x0)], ty, pos, af, g⟩).run Try.prog w = .ok (.value (.slice (some ⟨w.heap.size, 0, none⟩) 1 1)) (w.alloc (.cells #[.bool b0] 4)) := by
  simp only [execOp, List.map_toArray, List.map_cons, List.map_nil, ha.eval h0]
  go_simp
theorem cl_70 {x0 x1 : Operand} {v0 v1 : Value} (h0 : evS σ x0 = some v0) (h1 : evS σ x1 = some v1) (a : Act) (ha : Env n σ a) : (execOp a.eval ⟨dst, .call { callee := .value (.func 70), args := #[x0, x1], argTypes := at' }, ty, pos, af, g⟩).run Try.prog w = .ok (.enter 70 #[v0, v1]) w := by
  simp only [execOp, resolve, List.map_toArray, List.map_cons, List.map_nil, ha.eval h0, ha.eval h1]
  simp [go_sem, Act.eval]
theorem cl_71 {x0 x1 : Operand} {v0 v1 : Value} (h0 : evS σ x0 = some v0) (h1 : evS σ x1 = some v1) (a : Act) (ha : Env n σ a) : (execOp a.eval ⟨dst, .call { callee := .value (.func 71), args := #[x0, x1], argTypes := at' }, ty, pos, af, g⟩).run Try.prog w = .ok (.enter 71 #[v0, v1]) w := by
  simp only [execOp, resolve, List.map_toArray, List.map_cons, List.map_nil, ha.eval h0, ha.eval h1]
  simp [go_sem, Act.eval]
theorem ix_85 {b o m c k : Nat} (hx : evS σ x = some (.slice (some ⟨b, o, none⟩) m c)) (hy : evS σ y = some (.int .i64 (k : Int))) (hk : k < m) : Gives Try.prog n σ w ⟨dst, .indexAddr 85 x y, ty, pos, af, g⟩ (.pointer (some ⟨b, o + k * 2, none⟩)) := fun a ha => by
  have k0 : (0 : Int) ≤ (k : Int) := Int.natCast_nonneg _
  have k1 : (k : Int) < (m : Int) := by omega
  simp only [execOp, ha.eval hx, ha.eval hy]
  simp [go_sem, k0, k1]
theorem ld_89 {b o : Nat} {v0 v1 : Value} (hx : evS σ x = some (.pointer (some ⟨b, o, none⟩))) (c0 : w.cell? ⟨b, o, none⟩ = some v0) (c1 : w.cell? ⟨b, o + 1, none⟩ = some v1) : Gives Try.prog n σ w ⟨dst, .load 89 x, ty, pos, af, g⟩ (.agg #[v0, v1]) := fun a ha => by
  simp only [execOp, ha.eval hx]
  simp [go_sem, c0, c1]
theorem cl_47 {x0 x1 : Operand} {v0 v1 : Value} (h0 : evS σ x0 = some v0) (h1 : evS σ x1 = some v1) (a : Act) (ha : Env n σ a) : (execOp a.eval ⟨dst, .call { callee := .value (.func 47), args := #[x0, x1], argTypes := at' }, ty, pos, af, g⟩).run Try.prog w = .ok (.enter 47 #[v0, v1]) w := by
  simp only [execOp, resolve, List.map_toArray, List.map_cons, List.map_nil, ha.eval h0, ha.eval h1]
  simp [go_sem, Act.eval]
end
end Go.Proofs.Ytabgmnmpdjnjoaa
set_option linter.unusedVariables false
set_option linter.unusedSimpArgs false
namespace Go.Proofs.Ytabgmnmpdjnjoaa
open Go Go.RowKit
theorem ok_zero {nt : Net} (hv : netB nt = true) : okTo nt (List.replicate nt.ways.length 0) nt.ways.length = true := by
  obtain ⟨_, _, _, hvw⟩ := netB_ok hv
  unfold okTo
  rw [List.all_eq_true]
  intro j hj
  have hj := List.mem_range.1 hj
  have := hvw j hj
  unfold okMv
  rw [inB_iff, show (List.replicate nt.ways.length (0 : Int)).getD j 0 = 0 by simp [List.getD, hj]]
  omega
theorem from_take {ex : List Int} {x : Nat} (h : x < ex.length) : bools (fromL (ex.take (x + 1))) = bools (fromL (ex.take x)) ++ [.bool (decide (0 < ex.getD x 0))] := by
  rw [List.take_succ_eq_append_getElem h, getD_in h]
  simp only [fromL, bools, List.map_append, List.map_cons, List.map_nil]
theorem mid_bd {nt : Net} {mv : List Int} {S : List Es} (hv : netB nt = true) (hA : Adm nt mv S) (hml : mv.length = nt.ways.length) (hok : okTo nt mv nt.ways.length = true) {cs : List Nat} (hd : cs.Nodup) (hc : ∀ a ∈ cs, a < S.length) (i : Nat) (hi : i < nt.ways.length) : -1000000 ≤ (takeAll S mv cs).getD i 0 ∧ (takeAll S mv cs).getD i 0 ≤ 1000000 := by
  obtain ⟨_, _, _, hvw⟩ := netB_ok hv
  have h1 := okTo_at (take_ok hv hA hml hok hd hc) hi
  have h2 := hvw i hi
  omega
set_option maxHeartbeats 2000000 in
set_option maxRecDepth 100000 in
theorem rfill_any (nt : Net) (vp vw : Value) (w : World) (B : Nat) (hr : RdNet w B vp vw nt) (hB : B ≤ w.heap.size) (hv : netB nt = true) :
    Calls Try.prog 45 #[.agg #[vp, vw]] w fun e w' => (∃ v1 v2 mv, e = .returned (.tuple #[v1, v2]) ∧ FillR nt mv ∧ w'.ownsRow w.heap.size 3 1 v1 nt.ways.length (ints mv) ∧ w'.ownsRow w.heap.size 3 1 v2 nt.ports.length (ints (extL nt mv))) ∧ Below w.heap.size w w' := by
  obtain ⟨Ap, cp_, rfl, _⟩ := hr.ports.shape
  obtain ⟨Aw, cw_, rfl, _⟩ := hr.ways.shape
  obtain ⟨⟨hp1, hp60⟩, hw300, hvp, hvw⟩ := netB_ok hv
  have hbw := Below.refl w.heap.size w
  refine EC.enter 95 Try.func45 rfl rfl rfl ?_
  refine EC.seq ?_
  refine EC.region ?_
  refine EL.newP (bx_25 rfl) rfl ?_
  intro g1 w1 q1 hb1 hg1 hl1
  have bhbw_1 := Nat.le_trans hbw.size hg1
  replace hbw := Below.on hbw hb1 hbw.size
  clear hb1 hg1 hl1
  refine EL.val (x_assign rfl) rfl ?_
  refine EL.val (x_assign rfl) rfl ?_
  refine EL.nil ?_
  refine EX.seq ?_
  refine EC.seq ?_
  refine EC.region ?_
  refine EL.val (fa_25_1 rfl) rfl ?_
  refine EL.val (ld_23 rfl (q1.at (j := 1) rfl)) rfl ?_
  refine EL.val (ln_23 rfl) rfl ?_
  refine EL.make1 (base := w.heap.size) (z := .int .i64 0) Try.underlying29 i64_info rfl rfl (by omega) rfl hbw.size rfl ?_
  intro gm w2 ho hb2 hgo
  rw [← ints_rep] at ho
  replace q1 := q1.below hb2 q1.lt
  replace hbw := Below.on hbw hb2 hbw.size
  clear hb2
  refine EL.val (x_assign rfl) rfl ?_
  refine EL.nil ?_
  refine EX.seq ?_
  refine EC.block ?_
  refine EC.loopD [2, 3, 5, 6, 7, 8, 9, 10, 11, 12, 13, 14, 19, 20, 21, 22, 23, 24, 25, 26, 27, 28, 29, 30, 31, 32, 33, 34, 35, 36, 37, 38, 39, 40, 41, 42, 43, 44, 45, 46, 47, 48, 49, 50, 51, 52, 53, 54, 55, 56, 57, 58, 59, 60, 61, 62, 63, 64, 65, 66, 67, 68, 69, 70, 71, 72, 73, 74, 75, 76, 77, 78, 79, 80, 81, 82, 83, 84, 85, 86, 87, 88, 89, 90, 91, 92, 93, 94] (fun _ : List Int => []) (fun mv W => mv.length = nt.ways.length ∧ okTo nt mv nt.ways.length = true ∧ W.ownsRow w.heap.size 3 1 (.slice (some ⟨gm, 0, none⟩) nt.ways.length nt.ways.length) nt.ways.length (ints mv) ∧ Blk W g1 25 #[.slice Ap nt.ports.length cp_, .slice Aw nt.ways.length cw_] ∧ Below w.heap.size w W) (fun mv => (defS nt mv).toNat) (List.replicate nt.ways.length 0) ⟨by simp, ok_zero hv, ho, q1, hbw⟩ trivial ?_
  clear q1 ho hbw
  rintro mv wx ⟨hml, hok, ho, q1x, hbw⟩
  have hle : (extL nt mv).length = nt.ports.length := extTo_len _
  refine EC.block ?_
  refine EC.seq ?_
  refine EC.region ?_
  refine EL.val (ld_25 rfl (q1x.at (j := 0) rfl) (q1x.at (j := 1) rfl)) rfl ?_
  refine EL.val (x_move rfl) rfl ?_
  have hrW : RdNet wx wx.heap.size _ _ nt := ⟨(hr.ports.below (hbw.mono hB)).more (Nat.le_trans hB hbw.size), (hr.ways.below (hbw.mono hB)).more (Nat.le_trans hB hbw.size)⟩
  have hszX := hbw.size
  have hmlt := (ho.lt gm rfl).2
  refine EL.call (cl_48 rfl rfl) rfl (rextra_any nt mv _ _ _ _ _ hrW (by rw [hml]; exact Rd.of_own ho) (Nat.le_refl _) hv hml hok) ?_
  rintro e w3 ⟨⟨vx, rfl, hox⟩, hc3⟩
  refine ⟨_, rfl, ?_⟩
  obtain ⟨Ax, cx, rfl, _⟩ := (Rd.of_own hox).shape
  obtain ⟨gx, rfl⟩ := own_slice hox (by omega)
  have hxm : gx ≠ gm := by have h_ := (hox.lt gx rfl).1; omega
  replace hox := own_less hox hszX
  replace q1x := q1x.below hc3 q1x.lt
  replace ho := own_below ho hc3 (Nat.le_refl _)
  replace hbw := Below.on hbw hc3 hbw.size
  clear hc3 hrW hmlt
  refine EL.val (x_assign rfl) rfl ?_
  refine EL.nil ?_
  refine EX.seq ?_
  refine EC.seq ?_
  refine EC.region ?_
  refine EL.newS bs_51_0 rfl ?_
  intro g4 w4 q4 hb4 hg4 hl4
  have n1_4 : g1 ≠ g4 := Nat.ne_of_lt (Nat.lt_of_lt_of_le q1x.lt hg4)
  have bhbw_4 := Nat.le_trans hbw.size hg4
  replace q1x := q1x.below hb4 q1x.lt
  replace ho := own_below ho hb4 (Nat.le_refl _)
  replace hox := own_below hox hb4 (Nat.le_refl _)
  replace hbw := Below.on hbw hb4 hbw.size
  clear hb4 hl4
  have hof : World.ownsRow w4 w.heap.size 4 1 (.slice (some ⟨g4, 0, none⟩) 0 0) 0 [] := own_empty 1 q4 (by have := hbw.size; first | exact bhbw_4 | omega)
  refine EL.val (x_assign rfl) rfl ?_
  refine EL.nil ?_
  refine EX.seq ?_
  refine EC.seq ?_
  refine EC.seq ?_
  refine EC.region ?_
  refine EL.val (x_assign rfl) rfl ?_
  refine EL.nil ?_
  refine EX.seq ?_
  refine EC.block ?_
  refine EC.loopD [6, 7, 23, 24, 25, 26, 27, 28, 29, 30, 31, 32, 33, 34, 35, 36] (fun x : Nat × Value => [(6, x.2), (7, .int .i64 (x.1 : Nat))]) (fun x W => x.1 ≤ nt.ports.length ∧ W.ownsRow w.heap.size 4 1 x.2 x.1 (bools (fromL ((extL nt mv).take x.1))) ∧ W.ownsRow w.heap.size 3 1 (.slice (some ⟨gx, 0, none⟩) nt.ports.length cx) nt.ports.length (ints (extL nt mv)) ∧ W.ownsRow w.heap.size 3 1 (.slice (some ⟨gm, 0, none⟩) nt.ways.length nt.ways.length) nt.ways.length (ints mv) ∧ Blk W g1 25 #[.slice Ap nt.ports.length cp_, .slice Aw nt.ways.length cw_] ∧ Below w.heap.size w W) (fun x => nt.ports.length - x.1) (0, .slice (some ⟨g4, 0, none⟩) 0 0) ⟨Nat.zero_le _, hof, hox, ho, q1x, hbw⟩ ⟨rfl, rfl, trivial⟩ ?_
  clear q1x hof hox ho hbw
  rintro ⟨x, vl⟩ wy ⟨hx, hof, hox, ho, q1y, hbw⟩
  dsimp only at hx hof
  obtain ⟨Al, cl, rfl, _⟩ := (Rd.of_own hof).shape
  by_cases hlt : x < nt.ports.length
  ·
    have rc := own_int_cell hox (k := x) (by omega)
    have htk := from_take (ex := extL nt mv) (x := x) (by omega)
    refine EC.seq ?_
    refine EC.seq ?_
    refine EC.region ?_
    refine EL.val (x_move rfl) rfl ?_
    refine EL.val (x_move rfl) rfl ?_
    refine EL.val (ln_29 rfl) rfl ?_
    refine EL.val (x_lss rfl rfl (decide_eq_true (show (((x : Nat) : Int) < ((nt.ports.length : Nat) : Int)) by omega))) rfl ?_
    refine EL.nil ?_
    refine EX.seq ?_
    refine EC.yes rfl ?_
    refine EC.skip ?_
    refine EX.seq ?_
    refine EC.seq ?_
    refine EC.block ?_
    refine EC.region ?_
    refine EL.val (x_move rfl) rfl ?_
    refine EL.val (x_move rfl) rfl ?_
    refine EL.val (x_move rfl) rfl ?_
    refine EL.val (ix_29 rfl rfl hlt) rfl ?_
    refine EL.val (ld_3 rfl rc) rfl ?_
    refine EL.val (x_gtr (r := decide (0 < (extL nt mv).getD x 0)) rfl rfl rfl) rfl ?_
    refine EL.newS (bs_51_1 rfl) rfl ?_
    intro g5 w5 q5 hb5 hg5 hl5
    have n1_5 : g1 ≠ g5 := Nat.ne_of_lt (Nat.lt_of_lt_of_le q1y.lt hg5)
    have bhbw_5 := Nat.le_trans hbw.size hg5
    replace q1y := q1y.below hb5 q1y.lt
    replace hof := own_below hof hb5 (Nat.le_refl _)
    replace hox := own_below hox hb5 (Nat.le_refl _)
    replace ho := own_below ho hb5 (Nat.le_refl _)
    replace hbw := Below.on hbw hb5 hbw.size
    clear hb5 hg5 hl5
    refine EL.push bool_elem rfl rfl hof (rd_one (l := [.bool (decide (0 < (extL nt mv).getD x 0))]) q5 rfl) (by intro u hu; rw [List.mem_singleton.1 hu]; rfl) (by first | omega | (simp only; omega)) rfl hbw.size rfl ?_
    intro v6 w6 hof2 hgr hb_ hat
    replace hox := own_grown hox hof rfl hgr
    replace ho := own_grown ho hof rfl hgr
    replace q1y := blk_grown q1y hof rfl hgr
    replace hbw := hbw.trans hb_
    clear hof hgr hb_ hat
    refine EL.val (x_assign rfl) rfl ?_
    refine EL.nil ?_
    refine EX.blk ?_
    refine EX.seq ?_
    refine EC.region ?_
    refine EL.val (x_move rfl) rfl ?_
    refine EL.val (x_add rfl rfl (c := ((x + 1 : Nat) : Int)) ((IntWalk.i64_in _ ⟨by first | omega | (simp only; omega), by first | omega | (simp only; omega)⟩).trans (by first | omega | (simp only; omega)))) rfl ?_
    refine EL.val (x_assign rfl) rfl ?_
    refine EL.nil ?_
    refine EX.roundD (x + 1, _) ⟨rfl, rfl, trivial⟩ (by repeat first | with_reducible exact Sub.refl _ | refine sub_past rfl ?_ | exact Sub.refl _ | refine sub_del rfl ?_ | refine sub_insL_nil ?_) ⟨hlt, by show World.ownsRow _ _ _ _ _ (x + 1) (bools (fromL ((extL nt mv).take (x + 1)))); rw [htk]; exact hof2, hox, ho, q1y, hbw⟩ (by simp only; omega)
  ·
    have hxe : x = nt.ports.length := by omega
    subst hxe
    rw [← hle, List.take_length, hle] at hof
    refine EC.seq ?_
    refine EC.seq ?_
    refine EC.region ?_
    refine EL.val (x_move rfl) rfl ?_
    refine EL.val (x_move rfl) rfl ?_
    refine EL.val (ln_29 rfl) rfl ?_
    refine EL.val (x_lss rfl rfl (decide_eq_false (show ¬(((nt.ports.length : Nat) : Int) < ((nt.ports.length : Nat) : Int)) by omega))) rfl ?_
    refine EL.nil ?_
    refine EX.seq ?_
    refine EC.no rfl ?_
    refine EC.exit ?_
    refine EX.seq_exit ?_
    refine EX.seq_exit ?_
    refine EX.blk_here ?_
    refine EX.seq ?_
    refine EC.seq ?_
    refine EC.region ?_
    refine EL.val (ld_25 rfl (q1y.at (j := 0) rfl) (q1y.at (j := 1) rfl)) rfl ?_
    refine EL.val (x_move rfl) rfl ?_
    have hrW : RdNet wy wy.heap.size _ _ nt := ⟨(hr.ports.below (hbw.mono hB)).more (Nat.le_trans hB hbw.size), (hr.ways.below (hbw.mono hB)).more (Nat.le_trans hB hbw.size)⟩
    refine EL.call (cl_70 rfl rfl) rfl (rsteps_any nt mv _ _ _ _ _ hrW (by rw [hml]; exact Rd.of_own ho) (Nat.le_refl _) hv hml) ?_
    rintro e w7 ⟨⟨vs_, ve_, rfl, hos, hoe⟩, hc7⟩
    refine ⟨_, rfl, ?_⟩
    replace hos := own_less hos hbw.size
    replace hoe := own_less hoe hbw.size
    obtain ⟨S, eS⟩ : ∃ z, z = esL nt mv nt.ways.length := ⟨_, rfl⟩
    rw [← eS] at hos hoe
    obtain ⟨As, cs_, rfl, _⟩ := (Rd.of_own hos).shape
    obtain ⟨Ae, ce_, rfl, _⟩ := (Rd.of_own hoe).shape
    replace q1y := q1y.below hc7 q1y.lt
    replace hof := own_below hof hc7 (Nat.le_refl _)
    replace hox := own_below hox hc7 (Nat.le_refl _)
    replace ho := own_below ho hc7 (Nat.le_refl _)
    replace hbw := Below.on hbw hc7 hbw.size
    clear hc7 hrW
    refine EL.val (x_move rfl) rfl ?_
    refine EL.val (x_extract rfl rfl) rfl ?_
    refine EL.val (x_extract rfl rfl) rfl ?_
    refine EL.val (x_assign rfl) rfl ?_
    refine EL.val (x_assign rfl) rfl ?_
    refine EL.nil ?_
    refine EX.seq ?_
    refine EC.seq ?_
    refine EC.region ?_
    refine EL.val (x_move rfl) rfl ?_
    refine EL.val (x_move rfl) rfl ?_
    have hmlt := (ho.lt gm rfl).2
    have hsl := esL_len (nt := nt) (mv := mv) nt.ways.length
    have hED := es_ends (nt := nt) (mv := mv) hv
    rw [← eS] at hsl hED
    refine EL.call (cl_71 rfl rfl) rfl (rreach_any S (fromL (extL nt mv)) nt.ports.length _ _ _ _ (Rd.of_own hoe) (Rd.of_own hof) (Nat.le_refl _) (by simp [fromL, hle]) hp1 (by omega) (by omega) hED) ?_
    rintro e w8 ⟨⟨vt_, vb_, th, b, rfl, hrc, hcl, hot, hob⟩, hc8⟩
    refine ⟨_, rfl, ?_⟩
    obtain ⟨At, ct, rfl, _⟩ := (Rd.of_own hot).shape
    obtain ⟨Ab, cb, rfl, _⟩ := (Rd.of_own hob).shape
    obtain ⟨gb, rfl⟩ := own_slice hob (by omega)
    obtain ⟨gt, rfl⟩ := own_slice hot (by omega)
    have hbm : gb ≠ gm := by have h_ := (hob.lt gb rfl).1; omega
    replace hot := own_less hot hbw.size
    replace hob := own_less hob hbw.size
    replace q1y := q1y.below hc8 q1y.lt
    replace hof := own_below hof hc8 (Nat.le_refl _)
    replace hox := own_below hox hc8 (Nat.le_refl _)
    replace ho := own_below ho hc8 (Nat.le_refl _)
    replace hos := own_below hos hc8 (Nat.le_refl _)
    replace hoe := own_below hoe hc8 (Nat.le_refl _)
    replace hbw := Below.on hbw hc8 hbw.size
    clear hc8 hmlt
    refine EL.val (x_move rfl) rfl ?_
    refine EL.val (x_extract rfl rfl) rfl ?_
    refine EL.val (x_extract rfl rfl) rfl ?_
    refine EL.val (x_assign rfl) rfl ?_
    refine EL.val (x_assign rfl) rfl ?_
    refine EL.nil ?_
    refine EX.seq ?_
    refine EC.seq ?_
    refine EC.region ?_
    refine EL.val (x_assign rfl) rfl ?_
    refine EL.nil ?_
    refine EX.seq ?_
    refine EC.cutD [12, 13, 49, 50, 51, 52, 53, 54, 55, 56, 57, 58, 59, 60, 61, 62, 63, 64, 65, 66, 67, 68, 69, 70] (fun a : Int => [(12, .int .i64 a)]) (fun a W => ((a = -1 ∧ ∀ q, q < nt.ports.length → (extL nt mv).getD q 0 < 0 → th.getD q false = false) ∨ ∃ p : Nat, a = (p : Int) ∧ p < nt.ports.length ∧ (extL nt mv).getD p 0 < 0 ∧ th.getD p false = true) ∧ W.ownsRow w.heap.size 89 2 (.slice As S.length cs_) S.length (stepsC S) ∧ W.ownsRow w.heap.size 128 3 (.slice Ae S.length ce_) S.length (endsC S) ∧ W.ownsRow w.heap.size 4 1 (.slice (some ⟨gt, 0, none⟩) nt.ports.length ct) nt.ports.length (bools th) ∧ W.ownsRow w.heap.size 3 1 (.slice (some ⟨gb, 0, none⟩) nt.ports.length cb) nt.ports.length (ints b) ∧ W.ownsRow w.heap.size 3 1 (.slice (some ⟨gx, 0, none⟩) nt.ports.length cx) nt.ports.length (ints (extL nt mv)) ∧ W.ownsRow w.heap.size 3 1 (.slice (some ⟨gm, 0, none⟩) nt.ways.length nt.ways.length) nt.ways.length (ints mv) ∧ Blk W g1 25 #[.slice Ap nt.ports.length cp_, .slice Aw nt.ways.length cw_] ∧ Below w.heap.size w W) ?_ ?_
    ·
      refine EC.seq ?_
      refine EC.region ?_
      refine EL.val (x_assign rfl) rfl ?_
      refine EL.nil ?_
      refine EX.seq ?_
      refine EC.block ?_
      refine EC.loopD [12, 13, 49, 50, 51, 52, 53, 54, 55, 56, 57, 58, 59, 60, 61, 62, 63, 64, 65, 66, 67, 68, 69, 70] (fun x : Nat × Int => [(12, .int .i64 x.2), (13, .int .i64 (x.1 : Nat))]) (fun x W => x.1 ≤ nt.ports.length ∧ ((x.2 = -1 ∧ ∀ q, q < x.1 → (extL nt mv).getD q 0 < 0 → th.getD q false = false) ∨ ∃ p : Nat, x.2 = (p : Int) ∧ p < nt.ports.length ∧ (extL nt mv).getD p 0 < 0 ∧ th.getD p false = true) ∧ W.ownsRow w.heap.size 89 2 (.slice As S.length cs_) S.length (stepsC S) ∧ W.ownsRow w.heap.size 128 3 (.slice Ae S.length ce_) S.length (endsC S) ∧ W.ownsRow w.heap.size 4 1 (.slice (some ⟨gt, 0, none⟩) nt.ports.length ct) nt.ports.length (bools th) ∧ W.ownsRow w.heap.size 3 1 (.slice (some ⟨gb, 0, none⟩) nt.ports.length cb) nt.ports.length (ints b) ∧ W.ownsRow w.heap.size 3 1 (.slice (some ⟨gx, 0, none⟩) nt.ports.length cx) nt.ports.length (ints (extL nt mv)) ∧ W.ownsRow w.heap.size 3 1 (.slice (some ⟨gm, 0, none⟩) nt.ways.length nt.ways.length) nt.ways.length (ints mv) ∧ Blk W g1 25 #[.slice Ap nt.ports.length cp_, .slice Aw nt.ways.length cw_] ∧ Below w.heap.size w W) (fun x => nt.ports.length - x.1) (0, -1) ⟨Nat.zero_le _, .inl ⟨rfl, fun q h => absurd h (Nat.not_lt_zero _)⟩, hos, hoe, hot, hob, hox, ho, q1y, hbw⟩ ⟨rfl, rfl, trivial⟩ ?_
      clear hos hoe hot hob hox ho q1y hbw
      rintro ⟨x, a⟩ wz ⟨hx, hat, hos, hoe, hot, hob, hox, ho, q1z, hbw⟩
      dsimp only at hx hat
      by_cases hlt : x < nt.ports.length
      ·
        rcases hat with ⟨rfl, hno⟩ | ⟨p, rfl, hp0, hpx, hpt⟩
        ·
          have rc := own_int_cell hox (k := x) (by omega)
          have hthl := hrc.lt
          have rt := own_bool_cell hot (k := x) (by omega)
          by_cases hxx : (extL nt mv).getD x 0 < 0
          ·
            cases htt : th.getD x false
            ·
              rw [htt] at rt
              refine EC.seq ?_
              refine EC.seq ?_
              refine EC.region ?_
              refine EL.val (x_move rfl) rfl ?_
              refine EL.val (x_move rfl) rfl ?_
              refine EL.val (ln_29 rfl) rfl ?_
              refine EL.val (x_lss rfl rfl (decide_eq_true (show (((x : Nat) : Int) < ((nt.ports.length : Nat) : Int)) by omega))) rfl ?_
              refine EL.val (x_move rfl) rfl ?_
              refine EL.valg rfl rfl (x_move rfl) rfl ?_
              refine EL.valg rfl rfl (x_lss (r := true) rfl rfl (decide_eq_true (by first | omega | (simp only; omega)))) rfl ?_
              refine EL.val (x_pick_t rfl rfl) rfl ?_
              refine EL.nil ?_
              refine EX.seq ?_
              refine EC.yes rfl ?_
              refine EC.skip ?_
              refine EX.seq ?_
              refine EC.seq ?_
              refine EC.block ?_
              refine EC.seq ?_
              refine EC.region ?_
              refine EL.val (x_move rfl) rfl ?_
              refine EL.val (x_move rfl) rfl ?_
              refine EL.val (ix_29 rfl rfl hlt) rfl ?_
              refine EL.val (ld_3 rfl rc) rfl ?_
              refine EL.val (x_lss (r := true) rfl rfl (decide_eq_true (by omega))) rfl ?_
              refine EL.val (x_move rfl) rfl ?_
              refine EL.valg rfl rfl (x_move rfl) rfl ?_
              refine EL.valg rfl rfl (x_move rfl) rfl ?_
              refine EL.valg rfl rfl (ix_51 rfl rfl hlt) rfl ?_
              refine EL.valg rfl rfl (ld_4 rfl rt) rfl ?_
              refine EL.val (x_pick_t rfl rfl) rfl ?_
              refine EL.nil ?_
              refine EX.seq ?_
              refine EC.no rfl ?_
              refine EC.skip ?_
              refine EX.blk ?_
              refine EX.seq ?_
              refine EC.region ?_
              refine EL.val (x_move rfl) rfl ?_
              refine EL.val (x_add rfl rfl (c := ((x + 1 : Nat) : Int)) ((IntWalk.i64_in _ ⟨by first | omega | (simp only; omega), by first | omega | (simp only; omega)⟩).trans (by first | omega | (simp only; omega)))) rfl ?_
              refine EL.val (x_assign rfl) rfl ?_
              refine EL.nil ?_
              refine EX.roundD (x + 1, -1) ⟨rfl, rfl, trivial⟩ (by repeat first | with_reducible exact Sub.refl _ | refine sub_past rfl ?_ | exact Sub.refl _ | refine sub_del rfl ?_ | refine sub_insL_nil ?_) ⟨hlt, .inl ⟨rfl, fun q hq hxq => (by by_cases e : q = x; (subst e; exact htt); exact hno q (by omega) hxq)⟩, hos, hoe, hot, hob, hox, ho, q1z, hbw⟩ (by simp only; omega)
            ·
              rw [htt] at rt
              refine EC.seq ?_
              refine EC.seq ?_
              refine EC.region ?_
              refine EL.val (x_move rfl) rfl ?_
              refine EL.val (x_move rfl) rfl ?_
              refine EL.val (ln_29 rfl) rfl ?_
              refine EL.val (x_lss rfl rfl (decide_eq_true (show (((x : Nat) : Int) < ((nt.ports.length : Nat) : Int)) by omega))) rfl ?_
              refine EL.val (x_move rfl) rfl ?_
              refine EL.valg rfl rfl (x_move rfl) rfl ?_
              refine EL.valg rfl rfl (x_lss (r := true) rfl rfl (decide_eq_true (by first | omega | (simp only; omega)))) rfl ?_
              refine EL.val (x_pick_t rfl rfl) rfl ?_
              refine EL.nil ?_
              refine EX.seq ?_
              refine EC.yes rfl ?_
              refine EC.skip ?_
              refine EX.seq ?_
              refine EC.seq ?_
              refine EC.block ?_
              refine EC.seq ?_
              refine EC.region ?_
              refine EL.val (x_move rfl) rfl ?_
              refine EL.val (x_move rfl) rfl ?_
              refine EL.val (ix_29 rfl rfl hlt) rfl ?_
              refine EL.val (ld_3 rfl rc) rfl ?_
              refine EL.val (x_lss (r := true) rfl rfl (decide_eq_true (by omega))) rfl ?_
              refine EL.val (x_move rfl) rfl ?_
              refine EL.valg rfl rfl (x_move rfl) rfl ?_
              refine EL.valg rfl rfl (x_move rfl) rfl ?_
              refine EL.valg rfl rfl (ix_51 rfl rfl hlt) rfl ?_
              refine EL.valg rfl rfl (ld_4 rfl rt) rfl ?_
              refine EL.val (x_pick_t rfl rfl) rfl ?_
              refine EL.nil ?_
              refine EX.seq ?_
              refine EC.yes rfl ?_
              refine EC.region ?_
              refine EL.val (x_move rfl) rfl ?_
              refine EL.val (x_assign rfl) rfl ?_
              refine EL.nil ?_
              refine EX.blk ?_
              refine EX.seq ?_
              refine EC.region ?_
              refine EL.val (x_move rfl) rfl ?_
              refine EL.val (x_add rfl rfl (c := ((x + 1 : Nat) : Int)) ((IntWalk.i64_in _ ⟨by first | omega | (simp only; omega), by first | omega | (simp only; omega)⟩).trans (by first | omega | (simp only; omega)))) rfl ?_
              refine EL.val (x_assign rfl) rfl ?_
              refine EL.nil ?_
              refine EX.roundD (x + 1, ((x : Nat) : Int)) ⟨rfl, rfl, trivial⟩ (by repeat first | with_reducible exact Sub.refl _ | refine sub_past rfl ?_ | exact Sub.refl _ | refine sub_del rfl ?_ | refine sub_insL_nil ?_) ⟨hlt, .inr ⟨x, rfl, hlt, hxx, htt⟩, hos, hoe, hot, hob, hox, ho, q1z, hbw⟩ (by simp only; omega)
          ·
            refine EC.seq ?_
            refine EC.seq ?_
            refine EC.region ?_
            refine EL.val (x_move rfl) rfl ?_
            refine EL.val (x_move rfl) rfl ?_
            refine EL.val (ln_29 rfl) rfl ?_
            refine EL.val (x_lss rfl rfl (decide_eq_true (show (((x : Nat) : Int) < ((nt.ports.length : Nat) : Int)) by omega))) rfl ?_
            refine EL.val (x_move rfl) rfl ?_
            refine EL.valg rfl rfl (x_move rfl) rfl ?_
            refine EL.valg rfl rfl (x_lss (r := true) rfl rfl (decide_eq_true (by first | omega | (simp only; omega)))) rfl ?_
            refine EL.val (x_pick_t rfl rfl) rfl ?_
            refine EL.nil ?_
            refine EX.seq ?_
            refine EC.yes rfl ?_
            refine EC.skip ?_
            refine EX.seq ?_
            refine EC.seq ?_
            refine EC.block ?_
            refine EC.seq ?_
            refine EC.region ?_
            refine EL.val (x_move rfl) rfl ?_
            refine EL.val (x_move rfl) rfl ?_
            refine EL.val (ix_29 rfl rfl hlt) rfl ?_
            refine EL.val (ld_3 rfl rc) rfl ?_
            refine EL.val (x_lss (r := false) rfl rfl (decide_eq_false (by omega))) rfl ?_
            refine EL.val (x_move rfl) rfl ?_
            refine EL.skip rfl rfl rfl rfl ?_
            refine EL.skip rfl rfl rfl rfl ?_
            refine EL.skip rfl rfl rfl rfl ?_
            refine EL.skip rfl rfl rfl rfl ?_
            refine EL.val (x_pick_f rfl rfl) rfl ?_
            refine EL.nil ?_
            refine EX.seq ?_
            refine EC.no rfl ?_
            refine EC.skip ?_
            refine EX.blk ?_
            refine EX.seq ?_
            refine EC.region ?_
            refine EL.val (x_move rfl) rfl ?_
            refine EL.val (x_add rfl rfl (c := ((x + 1 : Nat) : Int)) ((IntWalk.i64_in _ ⟨by first | omega | (simp only; omega), by first | omega | (simp only; omega)⟩).trans (by first | omega | (simp only; omega)))) rfl ?_
            refine EL.val (x_assign rfl) rfl ?_
            refine EL.nil ?_
            refine EX.roundD (x + 1, -1) ⟨rfl, rfl, trivial⟩ (by repeat first | with_reducible exact Sub.refl _ | refine sub_past rfl ?_ | exact Sub.refl _ | refine sub_del rfl ?_ | refine sub_insL_nil ?_) ⟨hlt, .inl ⟨rfl, fun q hq hxq => (by by_cases e : q = x; (subst e; exact absurd hxq hxx); exact hno q (by omega) hxq)⟩, hos, hoe, hot, hob, hox, ho, q1z, hbw⟩ (by simp only; omega)
        ·
          refine EC.seq ?_
          refine EC.seq ?_
          refine EC.region ?_
          refine EL.val (x_move rfl) rfl ?_
          refine EL.val (x_move rfl) rfl ?_
          refine EL.val (ln_29 rfl) rfl ?_
          refine EL.val (x_lss rfl rfl (decide_eq_true (show (((x : Nat) : Int) < ((nt.ports.length : Nat) : Int)) by omega))) rfl ?_
          refine EL.val (x_move rfl) rfl ?_
          refine EL.valg rfl rfl (x_move rfl) rfl ?_
          refine EL.valg rfl rfl (x_lss (r := false) rfl rfl (decide_eq_false (by first | omega | (simp only; omega)))) rfl ?_
          refine EL.val (x_pick_t rfl rfl) rfl ?_
          refine EL.nil ?_
          refine EX.seq ?_
          refine EC.no rfl ?_
          refine EC.exit ?_
          refine EX.seq_exit ?_
          refine EX.seq_exit ?_
          refine EX.blk_here ?_
          refine EX.cutE ((p : Nat) : Int) ⟨rfl, trivial⟩ (by repeat first | with_reducible exact (Sub.refl _).del _ | refine sub_past rfl ?_ | exact (Sub.refl _).del _ | refine sub_del rfl ?_ | refine sub_insL_nil ?_) ⟨.inr ⟨p, rfl, hp0, hpx, hpt⟩, hos, hoe, hot, hob, hox, ho, q1z, hbw⟩
      ·
        have hxe : x = nt.ports.length := by omega
        subst hxe
        refine EC.seq ?_
        refine EC.seq ?_
        refine EC.region ?_
        refine EL.val (x_move rfl) rfl ?_
        refine EL.val (x_move rfl) rfl ?_
        refine EL.val (ln_29 rfl) rfl ?_
        refine EL.val (x_lss rfl rfl (decide_eq_false (show ¬(((nt.ports.length : Nat) : Int) < ((nt.ports.length : Nat) : Int)) by omega))) rfl ?_
        refine EL.val (x_move rfl) rfl ?_
        refine EL.skip rfl rfl rfl rfl ?_
        refine EL.skip rfl rfl rfl rfl ?_
        refine EL.val (x_pick_f rfl rfl) rfl ?_
        refine EL.nil ?_
        refine EX.seq ?_
        refine EC.no rfl ?_
        refine EC.exit ?_
        refine EX.seq_exit ?_
        refine EX.seq_exit ?_
        refine EX.blk_here ?_
        refine EX.cutE (a) ⟨rfl, trivial⟩ (by repeat first | with_reducible exact (Sub.refl _).del _ | refine sub_past rfl ?_ | exact (Sub.refl _).del _ | refine sub_del rfl ?_ | refine sub_insL_nil ?_) ⟨hat, hos, hoe, hot, hob, hox, ho, q1z, hbw⟩
    ·
      clear hos hoe hot hob hox ho q1y hbw
      rintro a wc ⟨hat, hos, hoe, hot, hob, hox, ho, q1c, hbw⟩
      rcases hat with ⟨rfl, hno⟩ | ⟨p, rfl, hp0, hpx, hpt⟩
      ·
        refine EC.seq ?_
        refine EC.seq ?_
        refine EC.region ?_
        refine EL.val (x_move rfl) rfl ?_
        refine EL.val (x_lss (r := true) rfl rfl (decide_eq_true (by omega))) rfl ?_
        refine EL.nil ?_
        refine EX.seq ?_
        refine EC.yes rfl ?_
        refine EC.seq ?_
        refine EC.region ?_
        refine EL.val (x_move rfl) rfl ?_
        refine EL.val (x_move rfl) rfl ?_
        refine EL.val (x_assign rfl) rfl ?_
        refine EL.val (x_assign rfl) rfl ?_
        refine EL.nil ?_
        refine EX.seq ?_
        refine EC.ret ?_
        refine EX.seq_ret ?_
        refine EX.blk_ret ?_
        refine EX.seq_ret ?_
        refine EX.blk_ret ?_
        exact EX.done (res2 rfl rfl rfl) ⟨⟨_, _, mv, rfl, ⟨hml, hok, fun ⟨q, hq, hx⟩ => fill_none hv hml hok (eS ▸ hrc) (eS ▸ hcl) (fun q hq hx => hno q hq hx) hq hx⟩, ho, hox⟩, hbw⟩
      ·
        obtain ⟨cs, sr, hbk, hsr⟩ := hrc.pth p hp0 hpt
        have hfs := fill_step hv hml hok (eS ▸ hrc) hp0 hpx hsr (eS ▸ hbk)
        rw [← eS] at hfs
        refine EC.seq ?_
        refine EC.seq ?_
        refine EC.region ?_
        refine EL.val (x_move rfl) rfl ?_
        refine EL.val (x_lss (r := false) rfl rfl (decide_eq_false (by omega))) rfl ?_
        refine EL.nil ?_
        refine EX.seq ?_
        refine EC.no rfl ?_
        refine EC.skip ?_
        refine EX.seq ?_
        refine EC.block ?_
        refine EC.loopD [12, 14, 75, 76, 77, 78, 79, 80, 81, 82, 83, 84, 85, 86, 87, 88, 89, 90, 91, 92, 93, 94] (fun x : Nat × List Nat × List Nat => [(12, .int .i64 (x.1 : Nat))]) (fun x W => x.2.1 ++ x.2.2 = cs ∧ BkE S th b x.2.2 x.1 sr ∧ x.1 < nt.ports.length ∧ W.ownsRow w.heap.size 89 2 (.slice As S.length cs_) S.length (stepsC S) ∧ W.ownsRow w.heap.size 128 3 (.slice Ae S.length ce_) S.length (endsC S) ∧ W.ownsRow w.heap.size 4 1 (.slice (some ⟨gt, 0, none⟩) nt.ports.length ct) nt.ports.length (bools th) ∧ W.ownsRow w.heap.size 3 1 (.slice (some ⟨gb, 0, none⟩) nt.ports.length cb) nt.ports.length (ints b) ∧ W.ownsRow w.heap.size 3 1 (.slice (some ⟨gx, 0, none⟩) nt.ports.length cx) nt.ports.length (ints (extL nt mv)) ∧ W.ownsRow w.heap.size 3 1 (.slice (some ⟨gm, 0, none⟩) nt.ways.length nt.ways.length) nt.ways.length (ints (takeAll S mv x.2.1)) ∧ Blk W g1 25 #[.slice Ap nt.ports.length cp_, .slice Aw nt.ways.length cw_] ∧ Below w.heap.size w W) (fun x => x.2.2.length) (p, [], cs) ⟨rfl, hbk, hp0, hos, hoe, hot, hob, hox, ho, q1c, hbw⟩ ⟨rfl, trivial⟩ ?_
        clear hos hoe hot hob hox ho q1c hbw
        rintro ⟨x, dn, rs⟩ wz ⟨hcs, hbx, hx, hos, hoe, hot, hob, hox, ho, q1z, hbw⟩
        dsimp only at hcs hbx hx ho
        have hbl := hrc.lb
        have rb := own_int_cell hob (k := x) (by omega)
        rcases rs with _ | ⟨a, rs⟩
        ·
          have hb1 := hbx.2.1
          rw [hb1] at rb
          rw [List.append_nil] at hcs
          subst hcs
          refine EC.seq ?_
          refine EC.seq ?_
          refine EC.region ?_
          refine EL.val (x_move rfl) rfl ?_
          refine EL.val (x_move rfl) rfl ?_
          refine EL.val (ix_29 rfl rfl hx) rfl ?_
          refine EL.val (ld_3 rfl rb) rfl ?_
          refine EL.val (x_geq (r := false) rfl rfl (by decide)) rfl ?_
          refine EL.nil ?_
          refine EX.seq ?_
          refine EC.no rfl ?_
          refine EC.exit ?_
          refine EX.seq_exit ?_
          refine EX.seq_exit ?_
          refine EX.blk_here ?_
          refine EX.blk ?_
          refine EX.roundD (takeAll S mv dn) trivial (by repeat first | with_reducible exact Sub.refl _ | refine sub_past rfl ?_ | exact Sub.refl _ | refine sub_del rfl ?_ | refine sub_insL_nil ?_) ⟨hfs.1, hfs.2.1, ho, q1z, hbw⟩ (by have h1 := hfs.2.2; have h2 := defS_nn (nt := nt) (mv := takeAll S mv dn); omega)
        ·
          obtain ⟨ha0, ha1, ha2, ha3, hb3⟩ := hbx
          rw [ha2] at rb
          obtain ⟨bs, os, e_, _, sc0, sc1⟩ := steps_cells S a ha0 _ _ _ _ _ (Rd.of_own hos)
          subst e_
          obtain ⟨be, oe, e_, _, ec0, _, _⟩ := ends_cells S a ha0 _ _ _ _ _ (Rd.of_own hoe)
          subst e_
          have hAd := (esL_adm (nt := nt) (mv := mv) nt.ways.length (Nat.le_refl _))
          rw [← eS] at hAd
          have hw1 := hAd.2 a ha0
          have hlt_ := hED a ha0
          have hnd := hbk.nodup
          rw [← hcs] at hnd
          have hall := hbk.path.lt
          have hmb := mid_bd hv hAd.1 hml hok (List.nodup_append.1 hnd).1 (fun c hc => hall c (by rw [← hcs]; exact List.mem_append.2 (.inl hc))) (esAt S a).way.toNat (by omega)
          have htl := takeAll_len (S := S) dn mv
          refine EC.seq ?_
          refine EC.seq ?_
          refine EC.region ?_
          refine EL.val (x_move rfl) rfl ?_
          refine EL.val (x_move rfl) rfl ?_
          refine EL.val (ix_29 rfl rfl hx) rfl ?_
          refine EL.val (ld_3 rfl rb) rfl ?_
          refine EL.val (x_geq (r := true) rfl rfl (decide_eq_true (by omega))) rfl ?_
          refine EL.nil ?_
          refine EX.seq ?_
          refine EC.yes rfl ?_
          refine EC.skip ?_
          refine EX.seq ?_
          refine EC.block ?_
          refine EC.seq ?_
          refine EC.region ?_
          refine EL.val (x_move rfl) rfl ?_
          refine EL.val (x_move rfl) rfl ?_
          refine EL.val (ix_29 rfl rfl hx) rfl ?_
          refine EL.val (ld_3 rfl rb) rfl ?_
          refine EL.val (x_assign rfl) rfl ?_
          refine EL.nil ?_
          refine EX.seq ?_
          refine EC.seq ?_
          refine EC.region ?_
          refine EL.val (x_move rfl) rfl ?_
          refine EL.val (x_move rfl) rfl ?_
          refine EL.val (x_move rfl) rfl ?_
          refine EL.val (ix_85 rfl rfl ha0) rfl ?_
          refine EL.val (ld_89 rfl sc0 sc1) rfl ?_
          refine EL.call (cl_47 rfl rfl) rfl (take_any (s := esAt S a) _ ho (by omega) hw1.1 hw1.2 hmb) ?_
          rintro e w9 ⟨rfl, ho2, hgr⟩
          refine ⟨_, rfl, ?_⟩
          replace hos := own_grown hos ho rfl hgr
          replace hoe := own_grown hoe ho rfl hgr
          replace hot := own_grown hot ho rfl hgr
          replace hob := own_ne hob hgr hbm
          replace hox := own_ne hox hgr hxm
          replace q1z := blk_grown q1z ho rfl hgr
          replace hbw := hbw.trans (below_row ho hgr hbw.size)
          clear ho hgr
          have ho := ho2
          clear ho2
          obtain ⟨be2, oe2, e2_, _, ec0, _, _⟩ := ends_cells S a ha0 _ _ _ _ _ (Rd.of_own hoe)
          injection e2_ with e2_
          injection e2_ with e3_ e4_
          subst e3_
          subst e4_
          refine EL.nil ?_
          refine EX.seq ?_
          refine EC.region ?_
          refine EL.val (x_move rfl) rfl ?_
          refine EL.val (x_move rfl) rfl ?_
          refine EL.val (ix_123 rfl rfl ha0) rfl ?_
          refine EL.val (ixa_128 (k := 0) rfl rfl (by omega)) rfl ?_
          refine EL.val (ld_3 rfl ec0) rfl ?_
          refine EL.val (x_assign rfl) rfl ?_
          refine EL.nil ?_
          refine EX.blk ?_
          refine EX.roundD ((esAt S a).fr, dn ++ [a], rs) ⟨rfl, trivial⟩ (by repeat first | with_reducible exact Sub.refl _ | refine sub_past rfl ?_ | exact Sub.refl _ | refine sub_del rfl ?_ | refine sub_insL_nil ?_) ⟨by show (dn ++ [a]) ++ rs = cs; rw [List.append_assoc]; exact hcs, hb3, hlt_.1, hos, hoe, hot, hob, hox, by show World.ownsRow _ _ _ _ _ _ (ints (takeAll S mv (dn ++ [a]))); rw [takeAll_snoc]; exact ho, q1z, hbw⟩ (by simp only [List.length_cons]; omega)
end Go.Proofs.Ytabgmnmpdjnjoaa
set_option linter.unusedVariables false
set_option linter.unusedSimpArgs false
namespace Go.Proofs.Ytabgmnmpdjnjoaa
open Go Go.RowKit
section
variable {n : Nat} {σ : Sg} {w : World} {dst : Option Tmp} {ty : TypeId} {pos : String} {af : Array Edge} {g : Option (Nat × Bool)} {x y z : Operand} {at' : Array TypeId}
theorem bd_89_0 {x0 : Operand} {z0 : Int} (h0 : evS σ x0 = some (.int .i64 z0)) : Gives Try.prog n σ w ⟨dst, .build 89 #[(0, x0)], ty, pos, af, g⟩ (.agg #[.int .i64 z0, .bool false]) := fun a ha => by
  simp only [execOp, List.map_toArray, List.map_cons, List.map_nil, ha.eval h0]
  go_simp
theorem al_89 (a : Act) (_ : Env n σ a) : (execOp a.eval ⟨dst, .alloc 89, ty, pos, af, g⟩).run Try.prog w = .ok (.value (.pointer (some ⟨w.heap.size, 0, none⟩))) (w.alloc (.cells #[.int .i64 0, .bool false] 89)) := by
  simp only [execOp]
  simp [go_sem]
theorem sz_89 : (Try.prog.info? 89).map (·.size) = some 2 := by kernel_rfl
end
end Go.Proofs.Ytabgmnmpdjnjoaa
