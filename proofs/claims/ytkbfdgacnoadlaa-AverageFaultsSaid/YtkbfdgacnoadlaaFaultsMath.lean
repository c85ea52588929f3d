/- Law AverageFaults, plainly: what a blame says of each party. No program in sight. -/
import Derived.Test.YtkbfdgacnoadlaaShMath
namespace Go.Proofs.Ytkbfdgacnoadlaa
open Go.RowKit

theorem at0_set (l : List Int) (j : Nat) (x : Int) (i : Nat) (hi : i < l.length) : at0 (l.set j x) i = if j = i then x else at0 l i := by
  have h : i < (l.set j x).length := by simpa using hi
  rw [← at0_get h, ← at0_get hi, List.getElem_set]
theorem sum_set : ∀ (l : List Int) (j : Nat) (x : Int), j < l.length → (l.set j x).sum = l.sum - at0 l j + x
  | [], _, _, h => by simp at h
  | y :: l, 0, x, _ => by simp [at0]; omega
  | y :: l, j + 1, x, h => by
    have := sum_set l j x (by simpa using h)
    have e : at0 (y :: l) (j + 1) = at0 l j := by simp [at0]
    rw [List.set_cons_succ, List.sum_cons, List.sum_cons, this, e]
    omega
theorem gets_miss {l : List Int} {who : List Nat} {gs : List Int} {i : Nat} (hi : i < l.length) : ∀ K, (∀ q, q < K → who.getD q 0 ≠ i) → at0 (getsTo l who gs K) i = at0 l i
  | 0, _ => rfl
  | K + 1, h => by rw [getsTo_succ, at0_set _ _ _ _ (by rw [getsTo_length]; exact hi), if_neg (h K (by omega)), gets_miss hi K fun q hq => h q (by omega)]
theorem gets_hit {l : List Int} {who : List Nat} {gs : List Int} {i q : Nat} (hn : who.Nodup) (hi : i < l.length) (he : who.getD q 0 = i) : ∀ K, K ≤ who.length → q < K → at0 (getsTo l who gs K) i = -(at0 gs q)
  | 0, _, h => by omega
  | K + 1, hK, h => by
    rw [getsTo_succ, at0_set _ _ _ _ (by rw [getsTo_length]; exact hi)]
    by_cases hq : q = K
    · subst hq
      rw [if_pos he]
    · have hne : who.getD K 0 ≠ i := by
        intro e
        rw [← he] at e
        have h1 : who.getD K 0 = who[K]'(by omega) := by simp [(by omega : K < who.length)]
        have h2 : who.getD q 0 = who[q]'(by omega) := by simp [(by omega : q < who.length)]
        rw [h1, h2] at e
        exact (List.pairwise_iff_getElem.1 hn) q K (by omega) (by omega) (by omega) e.symm
      rw [if_neg hne, gets_hit hn hi he K (by omega) (by omega)]
theorem gets_sum {l : List Int} {who : List Nat} {gs : List Int} (hn : who.Nodup) (hl : ∀ q, q < who.length → who.getD q 0 < l.length) : ∀ K, K ≤ who.length → (getsTo l who gs K).sum = l.sum - sumTo (fun q => at0 gs q + at0 l (who.getD q 0)) K
  | 0, _ => by simp [getsTo, sumTo]
  | K + 1, hK => by
    have hlt := hl K (by omega)
    have hm : at0 (getsTo l who gs K) (who.getD K 0) = at0 l (who.getD K 0) := gets_miss hlt K fun q hq e => by
      have h1 : who.getD K 0 = who[K]'(by omega) := by simp [(by omega : K < who.length)]
      have h2 : who.getD q 0 = who[q]'(by omega) := by simp [(by omega : q < who.length)]
      rw [h1, h2] at e
      exact (List.pairwise_iff_getElem.1 hn) q K (by omega) (by omega) hq e
    rw [getsTo_succ, sum_set _ _ _ (by rw [getsTo_length]; exact hlt), hm, gets_sum hn hl K (by omega)]
    simp only [sumTo]
    omega
theorem who_nodup (bs a : List Int) (k : Nat) : (whoTo bs a k).Nodup := List.nodup_range.filter _
theorem who_mem {bs a : List Int} {k i : Nat} (hi : i < k) (h : 0 < claim bs a i) : ∃ q, q < (whoTo bs a k).length ∧ (whoTo bs a k).getD q 0 = i := by
  have hm : i ∈ whoTo bs a k := List.mem_filter.2 ⟨List.mem_range.2 hi, by simpa using h⟩
  obtain ⟨q, hq, e⟩ := List.getElem_of_mem hm
  exact ⟨q, hq, by simp [hq, e]⟩
theorem who_claim {bs a : List Int} {k q : Nat} (h : q < (whoTo bs a k).length) : 0 < claim bs a ((whoTo bs a k).getD q 0) := by
  have hm : (whoTo bs a k).getD q 0 ∈ whoTo bs a k := by simp [h]
  simpa using (List.mem_filter.1 hm).2
theorem claims_at {bs a : List Int} {k q : Nat} (h : q < (whoTo bs a k).length) : at0 (claimsTo bs a k) q = claim bs a ((whoTo bs a k).getD q 0) := by simp [at0, claimsTo, h]
theorem claims_sum (bs a : List Int) : ∀ k, (claimsTo bs a k).sum = sumTo (fun i => max 0 (claim bs a i)) k
  | 0 => rfl
  | k + 1 => by
    simp only [sumTo]
    by_cases h : 0 < claim bs a k
    · rw [claimsTo_yes h, List.sum_append, claims_sum bs a k]
      simp
      omega
    · rw [claimsTo_no h, claims_sum bs a k]
      omega
theorem pays_sum (bs a c : List Int) : ∀ k, (paysTo bs a c k).sum = sumTo (pay bs a c) k
  | 0 => rfl
  | k + 1 => by
    rw [paysTo_succ, List.sum_append, pays_sum bs a c k]
    simp [sumTo]
theorem sum_rel (f g h : Nat → Int) : ∀ k, (∀ i, i < k → f i ≤ g i + h i) → sumTo f k ≤ sumTo g k + sumTo h k
  | 0, _ => by simp [sumTo]
  | k + 1, hh => by
    have h1 := sum_rel f g h k fun i hi => hh i (by omega)
    have h2 := hh k (by omega)
    simp only [sumTo]
    omega
theorem sum_eq (f g h : Nat → Int) : ∀ k, (∀ i, i < k → f i = g i + h i) → sumTo f k = sumTo g k + sumTo h k
  | 0, _ => by simp [sumTo]
  | k + 1, hh => by
    have h1 := sum_eq f g h k fun i hi => hh i (by omega)
    have h2 := hh k (by omega)
    simp only [sumTo]
    omega

/-- what the law asks of each party: l with limits, m without -/
structure FaultOk (a b c bs l m : List Int) (i : Nat) : Prop where
  lim : at0 l i ≤ at0 c i
  loss : -(at0 l i) ≤ at0 a i
  bear : at0 m i + at0 a i = at0 bs i
  free : at0 b i = 0 → at0 l i ≤ 0
  up : 0 < at0 l i → at0 l i ≤ at0 m i
  down : at0 l i < 0 → at0 m i ≤ at0 l i
theorem blame_facts {a b c : List Int} (hb : b.length = a.length) (hc0 : ∀ i, 0 ≤ at0 c i) (hs : 1 ≤ b.sum) :
    (blameL a b c).length = a.length ∧ (blameL a b c).sum = 0 ∧ ∀ i, i < a.length →
      (0 < claim (splitL a.sum b) a i → -(claim (splitL a.sum b) a i) ≤ at0 (blameL a b c) i ∧ at0 (blameL a b c) i ≤ 0) ∧ (¬ 0 < claim (splitL a.sum b) a i → at0 (blameL a b c) i = pay (splitL a.sum b) a c i) ∧
      ((paysTo (splitL a.sum b) a c a.length).sum = (claimsTo (splitL a.sum b) a a.length).sum → 0 < claim (splitL a.sum b) a i → at0 (blameL a b c) i = -(claim (splitL a.sum b) a i)) := by
  obtain ⟨bs, ebs⟩ : ∃ x, x = splitL a.sum b := ⟨_, rfl⟩
  have hbl : bs.length = a.length := by rw [ebs, splitL_length, hb]
  have hbsum : bs.sum = a.sum := by rw [ebs, splitL_sum hs]
  have e : blameL a b c = getsTo (paysTo bs a c a.length) (whoTo bs a a.length) (splitL (paysTo bs a c a.length).sum (claimsTo bs a a.length)) (whoTo bs a a.length).length := by rw [ebs]; rfl
  rw [← ebs, e]
  have hn := who_nodup bs a a.length
  have hwl : ∀ q, q < (whoTo bs a a.length).length → (whoTo bs a a.length).getD q 0 < (paysTo bs a c a.length).length := fun q hq => by rw [paysTo_length]; exact whoTo_lt hq
  have hpay : ∀ i, i < a.length → at0 (paysTo bs a c a.length) i = pay bs a c i := fun i hi => by simp [at0, paysTo, hi]
  have hp0 : ∀ i, 0 ≤ pay bs a c i := fun i => by have := hc0 i; unfold pay; omega
  have hcl : (claimsTo bs a a.length).length = (whoTo bs a a.length).length := claimsTo_length _ _ _
  have hcp : ∀ x ∈ claimsTo bs a a.length, 0 < x := fun x hx => by obtain ⟨i, _, rfl, h⟩ := claimsTo_mem hx; exact h
  have hP0 : 0 ≤ (paysTo bs a c a.length).sum := sum_nonneg fun x hx => by
    obtain ⟨i, _, rfl⟩ := List.mem_map.1 hx
    exact hp0 i
  -- all that is paid is at most all that is claimed
  have hz : sumTo (at0 bs) a.length = sumTo (at0 a) a.length := by
    have h1 := at0_sum bs
    have h2 := at0_sum a
    rw [hbl] at h1
    rw [h1, h2, hbsum]
  have hPC : (paysTo bs a c a.length).sum ≤ (claimsTo bs a a.length).sum := by
    rw [pays_sum, claims_sum]
    have h1 := sum_rel (fun i => pay bs a c i + at0 a i) (fun i => max 0 (claim bs a i)) (at0 bs) a.length fun i _ => by simp only [pay, claim]; omega
    have h2 := sum_eq (fun i => pay bs a c i + at0 a i) (pay bs a c) (at0 a) a.length fun i _ => rfl
    omega
  have hwho : ∀ q, q < (whoTo bs a a.length).length → at0 (paysTo bs a c a.length) ((whoTo bs a a.length).getD q 0) = 0 := fun q hq => by
    have hcm := who_claim hq
    have h0 := hc0 ((whoTo bs a a.length).getD q 0)
    rw [hpay _ (whoTo_lt hq)]
    unfold pay
    unfold claim at hcm
    omega
  refine ⟨by rw [getsTo_length, paysTo_length], ?_, fun i hi => ⟨fun hcm => ?_, fun hcm => ?_, fun heq hcm => ?_⟩⟩
  · rw [gets_sum hn hwl _ (Nat.le_refl _)]
    have h1 : sumTo (fun q => at0 (splitL (paysTo bs a c a.length).sum (claimsTo bs a a.length)) q + at0 (paysTo bs a c a.length) ((whoTo bs a a.length).getD q 0)) (whoTo bs a a.length).length = (splitL (paysTo bs a c a.length).sum (claimsTo bs a a.length)).sum := by
      have h2 := sum_eq (fun q => at0 (splitL (paysTo bs a c a.length).sum (claimsTo bs a a.length)) q + at0 (paysTo bs a c a.length) ((whoTo bs a a.length).getD q 0)) (at0 (splitL (paysTo bs a c a.length).sum (claimsTo bs a a.length))) (fun _ => 0) (whoTo bs a a.length).length fun q hq => by rw [hwho q hq]
      have h3 : ∀ k, sumTo (fun _ => (0 : Int)) k = 0 := fun k => by induction k with
        | zero => rfl
        | succ k ih => simp [sumTo, ih]
      have h4 := at0_sum (splitL (paysTo bs a c a.length).sum (claimsTo bs a a.length))
      rw [splitL_length, hcl] at h4
      rw [h2, h3, h4, Int.add_zero]
    rw [h1]
    by_cases hw : (whoTo bs a a.length).length = 0
    · have e0 : claimsTo bs a a.length = [] := List.eq_nil_of_length_eq_zero (hcl.trans hw)
      have e1 : (claimsTo bs a a.length).sum = 0 := by rw [e0]; rfl
      have e2 : splitL (paysTo bs a c a.length).sum (claimsTo bs a a.length) = [] := List.eq_nil_of_length_eq_zero (by rw [splitL_length, e0]; rfl)
      rw [e2]
      simp
      omega
    · have hcs := sum_pos hcp (by rw [hcl]; exact hw)
      rw [splitL_sum hcs]
      omega
  · obtain ⟨q, hq, hqi⟩ := who_mem hi hcm
    have hcs := sum_pos hcp (by rw [hcl]; omega)
    have hqc : q < (claimsTo bs a a.length).length := by rw [hcl]; exact hq
    rw [gets_hit hn (by rw [paysTo_length]; exact hi) hqi _ (Nat.le_refl _) hq]
    have h1 := split_le (fun x hx => Int.le_of_lt (hcp x hx)) hcs hPC hqc
    have h2 := (splitL_bd hP0 (fun x hx => Int.le_of_lt (hcp x hx)) hcs hqc).1
    rw [claims_at hq, hqi] at h1
    omega
  · rw [gets_miss (by rw [paysTo_length]; exact hi) _ fun q hq hqi => hcm (by have := who_claim hq; rwa [hqi] at this)]
    exact hpay i hi
  · obtain ⟨q, hq, hqi⟩ := who_mem hi hcm
    have hcs := sum_pos hcp (by rw [hcl]; omega)
    have hqc : q < (claimsTo bs a a.length).length := by rw [hcl]; exact hq
    rw [gets_hit hn (by rw [paysTo_length]; exact hi) hqi _ (Nat.le_refl _) hq, heq]
    have hk := sh_ok (n := (claimsTo bs a a.length).sum) (by omega) (fun x hx => Int.le_of_lt (hcp x hx)) hcs hqc
    have h3 := claims_at hq
    rw [hqi, ← at0_get hqc] at h3
    have n1 := hk.n1
    have n2 := hk.n2
    rw [h3] at n1 n2
    obtain ⟨S, eS⟩ : ∃ S, S = (claimsTo bs a a.length).sum := ⟨_, rfl⟩
    obtain ⟨s, es⟩ : ∃ s, s = at0 (splitL (claimsTo bs a a.length).sum (claimsTo bs a a.length)) q := ⟨_, rfl⟩
    rw [← es] at n1 n2 ⊢
    rw [← eS] at n1 n2 hcs
    rw [Int.mul_comm s, ← Int.mul_sub] at n1
    rw [Int.mul_comm s, ← Int.mul_sub] at n2
    have h4 : s - claim bs a i < 1 := by
      refine Int.lt_of_mul_lt_mul_left (a := S) ?_ (by omega)
      omega
    have h5 : claim bs a i - s < 1 := by
      refine Int.lt_of_mul_lt_mul_left (a := S) ?_ (by omega)
      omega
    omega
/-- what the law asks of every party -/
theorem faults_ok {a b c nn : List Int} (hb : b.length = a.length) (ha0 : ∀ i, 0 ≤ at0 a i) (hb0 : ∀ x ∈ b, 0 ≤ x) (hc0 : ∀ i, 0 ≤ at0 c i) (hs : 1 ≤ b.sum) (hasum : 0 ≤ a.sum)
    (hnn : ∀ i, i < a.length → a.sum ≤ at0 nn i) (hn0 : ∀ i, 0 ≤ at0 nn i) : ∀ i, i < a.length → FaultOk a b c (splitL a.sum b) (blameL a b c) (blameL a b nn) i := by
  obtain ⟨_, _, hl⟩ := blame_facts hb hc0 hs
  obtain ⟨_, _, hm⟩ := blame_facts hb hn0 hs
  have hbl : (splitL a.sum b).length = a.length := by rw [splitL_length, hb]
  have hbd : ∀ i, i < a.length → 0 ≤ at0 (splitL a.sum b) i ∧ at0 (splitL a.sum b) i ≤ a.sum := fun i hi => splitL_bd hasum hb0 hs (by rw [hb]; exact hi)
  have hpays : (paysTo (splitL a.sum b) a nn a.length).sum = (claimsTo (splitL a.sum b) a a.length).sum := by
    have hz : sumTo (at0 (splitL a.sum b)) a.length = sumTo (at0 a) a.length := by
      have h1 := at0_sum (splitL a.sum b)
      have h2 := at0_sum a
      rw [hbl] at h1
      rw [h1, h2, splitL_sum hs]
    rw [pays_sum, claims_sum]
    have h1 := sum_eq (fun i => pay (splitL a.sum b) a nn i + at0 a i) (fun i => max 0 (claim (splitL a.sum b) a i)) (at0 (splitL a.sum b)) a.length fun i hi => by
      have h3 := hnn i hi
      have h4 := hbd i hi
      have h5 := ha0 i
      simp only [pay, claim]
      omega
    have h2 := sum_eq (fun i => pay (splitL a.sum b) a nn i + at0 a i) (pay (splitL a.sum b) a nn) (at0 a) a.length fun i _ => rfl
    omega
  intro i hi
  obtain ⟨l1, l2, _⟩ := hl i hi
  obtain ⟨_, m2, m3⟩ := hm i hi
  have hm' := m3 hpays
  have h3 := hnn i hi
  have h4 := hbd i hi
  have h5 := ha0 i
  have h6 := hc0 i
  have hz : at0 b i = 0 → at0 (splitL a.sum b) i = 0 := fun h => by
    have hib : i < b.length := by rw [hb]; exact hi
    exact (sh_ok hasum hb0 hs hib).z (by rw [at0_get hib]; exact h)
  by_cases hcm : 0 < claim (splitL a.sum b) a i
  · have q1 := l1 hcm
    have q2 := hm' hcm
    unfold claim at hcm q1 q2
    exact ⟨by omega, by omega, by omega, fun _ => by omega, fun h => by omega, fun _ => by omega⟩
  · have q1 := l2 hcm
    have q2 := m2 hcm
    unfold claim at hcm
    unfold pay at q1 q2
    exact ⟨by omega, by omega, by omega, fun h => by have := hz h; omega, fun h => by omega, fun h => by omega⟩
end Go.Proofs.Ytkbfdgacnoadlaa
