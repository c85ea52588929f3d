/- The laws' order: an order of so many things, made of bytes: it is a permutation of the first numbers. -/
import Derived.Test.YtkbfdgacnoadlaaR3
import Derived.Test.YtkbfdgacnoadlaaPush2
namespace Go.Proofs.Ytkbfdgacnoadlaa
open Go.RowKit

/-- the rows of what is left and of what is taken -/
structure ORel (w wr : World) (u v : Value) (L O : List Nat) : Prop where
  hl : wr.ownsRow w.heap.size 3 1 u L.length (ints (nats L))
  ho : wr.ownsRow w.heap.size 3 1 v O.length (ints (nats O))
  ap : Apart u v
  below : Below w.heap.size w wr
theorem nats_at' {l : List Nat} {i : Nat} (h : i < (nats l).length) (h' : i < l.length) : (nats l)[i] = ((l[i] : Nat) : Int) := by simp [nats]
theorem take_one (L : List Nat) {q : Nat} (h : q < L.length) : L.take q ++ L[q] :: L.drop (q + 1) = L := by
  rw [← List.drop_eq_getElem_cons h, List.take_append_drop]
theorem take_perm {L O R : List Nat} {q : Nat} (h : q < L.length) (hp : (O ++ L).Perm R) : ((O ++ [L[q]]) ++ (L.take q ++ L.drop (q + 1))).Perm R := by
  refine List.Perm.trans ?_ hp
  rw [List.append_assoc]
  refine List.Perm.append_left O ?_
  conv => rhs; rw [← take_one L h]
  exact (List.perm_middle (a := L[q]) (l₁ := L.take q) (l₂ := L.drop (q + 1))).symm
theorem apart_new {w : World} {base e size n a b : Nat} {u : Value} {xs : List Value} (hu : w.ownsRow base e size u n xs) : Apart (.slice (some ⟨w.heap.size, 0, none⟩) a b) u := fun g h1 h2 => by
  have := (hu.lt g h2).2
  simp [Value.ownBlock] at h1
  omega
theorem rd_cut {w : World} {base e n g cap : Nat} {l : List Int} (h : w.ownsRow base e 1 (.slice (some ⟨g, 0, none⟩) n cap) n (ints l)) (q : Nat) (hq : q ≤ n) : Rd w w.heap.size 1 (.slice (some ⟨g, 0, none⟩) q cap) q (ints (l.take q)) := by
  have hr := Rd.of_own h
  have hl : n = l.length := by have := hr.len; simp [ints] at this; omega
  obtain ⟨_, A, c, e1, hc, hcell⟩ := hr
  injection e1 with e1 e2 e3
  subst e1 e3
  refine ⟨by simp [ints]; omega, _, _, rfl, by omega, fun hq0 => ?_⟩
  obtain ⟨b, off, e2, hb, hcell⟩ := hcell (by omega)
  refine ⟨b, off, e2, hb, fun j u hu => hcell j u ?_⟩
  rw [← hu]
  have hj : j < q := by
    have := (List.getElem?_eq_some_iff.1 hu).1
    simp [ints] at this
    omega
  simp [ints, hj]
theorem rd_rest {w : World} {base e n g cap : Nat} {l : List Int} {A : Option Addr} {c : Nat} (h : w.ownsRow base e 1 (.slice (some ⟨g, 0, none⟩) n cap) n (ints l)) (q : Nat) (hq : q ≤ n) (hA : q < n → A = some ⟨g, q, none⟩) (hc : n - q ≤ c) : Rd w w.heap.size 1 (.slice A (n - q) c) (n - q) (ints (l.drop q)) := by
  have hr := Rd.of_own h
  have hl : n = l.length := by have := hr.len; simp [ints] at this; omega
  obtain ⟨_, A', c', e1, hc', hcell⟩ := hr
  injection e1 with e1 e2 e3
  subst e1 e3
  refine ⟨by rw [ints_len, List.length_drop, hl, Nat.mul_one], _, _, rfl, hc, fun hq0 => ?_⟩
  obtain ⟨b, off, e2, hb, hcell⟩ := hcell (by omega)
  injection e2 with e2
  injection e2 with e2 e3
  subst e2 e3
  refine ⟨g, q, hA (by omega), hb, fun j u hu => ?_⟩
  have := hcell (q + j) u (by rw [← hu]; simp [ints, List.getElem?_drop])
  simpa using this

set_option maxHeartbeats 4000000 in
set_option maxRecDepth 100000 in
theorem order_any (m : Nat) (l : List Int) (v : Value) (w : World) (B : Nat) (hr : Rd w B 1 v l.length (u8s l)) (hB : B ≤ w.heap.size) (hl : l.length ≤ 9223372036854775807) (hm : m ≤ 1000) (hby : ∀ x ∈ l, 0 ≤ x ∧ x ≤ 255) :
    Calls Try.prog 23 #[.int .i64 m, v] w fun e w' => ∃ (v' : Value) (T : List Nat), e = .returned v' ∧ T.Perm (List.range m) ∧ w'.ownsRow w.heap.size 3 1 v' m (ints (nats T)) ∧ Below w.heap.size w w' := by
  obtain ⟨A, c, rfl, hnc⟩ := hr.shape
  have hp0 : ∀ i, 0 ≤ at0 l i ∧ at0 l i ≤ 255 := fun i => by
    by_cases h : i < l.length
    · rw [← at0_get h]
      exact hby _ (List.getElem_mem h)
    · simp [at0, h]
  have HP := Lib.hid hp0
  clear hp0 hby
  have ho1 : ((w.alloc (.cells #[] 3)).alloc (.cells #[] 3)).ownsRow w.heap.size 3 1 (.slice (some ⟨w.heap.size, 0, none⟩) 0 0) 0 (ints []) := (own_new w w.heap.size 3 1 0 #[] (Nat.le_refl _) rfl (Nat.zero_le _)).alloc _
  have ho2 : ((w.alloc (.cells #[] 3)).alloc (.cells #[] 3)).ownsRow w.heap.size 3 1 (.slice (some ⟨w.heap.size + 1, 0, none⟩) 0 0) 0 (ints []) := by
    have := own_new (w.alloc (.cells #[] 3)) w.heap.size 3 1 0 #[] (by simp) rfl (Nat.zero_le _)
    simpa [ints] using this
  have hap : Apart (.slice (some ⟨w.heap.size, 0, none⟩) 0 0) (.slice (some ⟨w.heap.size + 1, 0, none⟩) 0 0) := fun g h1 h2 => by simp [Value.ownBlock] at h1 h2; omega
  go_enter Try.func23, Try.ntmps23
  go_wp2_with fail
  go_loopw [5, 7] (fun u i wr => ∃ k : Nat, k ≤ m ∧ i = .int .i64 k ∧ ORel w wr u (.slice (some ⟨w.heap.size + 1, 0, none⟩) 0 0) (List.range k) []) (fun _ i _ => m - (intOf i).toNat)
  case atStart => exact ⟨0, Nat.zero_le _, rfl, ho1, ho2, hap, ((Below.refl _ _).alloc (Nat.le_refl _) _).alloc (by simp) _⟩
  case round =>
    clear ho1 ho2 hap
    obtain ⟨k, hk, rfl, R⟩ := hrel
    have hsz := R.below.size
    by_cases hlt : k < m
    · have hrl := R.hl
      rw [List.length_range] at hrl
      go_wp2_with (at_builtin; refine wpList_push int_elem rfl (.tmp 17) (.tmp 19) rfl rfl hrl _ rfl rfl (by simp [Value.oneCell']) (by simp only [maxLen]; omega) (by omega) (by omega) ?_; intro v6 w6 hown6 hg6 hat6)
      go_roundw
      case rel =>
        refine ⟨k + 1, by omega, by go_num, ?_, own_apart R.ho hg6 R.ap, R.ap.push R.ho hat6, Below.push R.below R.hl hg6 (Nat.le_refl _) hsz⟩
        rw [List.length_range, List.range_succ, nats_snoc, ← ints_snoc]
        exact hown6
      case measure => simp [intOf]; omega
    · obtain rfl : k = m := by omega
      clear hlt hk
      obtain ⟨wo, rfl⟩ : ∃ wo : World, wo = wr := ⟨_, rfl⟩
      go_wp2_with fail
      go_loopw [5, 6, 8, 9] (fun u v i _ wr => ∃ (j : Nat) (L O : List Nat), j ≤ k ∧ i = .int .i64 j ∧ Hid (O.length = j) ∧ Hid (L.length = k - j) ∧ (O ++ L).Perm (List.range k) ∧ ORel w wr u v L O) (fun _ _ i _ _ => k - (intOf i).toNat)
      case atStart => exact ⟨0, List.range k, [], Nat.zero_le _, rfl, Lib.hid rfl, Lib.hid (by simp), by simp, R⟩
      case round =>
        clear R hsz
        obtain ⟨j, L, O, hj, rfl, hO, hL, hperm, R⟩ := hrel
        have HPm := Lib.hid hperm
        clear hperm
        have hsz := R.below.size
        by_cases hlt : j < k
        · have hll : (L.length : Int) = (k : Int) - j := by have := hL.out; omega
          have hpart := part_any l j _ _ wr B (hr.below (R.below.mono hB)) hl (by omega)
          obtain ⟨p0, p1⟩ := HP.out (j % l.length)
          obtain ⟨p, ep⟩ : ∃ p, p = at0 l (j % l.length) := ⟨_, rfl⟩
          rw [← ep] at hpart p0 p1
          have Hpart := Lib.hid hpart
          clear hpart ep
          obtain ⟨n, hn⟩ : ∃ n : Nat, n = L.length := ⟨_, rfl⟩
          have hn0 : 0 < n := by omega
          have hn1 : n ≤ 1000 := by omega
          obtain ⟨q, hq⟩ : ∃ q : Nat, p % (n : Int) = q := ⟨(p % (n : Int)).toNat, by have := Int.emod_nonneg p (show (n : Int) ≠ 0 by omega); omega⟩
          have hqn : q < n := by have := Int.emod_lt_of_pos p (show (0 : Int) < (n : Int) by omega); omega
          have hrl := R.hl
          have hro := R.ho
          have hap := R.ap
          have hbl := R.below
          rw [← hn] at hrl
          have HN := Lib.hid hn
          rw [hO.out] at hro
          clear hll hn R
          obtain ⟨g, cap, rfl, g1, g2⟩ := hrl.form hn0
          have hqL : q < L.length := by rw [← HN.out]; exact hqn
          have kc : wr.cell? ⟨g, q, none⟩ = some (.int .i64 (L[q] : Nat)) := by
            rw [hrl.cellAt q (by omega), ints_get _ q (by rw [nats_length]; exact hqL), nats_at' _ hqL]
          obtain ⟨z, ez⟩ : ∃ z : Nat, z = L[q] := ⟨_, rfl⟩
          rw [← ez] at kc
          have EZ := Lib.hid ez
          clear ez
          go_wp2_with fail
          refine Hpart.out.mono ?_
          rintro e w' ⟨rfl, rfl⟩
          go_wp2_with (at_builtin; refine wpList_push int_elem rfl (.tmp 33) (.tmp 38) rfl rfl hro _ rfl rfl (by simp [Value.oneCell']) (by simp only [maxLen]; omega) (by omega) (by omega) ?_; intro v6 w6 hown6 hg6 hat6)
          have hrl6 := own_apart hrl hg6 hap.symm
          have hap6 : Apart v6 (.slice (some ⟨g, 0, none⟩) n cap) := hap.symm.push hrl hat6
          have hb6 := Below.push hbl hro hg6 (Nat.le_refl _) hsz
          have hs6 := hb6.size
          have hcap : n ≤ cap := by
            obtain ⟨_, cap', e1, hcap⟩ := (Rd.of_own hrl6).shape
            injection e1 with _ _ e1
            omega
          clear hrl hro hap hbl hg6 hat6 kc
          have i0 : (0 : Int) ≤ (q : Int) := Int.natCast_nonneg _
          have i1 : (q : Int) ≤ (n : Int) := by omega
          have i2 : (q : Int) ≤ (cap : Int) := by omega
          have i3 : IntKind.i64.wrap ((q : Int) + 1) = (q : Int) + 1 := IntWalk.i64_in _ ⟨by omega, by omega⟩
          have i4 : (0 : Int) ≤ (q : Int) + 1 := by omega
          have i5 : (q : Int) + 1 ≤ (n : Int) := by omega
          have i6 : (q : Int) + 1 ≤ (cap : Int) := by omega
          have i7 : (n : Int) ≤ (cap : Int) := by omega
          go_wp2_with fail
          go_region_held3 (fun _ => True) (trivial)
            (first
              | ((refine step_push int_elem (by rfl) (.tmp 40) (.tmp 43) (by rfl) (by rfl) (own_new w6 w.heap.size 3 1 0 #[] hs6 rfl (Nat.zero_le _)).drew w6.heap.size _ q (ints ((nats L).take q)) (by rfl) (((rd_cut hrl6 q (by omega)).alloc (Nat.le_refl _) _).drew) (ints_one _) (by simp only [maxLen]; omega) (by omega) (by simp; omega) ?_; intro v7 w7 hown7 hg7 hat7; have hrl7 := own_apart ((hrl6.alloc (.cells #[] 3)).drew) hg7 (apart_new hrl6); have ho7 := own_apart ((hown6.alloc (.cells #[] 3)).drew) hg7 (apart_new hown6); have ha7 := apart_push2 (apart_new hown6) ((hown6.alloc (.cells #[] 3)).drew) hat7; have hb7 := Below.push2 ((hb6.alloc hs6 (.cells #[] 3)).drew) ((own_new w6 w.heap.size 3 1 0 #[] hs6 rfl (Nat.zero_le _)).drew) hg7 (Nat.le_refl _) (by simp; omega)))
              | ((refine step_push int_elem (by rfl) (.tmp 44) (.tmp 48) (by rfl) (by rfl) hown7 w7.heap.size _ (n - (q + 1)) (ints ((nats L).drop (q + 1))) (by rfl) (rd_rest hrl7 (q + 1) (by omega) (fun h => if_neg (by omega)) (by omega)) (ints_one _) (by simp only [maxLen]; omega) (by omega) hb7.size ?_; intro v8 w8 hown8 hg8 hat8)))
          have e1 : 0 + q + (n - (q + 1)) = (L.take q ++ L.drop (q + 1)).length := by
            have := HN.out
            simp
            omega
          have e2 : [] ++ ints ((nats L).take q) ++ ints ((nats L).drop (q + 1)) = ints (nats (L.take q ++ L.drop (q + 1))) := by simp [ints, nats]
          have hnew : w8.ownsRow w.heap.size 3 1 v8 (L.take q ++ L.drop (q + 1)).length (ints (nats (L.take q ++ L.drop (q + 1)))) := by
            rw [← e1, ← e2]
            exact hown8
          have hout : w8.ownsRow w.heap.size 3 1 v6 (O ++ [L[q]]).length (ints (nats (O ++ [L[q]]))) := by
            have h := own_apart ho7 hg8 ha7
            rw [EZ.out] at h
            rw [nats_snoc, ← ints_snoc, List.length_append, hO.out]
            exact h
          have hpn := take_perm hqL HPm.out
          have hb8 := Below.push2 hb7 hown7 hg8 (Nat.le_refl _) hb7.size
          have hapn := apart_push2 ha7 ho7 hat8
          have hOn : (O ++ [L[q]]).length = j + 1 := by rw [List.length_append, hO.out]; rfl
          have hLn : (L.take q ++ L.drop (q + 1)).length = k - (j + 1) := by
            rw [← e1]
            have h1 := HN.out
            have h2 := hL.out
            omega
          have HOn := Lib.hid hOn
          have HLn := Lib.hid hLn
          clear e1 e2 hOn hLn hown8 hown7 hown6 hrl7 hrl6
          go_wp2_with fail
          go_roundw
          case rel => exact ⟨j + 1, _, _, by omega, by go_num, HOn, HLn, hpn, ⟨hnew, hout, hapn, hb8⟩⟩
          case measure => simp [intOf]; omega
        · have hj' : j = k := by omega
          have hL0 : L = [] := List.eq_nil_of_length_eq_zero (by rw [hL.out]; omega)
          have hp := HPm.out
          have ho := R.ho
          rw [hL0, List.append_nil] at hp
          rw [hO.out, hj'] at ho
          have hb := R.below
          clear hj' hL0
          go_wp2_with fail
          go_ret
          exact ⟨_, O, rfl, hp, ho, hb⟩
end Go.Proofs.Ytkbfdgacnoadlaa
