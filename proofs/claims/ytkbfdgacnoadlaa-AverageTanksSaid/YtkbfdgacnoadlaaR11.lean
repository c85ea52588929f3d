/- The reference's Missing: the pair of soundings between which most went out unburned. -/
import Derived.Test.YtkbfdgacnoadlaaR10
import Derived.Test.YtkbfdgacnoadlaaDuesMath
import Derived.OwnWalk
namespace Go.Proofs.Ytkbfdgacnoadlaa
open Go.RowKit

/-- what a rate burns between two minutes, in whole liters, rounded up -/
def burnt (r p q : Int) : Int := (r * (q - p) + 59).tdiv 60
theorem burnt_bd {r p q : Int} (hr : 0 ≤ r ∧ r ≤ 10000000) (h : 0 ≤ q - p ∧ q - p ≤ 1000000) : 0 ≤ burnt r p q ∧ burnt r p q ≤ 10000000000000 := by
  have m := prod_bd hr h
  unfold burnt
  rw [Int.tdiv_eq_ediv_of_nonneg (by omega)]
  omega
theorem field_low (a b : Int) (w : World) : Sem.run Try.prog (Instr.field 72 (.agg #[.int .i64 a, .int .i64 b]) 0) w = .ok (.int .i64 a) w := by kernel_rfl
def missN (l : List Sd) (b : List Bk) (r : Int) (i j : Nat) : Int := (goneL l b i j).1 - burnt r (l.getD i sd0).m (l.getD j sd0).m
def missStep (l : List Sd) (b : List Bk) (r : Int) (i j : Nat) (s : Int × Int × Int) : Int × Int × Int := if s.2.2 < missN l b r i j then (i, j, missN l b r i j) else s
/-- the soundings behind the i-th, n of them -/
def missRow (l : List Sd) (b : List Bk) (r : Int) (i : Nat) (s : Int × Int × Int) : Nat → Int × Int × Int
  | 0 => s
  | n + 1 => missStep l b r i (i + 1 + n) (missRow l b r i s n)
def missTo (l : List Sd) (b : List Bk) (r : Int) : Nat → Int × Int × Int
  | 0 => (0, 0, 0)
  | i + 1 => missRow l b r i (missTo l b r i) (l.length - (i + 1))
theorem gone_bd {l : List Sd} {b : List Bk} (h0 : tankErr l b = 0) {i j : Nat} (hi : i < l.length) (hj : j < l.length) : -2000000000 ≤ (goneL l b i j).1 ∧ (goneL l b i j).1 ≤ 2000000000 := by
  obtain ⟨hl1, hb1, -, hbo, hso⟩ := tank_ok h0
  have qi := sd_bd (hso i hi)
  have qj := sd_bd (hso j hj)
  have ei : l.getD i sd0 = l[i] := by simp [hi]
  have ej : l.getD j sd0 = l[j] := by simp [hj]
  have hbt := between_bd hbo hb1 l[i].m l[j].m
  have e : (goneL l b i j).1 = l[i].lo + between b l[i].m l[j].m - l[j].hi := by rw [goneL, ei, ej]; rfl
  rw [e]
  omega

set_option maxHeartbeats 8000000 in
set_option maxRecDepth 100000 in
theorem rmissing_any (l : List Sd) (b : List Bk) (r : Int) (vs vb : Value) (w : World) (B C : Nat) (hr : Rd w B 3 vs l.length (sdsV l)) (hB : B ≤ w.heap.size) (hs : Rd w C 2 vb b.length (bksV b)) (hC : C ≤ w.heap.size)
    (h0 : tankErr l b = 0) (hr0 : 0 ≤ r ∧ r ≤ 10000000) : Calls Try.prog 32 #[vs, vb, .int .i64 r] w fun e w' =>
      e = .returned (.tuple #[.int .i64 (missTo l b r l.length).1, .int .i64 (missTo l b r l.length).2.1, .int .i64 (missTo l b r l.length).2.2]) ∧ Below w.heap.size w w' := by
  have hso := (tank_ok h0).2.2.2.2
  have hl1 := (tank_ok h0).1
  obtain ⟨A, ca, rfl, hna⟩ := hr.shape
  obtain ⟨A', cb, rfl, hnb⟩ := hs.shape
  have H0 := Lib.hid h0
  have Hso := Lib.hid hso
  obtain ⟨hr1, hr2⟩ := hr0
  clear h0 hso
  go_enter Try.func32, Try.ntmps32
  go_wp2_with fail
  go_loopw [9, 10, 11, 12] (fun x y z i wr => ∃ (k : Nat) (s : Int × Int × Int), k ≤ l.length ∧ i = .int .i64 k ∧ x = .int .i64 s.1 ∧ y = .int .i64 s.2.1 ∧ z = .int .i64 s.2.2 ∧ Hid (s = missTo l b r k) ∧ Below w.heap.size w wr) (fun _ _ _ i _ => l.length - (intOf i).toNat)
  case atStart => exact ⟨0, (0, 0, 0), Nat.zero_le _, rfl, rfl, rfl, rfl, Lib.hid rfl, Below.refl _ _⟩
  case round =>
    obtain ⟨k, s, hk, rfl, rfl, rfl, rfl, Hs, hbw⟩ := hrel
    have k0 : (0 : Int) ≤ (k : Int) := Int.natCast_nonneg _
    by_cases hlt : k < l.length
    · have k1 : (k : Int) < (l.length : Int) := by omega
      obtain ⟨wo, ewo⟩ : ∃ wo : World, wo = wr := ⟨_, rfl⟩
      rw [← ewo] at hbw ⊢
      clear ewo
      go_wp2_with fail
      go_loopw [9, 10, 11, 13] (fun x y z i wq => ∃ (j : Nat) (s : Int × Int × Int), k + 1 ≤ j ∧ j ≤ l.length ∧ i = .int .i64 (j : Int) ∧ x = .int .i64 s.1 ∧ y = .int .i64 s.2.1 ∧ z = .int .i64 s.2.2 ∧ Hid (s = missRow l b r k (missTo l b r k) (j - (k + 1))) ∧ Below w.heap.size w wq) (fun _ _ _ i _ => l.length - (intOf i).toNat)
      case atStart => exact ⟨k + 1, s, by omega, by omega, by go_num, rfl, rfl, rfl, Lib.hid (by rw [Nat.sub_self]; exact Hs.out), hbw⟩
      case round =>
        clear hbw Hs
        obtain ⟨j, s, hkj, hjle, rfl, rfl, rfl, rfl, Hs, hbw⟩ := hrel
        have hsz := hbw.size
        have j0 : (0 : Int) ≤ (j : Int) := Int.natCast_nonneg _
        by_cases hjl : j < l.length
        · have j1 : (j : Int) < (l.length : Int) := by omega
          have hrw := hr.below (hbw.mono hB)
          have hsw := hs.below (hbw.mono hC)
          obtain ⟨g, off, rfl, hgB, hc⟩ := sds_all hrw (by omega)
          have c0 := (hc k hlt).1
          have d0 := (hc j hjl).1
          have hmm := m_mono Hso.out k j (by omega) hjl
          have ek : l.getD k sd0 = l[k] := by simp [hlt]
          have ejj : l.getD j sd0 = l[j] := by simp [hjl]
          have bk := sd_bd (Hso.out k hlt)
          have bj := sd_bd (Hso.out j hjl)
          have pk : -1 ≤ prevM l k := by
            rcases Nat.eq_zero_or_pos k with h | h
            · rw [h]; exact Int.le_refl _
            · obtain ⟨q, rfl⟩ : ∃ q, k = q + 1 := ⟨k - 1, by omega⟩
              rw [prevM_succ l (by omega)]
              have h1 := m_mono Hso.out 0 q (by omega) (by omega)
              have h2 := (sd_bd (Hso.out 0 (by omega))).1
              have e1 : l.getD 0 sd0 = l[0] := by simp [(by omega : 0 < l.length)]
              have e2 : l.getD q sd0 = l[q] := by simp [(by omega : q < l.length)]
              rw [e1, e2] at h1
              have : prevM l 0 = -1 := rfl
              omega
          have gb := gone_bd H0.out hlt hjl
          have hstep : missRow l b r k (missTo l b r k) (j + 1 - (k + 1)) = missStep l b r k j s := by
            rw [show j + 1 - (k + 1) = (j - (k + 1)) + 1 by omega, missRow, ← Hs.out, show k + 1 + (j - (k + 1)) = j by omega]
          rw [missStep, missN] at hstep
          have hgone := rgone_any l b k j (.slice (some ⟨g, off, none⟩) l.length ca) (.slice A' b.length cb)
          rw [← ek] at bk
          rw [← ejj] at bj
          obtain ⟨mk, emk⟩ : ∃ m, m = (l.getD k sd0).m := ⟨_, rfl⟩
          obtain ⟨mj, emj⟩ : ∃ m, m = (l.getD j sd0).m := ⟨_, rfl⟩
          rw [← emk] at c0 hmm bk hstep
          rw [← emj] at d0 hmm bj hstep
          have hd : 0 ≤ mj - mk ∧ mj - mk ≤ 1000000 := by omega
          have hp := prod_bd ⟨hr1, hr2⟩ hd
          have hbu := burnt_bd ⟨hr1, hr2⟩ hd
          have s1 : IntKind.i64.wrap (mj - mk) = mj - mk := IntWalk.i64_in _ ⟨by omega, by omega⟩
          have s2 : IntKind.i64.wrap (r * (mj - mk)) = r * (mj - mk) := IntWalk.i64_in _ ⟨by omega, by omega⟩
          have s3 : IntKind.i64.wrap (r * (mj - mk) + 59) = r * (mj - mk) + 59 := IntWalk.i64_in _ ⟨by omega, by omega⟩
          have s4 : IntKind.i64.wrap ((r * (mj - mk) + 59).tdiv 60) = (r * (mj - mk) + 59).tdiv 60 := IntWalk.i64_in _ ⟨by unfold burnt at hbu; omega, by unfold burnt at hbu; omega⟩
          have ebu : burnt r mk mj = (r * (mj - mk) + 59).tdiv 60 := rfl
          rw [ebu] at hbu hstep
          obtain ⟨D, eD⟩ : ∃ D, D = (r * (mj - mk) + 59).tdiv 60 := ⟨_, rfl⟩
          obtain ⟨G, eG⟩ : ∃ G, G = (goneL l b k j).1 := ⟨_, rfl⟩
          rw [← eD] at hbu hstep
          rw [← eG] at gb hstep
          have Hstep := Lib.hid hstep
          have HeD := Lib.hid eD
          have HeG := Lib.hid eG
          have Hgone := Lib.hid hgone
          have Hrw := Lib.hid hrw
          have Hsw := Lib.hid hsw
          have s5 : IntKind.i64.wrap (G - D) = G - D := IntWalk.i64_in _ ⟨by omega, by omega⟩
          obtain ⟨x, y, z⟩ := s
          simp only at hstep
          clear hc hstep eD eG hgone ek ejj bk bj pk emk emj hp ebu hrw hsw
          go_wp2_with fail
          go_quiet (fail)
          rw [← HeD.out]
          go_wp2_with fail
          refine (Hgone.out _ B C (Hrw.out.drewN _) (by show B ≤ wr.heap.size; omega) (Hsw.out.drewN _) (by show C ≤ wr.heap.size; omega) H0.out (by omega) hjl).mono ?_
          rintro e w2 ⟨rfl, hb2⟩
          rw [← HeG.out]
          have hfl := field_low G (goneL l b k j).2 w2
          have hb3 : Below w.heap.size w w2 := (below_drewN hbw _).trans (hb2.mono hsz)
          clear hb2 c0 d0 s1 s2 s3 s4
          by_cases h : z < G - D
          · have h' : decide (z < G - D) = true := decide_eq_true h
            have Hf := Lib.hid (Hstep.out.trans (if_pos h))
            go_wp2_with fail
            go_roundw
            case rel => exact ⟨j + 1, (k, j, G - D), by omega, by omega, by go_num, rfl, rfl, rfl, Lib.hid Hf.out.symm, hb3⟩
            case measure => simp [intOf]; omega
          · have h' : decide (z < G - D) = false := decide_eq_false h
            have Hf := Lib.hid (Hstep.out.trans (if_neg h))
            go_wp2_with fail
            go_roundw
            case rel => exact ⟨j + 1, (x, y, z), by omega, by omega, by go_num, rfl, rfl, rfl, Lib.hid Hf.out.symm, hb3⟩
            case measure => simp [intOf]; omega
        · obtain rfl : j = l.length := by omega
          clear hjl j0 hkj
          go_wp2_with fail
          go_roundw
          case rel => exact ⟨k + 1, s, by omega, by go_num, rfl, rfl, rfl, Lib.hid Hs.out, hbw⟩
          case measure => simp [intOf]; omega
    · obtain rfl : k = l.length := by omega
      go_wp2_with fail
      go_ret3
      exact ⟨by rw [← Hs.out]; rfl, hbw⟩
end Go.Proofs.Ytkbfdgacnoadlaa
