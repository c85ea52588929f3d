/- Law AverageFaults, its walk. -/
import Derived.Test.YtkbfdgacnoadlaaFour
import Derived.Test.YtkbfdgacnoadlaaFLoop
import Derived.Test.YtkbfdgacnoadlaaFaultsMath
import Derived.Test.YtkbfdgacnoadlaaL4
import Derived.Test.YtkbfdgacnoadlaaA17
import Derived.Deep.DeepCutAuto
namespace Go.Proofs.Ytkbfdgacnoadlaa
open Go Go.RowKit

theorem fr7_d0 : dstN fr7 0 = some 55 := by kernel_rfl
theorem fr7_d1 : dstN fr7 1 = some 56 := by kernel_rfl
theorem fr7_d2 : dstN fr7 2 = some 57 := by kernel_rfl
theorem fr7_d3 : dstN fr7 3 = some 58 := by kernel_rfl
theorem fr7_d4 : dstN fr7 4 = some 59 := by kernel_rfl
theorem fr7_d5 : dstN fr7 5 = some 60 := by kernel_rfl
theorem fr7_d6 : dstN fr7 6 = some 61 := by kernel_rfl
theorem fr7_d7 : dstN fr7 7 = some 62 := by kernel_rfl
theorem fr7_d8 : dstN fr7 8 = some 63 := by kernel_rfl
theorem fr7_d9 : dstN fr7 9 = some 64 := by kernel_rfl
theorem fr7_d10 : dstN fr7 10 = some 65 := by kernel_rfl
theorem fr7_d11 : dstN fr7 11 = some 66 := by kernel_rfl
theorem fr7_d12 : dstN fr7 12 = some 67 := by kernel_rfl
theorem fr7_d13 : dstN fr7 13 = some 68 := by kernel_rfl
theorem fr7_d14 : dstN fr7 14 = some 69 := by kernel_rfl
theorem fr7_d15 : dstN fr7 15 = some 70 := by kernel_rfl
theorem fr7_d16 : dstN fr7 16 = some 71 := by kernel_rfl
theorem fr7_d17 : dstN fr7 17 = some 72 := by kernel_rfl
theorem fr7_d18 : dstN fr7 18 = some 73 := by kernel_rfl
theorem fr7_d19 : dstN fr7 19 = some 74 := by kernel_rfl
theorem fr7_d20 : dstN fr7 20 = some 75 := by kernel_rfl
theorem fr7_d21 : dstN fr7 21 = some 76 := by kernel_rfl
theorem fr7_d22 : dstN fr7 22 = some 77 := by kernel_rfl
theorem fr7_d23 : dstN fr7 23 = some 78 := by kernel_rfl
theorem fr7_d24 : dstN fr7 24 = some 79 := by kernel_rfl
theorem fr7_d25 : dstN fr7 25 = some 80 := by kernel_rfl
theorem fr7_d26 : dstN fr7 26 = some 81 := by kernel_rfl
theorem fr7_d27 : dstN fr7 27 = some 82 := by kernel_rfl
theorem fr7_d28 : dstN fr7 28 = some 7 := by kernel_rfl
theorem fr7_d29 : dstN fr7 29 = some 8 := by kernel_rfl
theorem fr7_d30 : dstN fr7 30 = some 9 := by kernel_rfl
theorem fr7_d31 : dstN fr7 31 = some 10 := by kernel_rfl
def u32s (l : List Int) : List Value := l.map (Value.int .u32)
def u16s' (l : List Int) : List Value := l.map (Value.int .u16)
def partsL (l : List Int) : List Int := l.map fun x => x.tmod 10001
/-- the four rows -/
def vec4 (a b c d : Value) (j : Nat) : Value := [a, b, c, d].getD j undef
def lst4 (a b c d : List Int) (j : Nat) : List Int := [a, b, c, d].getD j []
theorem sums_bd {l : List Int} {m : Int} (h : ∀ x ∈ l, 0 ≤ x ∧ x ≤ m) (hl : l.length ≤ 12) (hm : 0 ≤ m := by omega) : 0 ≤ l.sum ∧ l.sum ≤ 12 * m := by
  have h1 := sum_le fun x hx => (h x hx).2
  have h2 : (l.length : Int) * m ≤ 12 * m := Int.mul_le_mul_of_nonneg_right (by omega) hm
  exact ⟨sum_nonneg fun x hx => (h x hx).1, by omega⟩
theorem parts_bd {lf : List Int} (h : ∀ x ∈ lf, 0 ≤ x ∧ x ≤ 65535) : ∀ x ∈ partsL lf, 0 ≤ x ∧ x ≤ 10000 := by
  intro x hx
  obtain ⟨y, hy, rfl⟩ := List.mem_map.1 hx
  rw [Int.tmod_eq_emod_of_nonneg (h y hy).1]
  have := h y hy
  omega
theorem faults_err {a b c : List Int} (h1 : 1 ≤ a.length) (h2 : a.length ≤ 12) (hb : b.length = a.length) (hc : c.length = a.length) (ha : ∀ x ∈ a, 0 ≤ x ∧ x ≤ 100000000000) (hb0 : ∀ x ∈ b, 0 ≤ x ∧ x ≤ 10000) (hc0 : ∀ x ∈ c, 0 ≤ x ∧ x ≤ 100000000000000) : blameErr a b c = if b.sum = 0 then 2 else 0 := by
  have e : ∀ (l : List Int) (m : Int), (∀ x ∈ l, 0 ≤ x ∧ x ≤ m) → ¬ l.all (inB 0 m) = false := fun l m h => by
    rw [List.all_eq_true.2 fun x hx => inB_iff.2 (h x hx)]
    simp
  have hs := sums_bd hb0 (by omega)
  have hw : wrap64 b.sum = b.sum := IntWalk.wrap64_in _ ⟨by omega, by omega⟩
  unfold blameErr
  rw [if_neg (by simp [inB]; omega), if_neg (by omega), if_neg (by omega), if_neg (e _ _ ha), if_neg (e _ _ hb0), if_neg (e _ _ hc0), hw]
  by_cases h : b.sum = 0 <;> simp [h]
theorem at0_pos {l : List Int} (h : ∀ x ∈ l, 0 ≤ x) {i : Nat} : 0 ≤ at0 l i := by
  by_cases hi : i < l.length
  · rw [← at0_get hi]
    exact h _ (List.getElem_mem hi)
  · simp [at0, hi]
theorem faults_split {n : Int} {l : List Int} (hpos : ∀ x ∈ l, 0 ≤ x ∧ x ≤ 10000) (hl : l.length ≤ 12) (hz : ¬ l.sum = 0) (h0 : 0 ≤ n) (h1 : n ≤ 100000000000000) : splitsErr n l = 0 := by
  have hall : l.all (inB 0 100000000000000) = true := List.all_eq_true.2 fun x hx => inB_iff.2 (by have := hpos x hx; omega)
  have hs := sums_bd hpos hl
  have hw : wrap64 l.sum = l.sum := IntWalk.wrap64_in _ ⟨by omega, by omega⟩
  unfold splitsErr
  rw [if_neg (by omega), if_neg (by simp [inB]; omega), if_neg (by simp [hall]), hw, if_neg (by simpa using hz)]
theorem sums_two {l : List Int} {m : Int} (h : ∀ x ∈ l, -m ≤ x ∧ x ≤ m) (hl : l.length ≤ 12) (hm : 0 ≤ m := by omega) : -(12 * m) ≤ l.sum ∧ l.sum ≤ 12 * m := by
  have h1 := sum_le fun x hx => (h x hx).2
  have h2 : (l.length : Int) * m ≤ 12 * m := Int.mul_le_mul_of_nonneg_right (by omega) hm
  have h3 : ∀ (l : List Int), (∀ x ∈ l, -m ≤ x) → -((l.length : Int) * m) ≤ l.sum := by
    intro l
    induction l with
    | nil => simp
    | cons a l ih =>
      intro h
      have h1 := h a (by simp)
      have h2 := ih fun x hx => h x (by simp [hx])
      have e : ((a :: l).length : Int) * m = l.length * m + m := by rw [List.length_cons, Int.natCast_add, Int.add_mul]; simp
      rw [List.sum_cons, e]
      omega
  have h4 := h3 l fun x hx => (h x hx).1
  omega
/-- behind so many rounds -/
structure FRel (w wr : World) (la lf ll : List Int) (k : Nat) (v1 v2 v3 v4 : Value) : Prop where
  rows : ∀ j, j < 4 → wr.ownsRow w.heap.size 3 1 (vec4 v1 v2 v3 v4 j) k (ints (lst4 (la.take k) ((partsL lf).take k) (ll.take k) (List.replicate k 100000000000000) j))
  apart : ∀ i j, i < 4 → j < 4 → i ≠ j → Apart (vec4 v1 v2 v3 v4 i) (vec4 v1 v2 v3 v4 j)
  below : Below w.heap.size w wr

set_option maxHeartbeats 400000000 in
set_option maxRecDepth 100000 in
theorem faults_law (la lf ll : List Int) (va vf vl : Value) (w : World) (B : Nat) (hra : Rd w B 1 va la.length (u32s la)) (hrf : Rd w B 1 vf lf.length (u16s' lf)) (hrl : Rd w B 1 vl ll.length (u32s ll)) (hB : B ≤ w.heap.size)
    (ha : ∀ x ∈ la, 0 ≤ x ∧ x ≤ 4294967295) (hf : ∀ x ∈ lf, 0 ≤ x ∧ x ≤ 65535) (hl : ∀ x ∈ ll, 0 ≤ x ∧ x ≤ 4294967295) :
    Calls Try.prog 11 #[va, vf, vl] w fun e w' => e = .returned (.bool true) ∧ Below w.heap.size w w' := by
  obtain ⟨A, ca, rfl, hna⟩ := hra.shape
  obtain ⟨A', cf, rfl, hnf⟩ := hrf.shape
  obtain ⟨A'', cl, rfl, hnl⟩ := hrl.shape
  by_cases hbad : la.length < 1 ∨ 12 < la.length ∨ lf.length ≠ la.length ∨ ll.length ≠ la.length
  · have hp : (decide ((la.length : Int) < 1) = true) ∨ (decide ((la.length : Int) < 1) = false ∧ decide ((12 : Int) < (la.length : Int)) = true) ∨ (decide ((la.length : Int) < 1) = false ∧ decide ((12 : Int) < (la.length : Int)) = false ∧ ((lf.length : Int) != (la.length : Int)) = true) ∨
        (decide ((la.length : Int) < 1) = false ∧ decide ((12 : Int) < (la.length : Int)) = false ∧ ((lf.length : Int) != (la.length : Int)) = false ∧ ((ll.length : Int) != (la.length : Int)) = true) := by
      by_cases h1 : la.length < 1
      · exact .inl (decide_eq_true (by omega))
      · by_cases h2 : 12 < la.length
        · exact .inr (.inl ⟨decide_eq_false (by omega), decide_eq_true (by omega)⟩)
        · by_cases h3 : lf.length = la.length
          · exact .inr (.inr (.inr ⟨decide_eq_false (by omega), decide_eq_false (by omega), by simp; omega, by simp; omega⟩))
          · exact .inr (.inr (.inl ⟨decide_eq_false (by omega), decide_eq_false (by omega), by simp; omega⟩))
    clear hbad
    rcases hp with k1 | ⟨k1, k2⟩ | ⟨k1, k2, k3⟩ | ⟨k1, k2, k3, k4⟩
    all_goals
      go_enter Try.func11, Try.ntmps11
      go_wp2_with fail
      refine (known_any _).mono ?_
      rintro e w1 ⟨rfl, hb⟩
      go_wp2_with fail
      go_ret
      exact ⟨rfl, hb⟩
  · have hlf : lf.length = la.length := by omega
    have hll : ll.length = la.length := by omega
    have hn1 : 1 ≤ la.length := by omega
    have hn12 : la.length ≤ 12 := by omega
    have k1 : decide ((la.length : Int) < 1) = false := decide_eq_false (by omega)
    have k2 : decide ((12 : Int) < (la.length : Int)) = false := decide_eq_false (by omega)
    clear hbad
    rw [hlf] at hrf hnf ⊢
    rw [hll] at hrl hnl ⊢
    go_enter Try.func11, Try.ntmps11
    go_wp2_with fail
    have q0 := (((Blk.new w 3 #[]).alloc (.cells #[] 3)).alloc (.cells #[] 3)).alloc (.cells #[] 3)
    have q1 := ((blk_new2 w (.cells #[] 3) 3 #[]).alloc (.cells #[] 3)).alloc (.cells #[] 3)
    have q2 : Blk ((((w.alloc (.cells #[] 3)).alloc (.cells #[] 3)).alloc (.cells #[] 3)).alloc (.cells #[] 3)) (w.heap.size + 1 + 1) 3 #[] := (by simpa using Blk.new ((w.alloc (.cells #[] 3)).alloc (.cells #[] 3)) 3 #[] : Blk _ (w.heap.size + 1 + 1) _ _).alloc _
    have q3 : Blk ((((w.alloc (.cells #[] 3)).alloc (.cells #[] 3)).alloc (.cells #[] 3)).alloc (.cells #[] 3)) (w.heap.size + 1 + 1 + 1) 3 #[] := by simpa using Blk.new (((w.alloc (.cells #[] 3)).alloc (.cells #[] 3)).alloc (.cells #[] 3)) 3 #[]
    have hb0 : Below w.heap.size w ((((w.alloc (.cells #[] 3)).alloc (.cells #[] 3)).alloc (.cells #[] 3)).alloc (.cells #[] 3)) := ((((Below.refl _ w).alloc (Nat.le_refl _) _).alloc (by simp) _).alloc (by simp; omega) _).alloc (by simp; omega) _
    go_loopw [7, 8, 9, 10, 11, 12, 13] (fun v1 v2 v3 v4 t s i wr => ∃ k : Nat, k ≤ la.length ∧ i = .int .i64 k ∧ t = .int .i64 ((partsL lf).take k).sum ∧ s = .int .i64 (la.take k).sum ∧ FRel w wr la lf ll k v1 v2 v3 v4) (fun _ _ _ _ _ _ i _ => la.length - (intOf i).toNat)
    case atStart =>
      refine ⟨0, Nat.zero_le _, rfl, rfl, rfl, ⟨fun j hj => ?_, fun i j hi hj hne => ?_, hb0⟩⟩
      · match j, hj with
        | 0, _ => exact own_blk0 1 q0 (by omega)
        | 1, _ => exact own_blk0 1 q1 (by omega)
        | 2, _ => exact own_blk0 1 q2 (by omega)
        | 3, _ => exact own_blk0 1 q3 (by omega)
      · intro g h1 h2
        match i, j, hi, hj with
        | 0, 0, _, _ | 1, 1, _, _ | 2, 2, _, _ | 3, 3, _, _ => exact absurd rfl hne
        | 0, 1, _, _ | 0, 2, _, _ | 0, 3, _, _ | 1, 0, _, _ | 1, 2, _, _ | 1, 3, _, _ | 2, 0, _, _ | 2, 1, _, _ | 2, 3, _, _ | 3, 0, _, _ | 3, 1, _, _ | 3, 2, _, _ => simp [vec4, Value.ownBlock] at h1 h2; omega
    case round =>
      obtain ⟨k, hk, rfl, rfl, rfl, R⟩ := hrel
      have hsz := R.below.size
      clear q0 q1 q2 q3 hb0
      by_cases hlt : k < la.length
      · have c0 : (0 : Int) ≤ (k : Int) := Int.natCast_nonneg _
        have c1 : (k : Int) < (la.length : Int) := by omega
        obtain ⟨b0, o0, rfl, hb0, hc0⟩ := (hra.below (R.below.mono hB)).at_ (by omega)
        obtain ⟨b1, o1, rfl, hb1, hc1⟩ := (hrf.below (R.below.mono hB)).at_ (by omega)
        obtain ⟨b2, o2, rfl, hb2, hc2⟩ := (hrl.below (R.below.mono hB)).at_ (by omega)
        have d0 : wr.cell? ⟨b0, o0 + k, none⟩ = some (.int .u32 (la[k]'hlt)) := hc0 k _ (by simp [u32s, hlt])
        have d1 : wr.cell? ⟨b1, o1 + k, none⟩ = some (.int .u16 (lf[k]'(by omega))) := hc1 k _ (by simp [u16s', (by omega : k < lf.length)])
        have d2 : wr.cell? ⟨b2, o2 + k, none⟩ = some (.int .u32 (ll[k]'(by omega))) := hc2 k _ (by simp [u32s, (by omega : k < ll.length)])
        have x0b := ha _ (List.getElem_mem hlt)
        have y1b := hf _ (List.getElem_mem (show k < lf.length by omega))
        have x2b := hl _ (List.getElem_mem (show k < ll.length by omega))
        clear hc0 hc1 hc2
        go_upto_region 7 with (fail)
        refine four_rows (by kernel_rfl) _ wr w.heap.size k (vec4 u7 u8 u9 u10) (lst4 (la.take k) ((partsL lf).take k) (ll.take k) (List.replicate k 100000000000000)) b0 o0 la.length ca b1 o1 la.length cf b2 o2 la.length cl (la[k]'hlt) (lf[k]'(by omega)) (ll[k]'(by omega))
          (by simp) (by omega) rfl rfl rfl rfl rfl rfl rfl rfl hlt hlt hlt (by omega) (by omega) (by omega) d0 d1 d2 (IntWalk.i64_in _ ⟨by omega, by omega⟩) (IntWalk.i64_in _ ⟨by omega, by omega⟩) (IntWalk.i64_in _ ⟨by omega, by omega⟩) R.rows R.apart hsz ?_
        intro val w2 hcst hrows hap hasg hb2'
        simp only [show List.range 32 = [0, 1, 2, 3, 4, 5, 6, 7, 8, 9, 10, 11, 12, 13, 14, 15, 16, 17, 18, 19, 20, 21, 22, 23, 24, 25, 26, 27, 28, 29, 30, 31] from rfl, List.foldl_cons, List.foldl_nil, fr7_d0, fr7_d1, fr7_d2, fr7_d3, fr7_d4, fr7_d5, fr7_d6, fr7_d7, fr7_d8, fr7_d9, fr7_d10, fr7_d11, fr7_d12, fr7_d13, fr7_d14, fr7_d15, fr7_d16, fr7_d17, fr7_d18, fr7_d19, fr7_d20, fr7_d21, fr7_d22, fr7_d23, fr7_d24, fr7_d25, fr7_d26, fr7_d27, fr7_d28, fr7_d29, fr7_d30, fr7_d31, Act.put, List.setIfInBounds_toArray, List.set_cons_zero, List.set_cons_succ]
        have g28 := hrows 0 (by omega)
        have g29 := hrows 1 (by omega)
        have g30 := hrows 2 (by omega)
        have g31 := hrows 3 (by omega)
        have a01 := hap 0 1 (by omega) (by omega) (by omega)
        have a02 := hap 0 2 (by omega) (by omega) (by omega)
        have a03 := hap 0 3 (by omega) (by omega) (by omega)
        have a12 := hap 1 2 (by omega) (by omega) (by omega)
        have a13 := hap 1 3 (by omega) (by omega) (by omega)
        have a23 := hap 2 3 (by omega) (by omega) (by omega)
        simp only [Nat.add_zero, show 28 + 1 = 29 from rfl, show 28 + 2 = 30 from rfl, show 28 + 3 = 31 from rfl] at g28 g29 g30 g31 a01 a02 a03 a12 a13 a23
        have e1 : la.take k ++ [la[k]'hlt] = la.take (k + 1) := (List.take_succ_eq_append_getElem hlt).symm
        have e2 : (partsL lf).take k ++ [(lf[k]'(by omega)).tmod 10001] = (partsL lf).take (k + 1) := by
          rw [List.take_succ_eq_append_getElem (by simp [partsL]; omega)]
          simp [partsL]
        have e3 : ll.take k ++ [ll[k]'(by omega)] = ll.take (k + 1) := (List.take_succ_eq_append_getElem (by omega)).symm
        have e4 : List.replicate k (100000000000000 : Int) ++ [100000000000000] = List.replicate (k + 1) 100000000000000 := by rw [List.replicate_succ']
        change w2.ownsRow w.heap.size 3 1 (val 28) (k + 1) (ints (la.take k ++ [la[k]'hlt])) at g28
        change w2.ownsRow w.heap.size 3 1 (val 29) (k + 1) (ints ((partsL lf).take k ++ [(lf[k]'(by omega)).tmod 10001])) at g29
        change w2.ownsRow w.heap.size 3 1 (val 30) (k + 1) (ints (ll.take k ++ [ll[k]'(by omega)])) at g30
        change w2.ownsRow w.heap.size 3 1 (val 31) (k + 1) (ints (List.replicate k 100000000000000 ++ [100000000000000])) at g31
        rw [e1] at g28
        rw [e2] at g29
        rw [e3] at g30
        rw [e4] at g31
        have t1 := sums_bd (l := la.take (k + 1)) (m := 4294967295) (fun x hx => ha x (List.mem_of_mem_take hx)) (by rw [List.length_take]; omega)
        have t2 := sums_bd (l := (partsL lf).take (k + 1)) (m := 10000) (fun x hx => parts_bd hf x (List.mem_of_mem_take hx)) (by rw [List.length_take]; omega)
        have z1 : IntKind.i64.wrap (((partsL lf).take k).sum + (lf[k]'(by omega)).tmod 10001) = ((partsL lf).take (k + 1)).sum := by
          rw [← e2] at t2 ⊢
          rw [List.sum_append] at t2 ⊢
          simp only [List.sum_cons, List.sum_nil, Int.add_zero] at t2 ⊢
          exact IntWalk.i64_in _ ⟨by omega, by omega⟩
        have z2 : IntKind.i64.wrap ((la.take k).sum + la[k]'hlt) = (la.take (k + 1)).sum := by
          rw [← e1] at t1 ⊢
          rw [List.sum_append] at t1 ⊢
          simp only [List.sum_cons, List.sum_nil, Int.add_zero] at t1 ⊢
          exact IntWalk.i64_in _ ⟨by omega, by omega⟩
        have hlen1 : k < (la.take (k + 1)).length := by rw [List.length_take]; omega
        have hlen2 : k < ((partsL lf).take (k + 1)).length := by rw [List.length_take]; simp [partsL]; omega
        obtain ⟨p1, cp1, ep1, f1, f2, f3, cell1⟩ := own_elem g28 hlen1
        obtain ⟨p2, cp2, ep2, f4, f5, f6, cell2⟩ := own_elem g29 hlen2
        clear f1 f2 f3 f4 f5 f6
        have r1 : (la.take (k + 1))[k]'hlen1 = la[k]'hlt := by simp
        have r2 : ((partsL lf).take (k + 1))[k]'hlen2 = (lf[k]'(by omega)).tmod 10001 := by simp [partsL]
        rw [r1] at cell1
        rw [r2] at cell2
        have G28 := Lib.hid g28
        have G29 := Lib.hid g29
        have G30 := Lib.hid g30
        have G31 := Lib.hid g31
        obtain ⟨w28, ew28⟩ : ∃ u, u = val 28 := ⟨_, rfl⟩
        obtain ⟨w29, ew29⟩ : ∃ u, u = val 29 := ⟨_, rfl⟩
        obtain ⟨w30, ew30⟩ : ∃ u, u = val 30 := ⟨_, rfl⟩
        obtain ⟨w31, ew31⟩ : ∃ u, u = val 31 := ⟨_, rfl⟩
        rw [← ew28] at G28 a01 a02 a03 ep1 ⊢
        rw [← ew29] at G29 a01 a12 a13 ep2 ⊢
        rw [← ew30] at G30 a02 a12 a23 ⊢
        rw [← ew31] at G31 a03 a13 a23 ⊢
        subst ep1 ep2
        obtain ⟨y, ey⟩ : ∃ y, y = (lf[k]'(by omega)).tmod 10001 := ⟨_, rfl⟩
        obtain ⟨x, ex⟩ : ∃ x, x = la[k]'hlt := ⟨_, rfl⟩
        rw [← ey] at z1 cell2
        rw [← ex] at z2 cell1
        have A01 := Lib.hid a01
        have A02 := Lib.hid a02
        have A03 := Lib.hid a03
        have A12 := Lib.hid a12
        have A13 := Lib.hid a13
        have A23 := Lib.hid a23
        have hbl := R.below.trans hb2'
        obtain ⟨s1, es1⟩ : ∃ x, x = ((partsL lf).take (k + 1)).sum := ⟨_, rfl⟩
        obtain ⟨s2, es2⟩ : ∃ x, x = (la.take (k + 1)).sum := ⟨_, rfl⟩
        rw [← es1] at z1
        rw [← es2] at z2
        have Es1 := Lib.hid es1
        have Es2 := Lib.hid es2
        clear hcst hrows hap hasg g28 g29 g30 g31 a01 a02 a03 a12 a13 a23 ew28 ew29 ew30 ew31 e1 e2 e3 e4 t1 t2 r1 r2 d0 d1 d2 x0b y1b x2b hb2' R ey ex hlen1 hlen2 es1 es2
        go_wp2_with fail
        go_quiet (fail)
        go_wp2_with fail
        go_roundw
        case rel =>
          refine ⟨k + 1, by omega, by go_num, by rw [← Es1.out], by rw [← Es2.out], ⟨fun j hj => ?_, fun i j hi hj hne => ?_, below_drewN hbl _⟩⟩
          · match j, hj with
            | 0, _ => exact G28.out
            | 1, _ => exact G29.out
            | 2, _ => exact G30.out
            | 3, _ => exact G31.out
          · match i, j, hi, hj with
            | 0, 0, _, _ | 1, 1, _, _ | 2, 2, _, _ | 3, 3, _, _ => exact absurd rfl hne
            | 0, 1, _, _ => exact A01.out
            | 0, 2, _, _ => exact A02.out
            | 0, 3, _, _ => exact A03.out
            | 1, 0, _, _ => exact A01.out.symm
            | 1, 2, _, _ => exact A12.out
            | 1, 3, _, _ => exact A13.out
            | 2, 0, _, _ => exact A02.out.symm
            | 2, 1, _, _ => exact A12.out.symm
            | 2, 3, _, _ => exact A23.out
            | 3, 0, _, _ => exact A03.out.symm
            | 3, 1, _, _ => exact A13.out.symm
            | 3, 2, _, _ => exact A23.out.symm
        case measure => simp [intOf]; omega
      · obtain rfl : k = la.length := by omega
        have q0 := R.rows 0 (by omega)
        have q1 := R.rows 1 (by omega)
        have q2 := R.rows 2 (by omega)
        have q3 := R.rows 3 (by omega)
        change wr.ownsRow w.heap.size 3 1 u7 la.length (ints (la.take la.length)) at q0
        change wr.ownsRow w.heap.size 3 1 u8 la.length (ints ((partsL lf).take la.length)) at q1
        change wr.ownsRow w.heap.size 3 1 u9 la.length (ints (ll.take la.length)) at q2
        change wr.ownsRow w.heap.size 3 1 u10 la.length (ints (List.replicate la.length 100000000000000)) at q3
        obtain ⟨b, eb⟩ : ∃ b, b = partsL lf := ⟨_, rfl⟩
        obtain ⟨nn, en⟩ : ∃ n, n = List.replicate la.length (100000000000000 : Int) := ⟨_, rfl⟩
        have hbl : b.length = la.length := by rw [eb]; simp [partsL, hlf]
        have hnn : nn.length = la.length := by rw [en]; simp
        have hbb := parts_bd hf
        rw [← eb] at q1 hbb ⊢
        rw [← en] at q3
        rw [List.take_length] at q0 ⊢
        rw [List.take_of_length_le (by omega)] at q1 ⊢
        rw [List.take_of_length_le (by omega)] at q2
        have r0 := Rd.of_own q0
        have r1 := Rd.of_own q1
        have r2 := Rd.of_own q2
        have r3 := Rd.of_own q3
        have hnv : ∀ x ∈ nn, x = 100000000000000 := fun x hx => by rw [en] at hx; exact List.eq_of_mem_replicate hx
        clear eb en
        have hbw := R.below
        obtain ⟨A0, k0, rfl, _⟩ := r0.shape
        obtain ⟨A1, k1', rfl, _⟩ := r1.shape
        obtain ⟨A2, k2', rfl, _⟩ := r2.shape
        obtain ⟨A3, k3', rfl, _⟩ := r3.shape
        clear R q0 q1 q2 q3 hra hrf hrl hna hnf hnl hlt hk
        go_wp2_with fail
        refine (ints_any la _ _ _ _ r0 (Nat.le_refl _) (by omega)).mono ?_
        rintro e w3 ⟨v3, rfl, ho, hb⟩
        replace r0 := r0.go hb
        replace r1 := r1.go hb
        replace r2 := r2.go hb
        replace r3 := r3.go hb
        have tv3 := Rd.of_own ho
        replace hbw := Below.on hbw hb hbw.size
        clear ho hb
        go_wp2_with fail
        refine (ints_any b _ _ _ _ r1 (Nat.le_refl _) (by omega)).mono ?_
        rintro e w4 ⟨v4, rfl, ho, hb⟩
        replace r0 := r0.go hb
        replace r1 := r1.go hb
        replace r2 := r2.go hb
        replace r3 := r3.go hb
        replace tv3 := tv3.go hb
        have tv4 := Rd.of_own ho
        replace hbw := Below.on hbw hb hbw.size
        clear ho hb
        go_wp2_with fail
        refine (ints_any ll _ _ _ _ r2 (Nat.le_refl _) (by omega)).mono ?_
        rintro e w5 ⟨v5, rfl, ho, hb⟩
        replace r0 := r0.go hb
        replace r1 := r1.go hb
        replace r2 := r2.go hb
        replace r3 := r3.go hb
        replace tv3 := tv3.go hb
        replace tv4 := tv4.go hb
        have tv5 := Rd.of_own ho
        replace hbw := Below.on hbw hb hbw.size
        clear ho hb
        go_wp2_with fail
        refine (pblame_any la b ll _ _ _ _ _ tv3 (by rw [hbl]; exact tv4) (by rw [hll]; exact tv5) (Nat.le_refl _) (by omega) (by omega) (by omega)).mono ?_
        rintro e w6 ⟨v6, rfl, ho, hb⟩
        replace r0 := r0.go hb
        replace r1 := r1.go hb
        replace r2 := r2.go hb
        replace r3 := r3.go hb
        have l6 := Rd.of_own ho
        replace hbw := Below.on hbw hb hbw.size
        clear ho hb tv3 tv4 tv5
        go_wp2_with fail
        refine (ints_any la _ _ _ _ r0 (Nat.le_refl _) (by omega)).mono ?_
        rintro e w7 ⟨v7, rfl, ho, hb⟩
        replace r0 := r0.go hb
        replace r1 := r1.go hb
        replace r2 := r2.go hb
        replace r3 := r3.go hb
        replace l6 := l6.go hb
        have tv7 := Rd.of_own ho
        replace hbw := Below.on hbw hb hbw.size
        clear ho hb
        go_wp2_with fail
        refine (ints_any b _ _ _ _ r1 (Nat.le_refl _) (by omega)).mono ?_
        rintro e w8 ⟨v8, rfl, ho, hb⟩
        replace r0 := r0.go hb
        replace r1 := r1.go hb
        replace r2 := r2.go hb
        replace r3 := r3.go hb
        replace tv7 := tv7.go hb
        replace l6 := l6.go hb
        have tv8 := Rd.of_own ho
        replace hbw := Below.on hbw hb hbw.size
        clear ho hb
        go_wp2_with fail
        refine (ints_any nn _ _ _ _ r3 (Nat.le_refl _) (by omega)).mono ?_
        rintro e w9 ⟨v9, rfl, ho, hb⟩
        replace r0 := r0.go hb
        replace r1 := r1.go hb
        replace r2 := r2.go hb
        replace r3 := r3.go hb
        replace tv7 := tv7.go hb
        replace tv8 := tv8.go hb
        replace l6 := l6.go hb
        have tv9 := Rd.of_own ho
        replace hbw := Below.on hbw hb hbw.size
        clear ho hb
        go_wp2_with fail
        refine (pblame_any la b nn _ _ _ _ _ tv7 (by rw [hbl]; exact tv8) (by rw [hnn]; exact tv9) (Nat.le_refl _) (by omega) (by omega) (by omega)).mono ?_
        rintro e w10 ⟨v10, rfl, ho, hb⟩
        replace r0 := r0.go hb
        replace r1 := r1.go hb
        replace r2 := r2.go hb
        replace r3 := r3.go hb
        replace l6 := l6.go hb
        have m10 := Rd.of_own ho
        replace hbw := Below.on hbw hb hbw.size
        clear ho hb tv7 tv8 tv9
        have he1 := faults_err (a := la) (b := b) (c := ll) hn1 hn12 hbl hll (fun x hx => by have := ha x hx; omega) hbb (fun x hx => by have := hl x hx; omega)
        have he2 := faults_err (a := la) (b := b) (c := nn) hn1 hn12 hbl hnn (fun x hx => by have := ha x hx; omega) hbb (fun x hx => by have := hnv x hx; omega)
        by_cases hz : b.sum = 0
        · rw [if_pos hz] at he1 he2
          have s1 : blameSpec la b ll = [] := by rw [blameSpec, he1, if_neg (by omega)]
          have s2 : blameSpec la b nn = [] := by rw [blameSpec, he2, if_neg (by omega)]
          rw [s1] at l6
          rw [s2] at m10
          rw [he1, he2, hz]
          obtain ⟨A6, k6, rfl, _⟩ := l6.shape
          obtain ⟨A10, k10, rfl, _⟩ := m10.shape
          clear he1 he2 s1 s2 hz hbb
          go_wp2_with fail
          refine (known_any _).mono ?_
          rintro e wk ⟨rfl, hbk⟩
          go_wp2_with fail
          go_ret
          exact ⟨rfl, Below.on hbw hbk hbw.size⟩
        · rw [if_neg hz] at he1 he2
          have s1 : blameSpec la b ll = blameL la b ll := by rw [blameSpec, if_pos he1]
          have s2 : blameSpec la b nn = blameL la b nn := by rw [blameSpec, if_pos he2]
          rw [s1] at l6
          rw [s2] at m10
          rw [he1, he2]
          have hbs := sums_bd hbb (by omega)
          have hz' : (b.sum == 0) = false := by simpa using hz
          have has := sums_bd ha (by omega)
          have hse := faults_split (n := la.sum) hbb (by omega) hz (by omega) (by omega)
          obtain ⟨hL1, hL2, _⟩ := blame_facts (a := la) (c := ll) hbl (fun i => at0_pos fun x hx => (hl x hx).1) (by omega)
          obtain ⟨hM1, _, _⟩ := blame_facts (a := la) (c := nn) hbl (fun i => at0_pos fun x hx => by have := hnv x hx; omega) (by omega)
          have hok := faults_ok (a := la) (b := b) (c := ll) (nn := nn) hbl (fun i => at0_pos fun x hx => (ha x hx).1) (fun x hx => (hbb x hx).1) (fun i => at0_pos fun x hx => (hl x hx).1) (by omega) has.1
            (fun i hi => by rw [← at0_get (by omega : i < nn.length), hnv _ (List.getElem_mem _)]; omega) (fun i => at0_pos fun x hx => by have := hnv x hx; omega)
          have hBl : (splitL la.sum b).length = la.length := by rw [splitL_length, hbl]
          obtain ⟨LL, eL⟩ : ∃ L, L = blameL la b ll := ⟨_, rfl⟩
          obtain ⟨MM, eM⟩ : ∃ L, L = blameL la b nn := ⟨_, rfl⟩
          have hsp := fun (W : World) (u : Value) (h : Rd W W.heap.size 1 u la.length (ints b)) => psplit_any la.sum b u W _ (by rw [hbl]; exact h) (Nat.le_refl _) (by omega)
          rw [splitSpec, if_pos hse, hse] at hsp
          obtain ⟨BS, eB⟩ : ∃ L, L = splitL la.sum b := ⟨_, rfl⟩
          rw [← eL] at l6 hL1 hL2 hok
          rw [← eM] at m10 hM1 hok
          rw [← eB] at hok hBl hsp
          rw [hL1] at l6
          rw [hM1] at m10
          rw [hBl] at hsp
          obtain ⟨A6, k6, rfl, _⟩ := l6.shape
          obtain ⟨A10, k10, rfl, _⟩ := m10.shape
          have hBS : ∀ i, i < la.length → 0 ≤ at0 BS i ∧ at0 BS i ≤ la.sum := fun i hi => by rw [eB]; exact splitL_bd has.1 (fun x hx => (hbb x hx).1) (by omega) (by omega)
          have HBS := Lib.hid hBS
          clear hBS
          have Hok := Lib.hid hok
          have Hsp := Lib.hid hsp
          have HL2 := Lib.hid hL2
          clear eL eM eB hok hsp he1 he2 s1 s2 hse hz hL2 hL1 hM1 hBl
          go_wp2_with fail
          refine (ints_any b _ _ _ _ r1 (Nat.le_refl _) (by omega)).mono ?_
          rintro e w11 ⟨v11, rfl, ho, hb⟩
          replace r0 := r0.go hb
          replace r1 := r1.go hb
          replace r2 := r2.go hb
          replace l6 := l6.go hb
          replace m10 := m10.go hb
          have t11 := Rd.of_own ho
          replace hbw := Below.on hbw hb hbw.size
          clear ho hb
          go_wp2_with fail
          refine (Hsp.out _ _ t11).mono ?_
          rintro e w12 ⟨v12, rfl, ho, hb⟩
          replace r0 := r0.go hb
          replace r1 := r1.go hb
          replace r2 := r2.go hb
          replace l6 := l6.go hb
          replace m10 := m10.go hb
          have t12 := Rd.of_own ho
          replace hbw := Below.on hbw hb hbw.size
          obtain ⟨A12, k12, rfl, _⟩ := t12.shape
          clear ho hb t11 Hsp
          go_wp2_with fail
          have hLl : LL.length = la.length := by have := l6.len; simp [ints] at this; omega
          have hMl : MM.length = la.length := by have := m10.len; simp [ints] at this; omega
          have hBl : BS.length = la.length := by have := t12.len; simp [ints] at this; omega
          have hLb : ∀ x ∈ LL, -4294967295 ≤ x ∧ x ≤ 4294967295 := fun x hx => by
            obtain ⟨i, hi, rfl⟩ := List.getElem_of_mem hx
            have h1 := Hok.out i (by omega)
            have h2 := h1.lim
            have h3 := h1.loss
            have h4 := hl _ (List.getElem_mem (show i < ll.length by omega))
            have h5 := ha _ (List.getElem_mem (show i < la.length by omega))
            rw [at0_get (show i < ll.length by omega)] at h4
            rw [at0_get (show i < la.length by omega)] at h5
            rw [at0_get hi]
            omega
          have hS : ∀ k, k ≤ la.length → -(12 * 4294967295) ≤ (LL.take k).sum ∧ (LL.take k).sum ≤ 12 * 4294967295 := fun k _ => by
            have := sums_two (l := LL.take k) (m := 4294967295) (fun x hx => hLb x (List.mem_of_mem_take hx)) (by rw [List.length_take]; omega)
            omega
          have hsum : ∀ k, k < la.length → (LL.take (k + 1)).sum = (LL.take k).sum + at0 LL k := fun k hk => by
            have htk := take_sum_succ (show k < LL.length by omega)
            rw [at0_get (show k < LL.length by omega)] at htk
            exact htk
          have hparty : ∀ k, k < la.length → Party (at0 la k) (at0 b k) (at0 ll k) (at0 LL k) (at0 MM k) (at0 BS k) := fun k hk => by
            have hF := Hok.out k hk
            have hab := ha _ (List.getElem_mem hk)
            have hcb := hl _ (List.getElem_mem (show k < ll.length by omega))
            rw [at0_get hk] at hab
            rw [at0_get (show k < ll.length by omega)] at hcb
            have hbs := (show 0 ≤ at0 BS k ∧ at0 BS k ≤ la.sum from HBS.out k hk)
            have := sums_bd ha (by omega)
            exact ⟨hF.lim, hF.loss, hF.bear, hF.free, hF.up, hF.down, hab, hcb, by omega⟩
          have h0 : (LL.take la.length).sum = 0 := by rw [List.take_of_length_le (by omega)]; exact HL2.out
          have H0 := Lib.hid h0
          clear h0 hLb Hok HL2 HBS ha hl hf hLl hMl hBl hbs hz' has k1 k2
          refine faults_loop hn1 hn12 r0 r1 r2 l6 m10 t12 hparty hS hsum (fun a w' he hbl => ?_) _ ((env_list (by rfl)).sub ?_)
          · rw [H0.out] at he
            have hbf := Below.on hbw hbl hbw.size
            go_step
            go_step
            refine (show EC Try.prog 277 _ _ (fS _ _ _ _ _ _ 0 la.length) w' from ?_) a he
            refine EC.seq ?_
            refine EC.region ?_
            refine EL.val (x_move rfl) rfl ?_
            refine EL.val (x_eql rfl rfl (by first | assumption | exact decide_eq_true (by omega))) rfl ?_
            refine EL.val (x_move rfl) rfl ?_
            refine EL.callg rfl rfl cl_known rfl (known_any _) ?_
            rintro e wk ⟨rfl, hbk⟩
            refine ⟨_, rfl, ?_⟩
            refine EL.val (x_pick_t rfl rfl) rfl ?_
            refine EL.val (x_assign rfl) rfl ?_
            refine EL.nil ?_
            refine EX.seq ?_
            refine EC.ret ?_
            intro a ha
            go_step
            exact ⟨ha.defers, _, res1 rfl rfl a ha, rfl, Below.on hbf hbk hbf.size⟩
          · unfold fS
            repeat refine Sub.ins ?_ rfl
            exact sub_args0
end Go.Proofs.Ytkbfdgacnoadlaa
