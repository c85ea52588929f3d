/- The reference's Tank: the error of soundings and bunkers. -/
import Derived.Test.YtkbfdgacnoadlaaA16
import Derived.Deep.QuietTactic
import Derived.BigQuiet
namespace Go.Proofs.Ytkbfdgacnoadlaa
open Go.RowKit

theorem quiet_left {P : Program} {f : FuncId} {args : Array Value} {w : World} {n : Nat} {v : Value}
    (h : Calls P f args (w.drewN n) fun e w' => e = .returned v ∧ w.drewN n = w') : Calls P f args (w.drewN n) fun e w'' => e = .returned v ∧ ∃ m, w'' = w.drewN m :=
  h.mono fun _ _ ⟨he, hm⟩ => ⟨he, n, hm.symm⟩
theorem tank_two {l : List Sd} {b : List Bk} (h1 : ¬ 100 < l.length) (h2 : ¬ 100 < b.length) (h3 : ¬ l.length = 0) (h : b.all bkOk = false ∨ sdsOk (-1) l = false) : tankErr l b = 2 := by
  unfold tankErr
  rw [if_neg h1, if_neg h2, if_neg h3]
  by_cases h4 : b.all bkOk = false
  · rw [if_pos h4]
  · rw [if_neg h4, if_pos (by rcases h with h | h; exact absurd h h4; exact h)]
/-- a sounding's tests, one by one: in the first one's place -/
theorem sd_first (x : Sd) : (inB 0 1000000 x.m = false ∧ sdOk (-1) x = false) ∨ (inB 0 1000000 x.m = true ∧ inB 0 x.hi x.lo = false ∧ sdOk (-1) x = false) ∨ (inB 0 1000000 x.m = true ∧ inB 0 x.hi x.lo = true ∧ decide (10000000 < x.hi) = true ∧ sdOk (-1) x = false) ∨
    (inB 0 1000000 x.m = true ∧ inB 0 x.hi x.lo = true ∧ decide (10000000 < x.hi) = false ∧ sdOk (-1) x = true) := by
  simp only [sdOk, inB, List.all_cons, List.all_nil, Bool.and_true]
  by_cases a : 0 ≤ x.m <;> by_cases b : x.m ≤ 1000000 <;> by_cases c : 0 ≤ x.lo <;> by_cases d : x.lo ≤ x.hi <;> by_cases e : x.hi ≤ 10000000 <;> simp [a, b, c, d, e] <;> omega
/-- behind another sounding -/
theorem sd_next (x : Sd) (p : Int) (hp : 0 ≤ p) : (inB 0 1000000 x.m = false ∧ sdOk p x = false) ∨ (inB 0 1000000 x.m = true ∧ decide (x.m ≤ p) = true ∧ sdOk p x = false) ∨ (inB 0 1000000 x.m = true ∧ decide (x.m ≤ p) = false ∧ inB 0 x.hi x.lo = false ∧ sdOk p x = false) ∨
    (inB 0 1000000 x.m = true ∧ decide (x.m ≤ p) = false ∧ inB 0 x.hi x.lo = true ∧ decide (10000000 < x.hi) = true ∧ sdOk p x = false) ∨
    (inB 0 1000000 x.m = true ∧ decide (x.m ≤ p) = false ∧ inB 0 x.hi x.lo = true ∧ decide (10000000 < x.hi) = false ∧ sdOk p x = true) := by
  simp only [sdOk, inB, List.all_cons, List.all_nil, Bool.and_true]
  by_cases a : 0 ≤ x.m <;> by_cases b : x.m ≤ 1000000 <;> by_cases q : x.m ≤ p <;> by_cases c : 0 ≤ x.lo <;> by_cases d : x.lo ≤ x.hi <;> by_cases e : x.hi ≤ 10000000 <;> simp [a, b, c, d, e, q] <;> omega

set_option maxHeartbeats 8000000 in
set_option maxRecDepth 100000 in
theorem rtank_any (l : List Sd) (b : List Bk) (vs vb : Value) (w : World) (B C : Nat) (hr : Rd w B 3 vs l.length (sdsV l)) (hB : B ≤ w.heap.size) (hs : Rd w C 2 vb b.length (bksV b)) (hC : C ≤ w.heap.size)
    (hl : l.length ≤ 1048576) (hbl : b.length ≤ 1048576) : Calls Try.prog 30 #[vs, vb] w fun e w' => e = .returned (.int .i64 (tankErr l b)) ∧ Below w.heap.size w w' := by
  obtain ⟨A, ca, rfl, hna⟩ := hr.shape
  obtain ⟨A', cb, rfl, hnb⟩ := hs.shape
  by_cases h1 : 100 < l.length
  · have h1' : decide (100 < (l.length : Int)) = true := decide_eq_true (by omega)
    have e0 : tankErr l b = 5 := by unfold tankErr; rw [if_pos h1]
    rw [e0]
    clear e0
    go_enter Try.func30, Try.ntmps30
    go_wp2_with fail
    go_ret
    exact ⟨rfl, Below.refl _ _⟩
  have h1' : decide (100 < (l.length : Int)) = false := decide_eq_false (by omega)
  by_cases h2 : 100 < b.length
  · have h2' : decide (100 < (b.length : Int)) = true := decide_eq_true (by omega)
    have e0 : tankErr l b = 5 := by unfold tankErr; rw [if_neg h1, if_pos h2]
    rw [e0]
    clear e0
    go_enter Try.func30, Try.ntmps30
    go_wp2_with fail
    go_ret
    exact ⟨rfl, Below.refl _ _⟩
  have h2' : decide (100 < (b.length : Int)) = false := decide_eq_false (by omega)
  by_cases h3 : l.length = 0
  · have h3' : ((l.length : Int) == 0) = true := beq_iff_eq.2 (by omega)
    have e0 : tankErr l b = 4 := by unfold tankErr; rw [if_neg h1, if_neg h2, if_pos h3]
    rw [e0]
    clear e0 h3
    go_enter Try.func30, Try.ntmps30
    go_wp2_with fail
    go_ret
    exact ⟨rfl, Below.refl _ _⟩
  have h3' : ((l.length : Int) == 0) = false := beq_eq_false_iff_ne.2 (by omega)
  have Ht := Lib.hid (fun h => tank_two (l := l) (b := b) h1 h2 h3 h)
  have Hz := Lib.hid (show b.all bkOk = true → sdsOk (-1) l = true → tankErr l b = 0 from fun ha hb => by unfold tankErr; rw [if_neg h1, if_neg h2, if_neg h3, if_neg (by simp [ha]), if_neg (by simp [hb])])
  obtain ⟨E, eE⟩ : ∃ E, E = tankErr l b := ⟨_, rfl⟩
  rw [← eE] at Ht Hz ⊢
  clear eE
  go_enter Try.func30, Try.ntmps30
  go_wp2_with fail
  clear h1' h2' h3'
  go_loopw [5] (fun i wr => ∃ k : Nat, k ≤ l.length ∧ i = .int .i64 k ∧ Hid (OkTo l k) ∧ Below w.heap.size w wr) (fun i _ => l.length - (intOf i).toNat)
  case atStart => exact ⟨0, Nat.zero_le _, rfl, Lib.hid (fun j _ h => absurd h (by omega)), Below.refl _ _⟩
  case round =>
    obtain ⟨k, hk, rfl, Hok, hbw⟩ := hrel
    have hsz := hbw.size
    by_cases hlt : k < l.length
    · obtain ⟨g, off, rfl, hgB, hc⟩ := sds_all (hr.below (hbw.mono hB)) (by omega)
      have hgx : l.getD k sd0 = l[k] := by simp [hlt]
      obtain ⟨c0, c1, c2⟩ := hc k hlt
      rw [hgx] at c0 c1 c2
      have hsucc := fun h => Hok.out.succ hlt h
      have hnot := fun h => Ht.out (.inr (not_ok hlt h))
      have i0 : (0 : Int) ≤ (k : Int) := Int.natCast_nonneg _
      have i1 : (k : Int) < (l.length : Int) := by omega
      rcases Nat.eq_zero_or_pos k with hk0 | hk0
      · have hcase := sd_first l[k]
        rw [show prevM l k = -1 by rw [hk0]; rfl] at hsucc hnot
        obtain ⟨x, hx⟩ : ∃ x, x = l[k] := ⟨_, rfl⟩
        rw [← hx] at c0 c1 c2 hcase hsucc hnot
        obtain ⟨m, lo, hi⟩ := x
        simp only at c0 c1 c2 hcase
        have Hs := Lib.hid hsucc
        have Hn := Lib.hid hnot
        have z0 : decide (0 < (k : Int)) = false := decide_eq_false (by omega)
        have z0' : ¬ 0 < k := by omega
        clear hx hsucc hnot hc hgx hk0
        rcases hcase with ⟨a1, a2⟩ | ⟨a1, a2, a3⟩ | ⟨a1, a2, a3, a4⟩ | ⟨a1, a2, a3, a4⟩
        · have Hf := Lib.hid (Hn.out a2)
          clear a2
          go_wp2_with fail
          go_quiet ((go_at_call 48; exact quiet_left (in_any _ _ _ _)))
          go_wp2_with fail
          go_ret
          exact ⟨ret_int Hf.out.symm, below_drewN (hbw.alloc hsz _) _⟩
        · have Hf := Lib.hid (Hn.out a3)
          clear a3
          go_wp2_with fail
          go_quiet ((go_at_call 48; exact quiet_left (in_any _ _ _ _)))
          go_wp2_with fail
          go_ret
          exact ⟨ret_int Hf.out.symm, below_drewN (hbw.alloc hsz _) _⟩
        · have Hf := Lib.hid (Hn.out a4)
          clear a4
          go_wp2_with fail
          go_quiet ((go_at_call 48; exact quiet_left (in_any _ _ _ _)))
          go_wp2_with fail
          go_ret
          exact ⟨ret_int Hf.out.symm, below_drewN (hbw.alloc hsz _) _⟩
        · have Hf := Lib.hid (Hs.out a4)
          clear a4
          go_wp2_with fail
          go_quiet ((go_at_call 48; exact quiet_left (in_any _ _ _ _)))
          go_wp2_with fail
          go_roundw
          case rel => exact ⟨k + 1, by omega, by go_num, Hf, below_drewN (hbw.alloc hsz _) _⟩
          case measure => simp [intOf]; omega
      · obtain ⟨j, hj⟩ : ∃ j, k = j + 1 := ⟨k - 1, by omega⟩
        have hjl : j < l.length := by omega
        obtain ⟨d0, -, -⟩ := hc j hjl
        have hpj := (sd_bd (Hok.out j hjl (by omega))).1
        have hp0 : -1 ≤ prevM l j := by
          cases j with
          | zero => exact Int.le_refl _
          | succ i => rw [prevM_succ l (by omega)]; have := (sd_bd (Hok.out i (by omega) (by omega))).1; have h2 : ∀ q, q ≤ i → -1 ≤ prevM l q := by
                        intro q
                        induction q with
                        | zero => intro _; exact Int.le_refl _
                        | succ r ih => intro hr; rw [prevM_succ l (by omega)]; have := (sd_bd (Hok.out r (by omega) (by omega))).1; have := ih (by omega); omega
                      have := h2 i (Nat.le_refl _); omega
        have hpe : prevM l k = l[j].m := by rw [hj]; exact prevM_succ l hjl
        have hgy : l.getD j sd0 = l[j] := by simp [hjl]
        rw [hgy] at d0
        rw [hpe] at hsucc hnot
        obtain ⟨p, hp⟩ : ∃ p, p = l[j].m := ⟨_, rfl⟩
        rw [← hp] at d0 hsucc hnot hpj
        have hcase := sd_next l[k] p (by omega)
        obtain ⟨x, hx⟩ : ∃ x, x = l[k] := ⟨_, rfl⟩
        rw [← hx] at c0 c1 c2 hcase hsucc hnot
        obtain ⟨m, lo, hi⟩ := x
        simp only at c0 c1 c2 hcase
        have Hs := Lib.hid hsucc
        have Hn := Lib.hid hnot
        have z0 : decide (0 < (k : Int)) = true := decide_eq_true (by omega)
        have z1 : IntKind.i64.wrap ((k : Int) - 1) = (j : Int) := by rw [IntWalk.i64_in _ ⟨by omega, by omega⟩]; omega
        have z2 : (0 : Int) ≤ (j : Int) := Int.natCast_nonneg _
        have z3 : (j : Int) < (l.length : Int) := by omega
        have hgw : g < wr.heap.size := by omega
        have d1 : (wr.alloc (.cells #[.int .i64 m, .int .i64 lo, .int .i64 hi] 78)).cell? ⟨g, off + j * 3, none⟩ = some (.int .i64 p) := (((Below.refl wr.heap.size wr).alloc (Nat.le_refl _) _).cell (p := ⟨g, off + j * 3, none⟩) hgw).trans d0
        clear hx hp hpj hp0 hpe hgy hsucc hnot hc hgx hj
        rcases hcase with ⟨a1, a2⟩ | ⟨a1, a2, a3⟩ | ⟨a1, a2, a3, a4⟩ | ⟨a1, a2, a3, a4, a5⟩ | ⟨a1, a2, a3, a4, a5⟩
        · have Hf := Lib.hid (Hn.out a2)
          clear a2
          go_wp2_with fail
          go_quiet ((go_at_call 48; exact quiet_left (in_any _ _ _ _)))
          go_wp2_with fail
          go_ret
          exact ⟨ret_int Hf.out.symm, below_drewN (hbw.alloc hsz _) _⟩
        · have Hf := Lib.hid (Hn.out a3)
          clear a3
          go_wp2_with fail
          go_quiet ((go_at_call 48; exact quiet_left (in_any _ _ _ _)))
          go_wp2_with fail
          go_ret
          exact ⟨ret_int Hf.out.symm, below_drewN (hbw.alloc hsz _) _⟩
        · have Hf := Lib.hid (Hn.out a4)
          clear a4
          go_wp2_with fail
          go_quiet ((go_at_call 48; exact quiet_left (in_any _ _ _ _)))
          go_wp2_with fail
          go_ret
          exact ⟨ret_int Hf.out.symm, below_drewN (hbw.alloc hsz _) _⟩
        · have Hf := Lib.hid (Hn.out a5)
          clear a5
          go_wp2_with fail
          go_quiet ((go_at_call 48; exact quiet_left (in_any _ _ _ _)))
          go_wp2_with fail
          go_ret
          exact ⟨ret_int Hf.out.symm, below_drewN (hbw.alloc hsz _) _⟩
        · have Hf := Lib.hid (Hs.out a5)
          clear a5
          go_wp2_with fail
          go_quiet ((go_at_call 48; exact quiet_left (in_any _ _ _ _)))
          go_wp2_with fail
          go_roundw
          case rel => exact ⟨k + 1, by omega, by go_num, Hf, below_drewN (hbw.alloc hsz _) _⟩
          case measure => simp [intOf]; omega
    · obtain rfl : k = l.length := by omega
      have Hz2 := Lib.hid (fun ha => Hz.out ha Hok.out.all)
      clear Hz Hok hlt hk
      obtain ⟨wo, ewo⟩ : ∃ wo : World, wo = wr := ⟨_, rfl⟩
      rw [← ewo] at hbw hsz ⊢
      clear ewo
      go_wp2_with fail
      go_loopw [7] (fun i wq => ∃ k : Nat, k ≤ b.length ∧ i = .int .i64 k ∧ Hid (∀ y ∈ b.take k, bkOk y = true) ∧ Below w.heap.size w wq) (fun i _ => b.length - (intOf i).toNat)
      case atStart => exact ⟨0, Nat.zero_le _, rfl, Lib.hid (by simp), hbw⟩
      case round =>
        clear hbw hsz
        obtain ⟨k, hk, rfl, Hok, hbw⟩ := hrel
        have hsz := hbw.size
        by_cases hlt : k < b.length
        · obtain ⟨g, off, rfl, hgB, c0, c1⟩ := bks_cells b k hlt _ C _ _ _ (hs.below (hbw.mono hC))
          have i0 : (0 : Int) ≤ (k : Int) := Int.natCast_nonneg _
          have i1 : (k : Int) < (b.length : Int) := by omega
          have hnot : bkOk b[k] = false → E = 2 := fun h => Ht.out (.inl (by
            rcases Bool.eq_false_or_eq_true (b.all bkOk) with h5 | h5
            · rw [List.all_eq_true.1 h5 _ (List.getElem_mem hlt)] at h; cases h
            · exact h5))
          have hsucc : bkOk b[k] = true → ∀ y ∈ b.take (k + 1), bkOk y = true := fun h y hy => by
            rw [List.take_succ_eq_append_getElem hlt, List.mem_append, List.mem_singleton] at hy
            rcases hy with hy | rfl
            · exact Hok.out y hy
            · exact h
          obtain ⟨x, hx⟩ : ∃ x, x = b[k] := ⟨_, rfl⟩
          rw [← hx] at c0 c1 hsucc hnot
          obtain ⟨m, q⟩ := x
          simp only [bkOk] at c0 c1 hsucc hnot
          have Hs := Lib.hid hsucc
          have Hn := Lib.hid hnot
          clear hx hsucc hnot
          rcases Bool.eq_false_or_eq_true (inB 0 1000000 m) with a1 | a1
          · rcases Bool.eq_false_or_eq_true (inB 1 10000000 q) with a2 | a2
            · have Hf := Lib.hid (Hs.out (by rw [a1, a2]; rfl))
              go_wp2_with (go_at_call 48; refine (in_any _ _ _ _).mono ?_; rintro e w' ⟨rfl, rfl⟩)
              go_roundw
              case rel => exact ⟨k + 1, by omega, by go_num, Hf, hbw⟩
              case measure => simp [intOf]; omega
            · have Hf := Lib.hid (Hn.out (by rw [a1, a2]; rfl))
              go_wp2_with (go_at_call 48; refine (in_any _ _ _ _).mono ?_; rintro e w' ⟨rfl, rfl⟩)
              go_ret
              exact ⟨ret_int Hf.out.symm, hbw⟩
          · have Hf := Lib.hid (Hn.out (by rw [a1]; rfl))
            go_wp2_with (go_at_call 48; refine (in_any _ _ _ _).mono ?_; rintro e w' ⟨rfl, rfl⟩)
            go_ret
            exact ⟨ret_int Hf.out.symm, hbw⟩
        · obtain rfl : k = b.length := by omega
          have Hf := Lib.hid (Hz2.out (List.all_eq_true.2 (fun y hy => Hok.out y (by rw [List.take_length]; exact hy))))
          go_wp2_with fail
          go_ret
          exact ⟨ret_int Hf.out.symm, hbw⟩
end Go.Proofs.Ytkbfdgacnoadlaa
