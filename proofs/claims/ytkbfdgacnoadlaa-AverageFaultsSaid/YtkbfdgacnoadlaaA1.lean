/- The contracts of the small functions: within, sum, In, all, ints, equal: what each returns, for every input that can be read. -/
import Derived.Test.YtkbfdgacnoadlaaRows
import Derived.Test.YtkbfdgacnoadlaaBase
import Derived.Deep.QuietTactic
import Derived.BigQuiet
namespace Go.Proofs.Ytkbfdgacnoadlaa
open Go.RowKit

set_option maxHeartbeats 400000 in
theorem within1_any (x lo hi : Int) (p q : Addr) (w : World) (hp : w.cell? p = some (.int .i64 lo)) (hq : w.cell? q = some (.int .i64 hi)) :
    Calls Try.prog 56 #[.int .i64 x, .pointer (some p), .pointer (some q)] w fun e w' => e = .returned (.bool (!inB lo hi x)) ∧ w = w' := by
  by_cases h1 : x < lo
  · go_enter Try.func56, Try.ntmps56
    go_wp2
    go_ret
    exact ⟨ret_bool (by simp [inB]; omega), rfl⟩
  · have h1' : decide (x < lo) = false := by simpa using h1
    go_enter Try.func56, Try.ntmps56
    go_wp2
    go_ret
    refine ⟨ret_bool ?_, rfl⟩
    rw [Bool.eq_iff_iff]
    simp [inB]
    omega

set_option maxHeartbeats 400000 in
theorem sum_any (l : List Int) (v : Value) (n : Nat) (w : World) (B : Nat) (hr : Rd w B 1 v n (ints l)) (hn : n ≤ 9223372036854775807) :
    Calls Try.prog 43 #[v] w fun e w' => e = .returned (.int .i64 (wrap64 l.sum)) ∧ w = w' := by
  obtain ⟨A, c, rfl, hnc⟩ := hr.shape
  have hl : n = l.length := by have := hr.len; simp [ints] at this; omega
  subst hl
  go_enter Try.func43, Try.ntmps43
  go_wp2
  go_loop [2, 4, 7] (fun s _ i => ∃ k : Nat, k ≤ l.length ∧ i = .int .i64 k ∧ s = .int .i64 (wrap64 (l.take k).sum)) (fun _ _ i => l.length - (intOf i).toNat)
  case atStart => exact ⟨0, Nat.zero_le _, rfl, by rw [List.take_zero, List.sum_nil, IntWalk.wrap64_in 0 (by omega)]⟩
  case round =>
    obtain ⟨k, hk, rfl, rfl⟩ := hrel
    by_cases hlt : k < l.length
    · obtain ⟨b, off, rfl, hb, hc⟩ := hr.at_ (by omega)
      have hc' := hc k _ (ints_get l k hlt)
      clear hc
      go_wp2
      go_round
      case rel => exact ⟨k + 1, by omega, by go_num, by rw [List.take_succ_eq_append_getElem hlt, List.sum_append, wrap64_add_left]; simp⟩
      case measure => simp [intOf]; omega
    · go_wp2
      go_ret
      exact ⟨ret_int (by rw [List.take_of_length_le (by omega)]), rfl⟩

set_option maxHeartbeats 400000 in
theorem rsum_any (l : List Int) (v : Value) (n : Nat) (w : World) (B : Nat) (hr : Rd w B 1 v n (ints l)) (hn : n ≤ 9223372036854775807) :
    Calls Try.prog 47 #[v] w fun e w' => e = .returned (.int .i64 (wrap64 l.sum)) ∧ w = w' := by
  obtain ⟨A, c, rfl, hnc⟩ := hr.shape
  have hl : n = l.length := by have := hr.len; simp [ints] at this; omega
  subst hl
  go_enter Try.func47, Try.ntmps47
  go_wp2
  go_loop [3, 4] (fun s i => ∃ k : Nat, k ≤ l.length ∧ i = .int .i64 k ∧ s = .int .i64 (wrap64 (l.take k).sum)) (fun _ i => l.length - (intOf i).toNat)
  case atStart => exact ⟨0, Nat.zero_le _, rfl, by rw [List.take_zero, List.sum_nil, IntWalk.wrap64_in 0 (by omega)]⟩
  case round =>
    obtain ⟨k, hk, rfl, rfl⟩ := hrel
    by_cases hlt : k < l.length
    · obtain ⟨b, off, rfl, hb, hc⟩ := hr.at_ (by omega)
      have hc' := hc k _ (ints_get l k hlt)
      clear hc
      go_wp2
      go_round
      case rel => exact ⟨k + 1, by omega, by go_num, by rw [List.take_succ_eq_append_getElem hlt, List.sum_append, wrap64_add_left]; simp⟩
      case measure => simp [intOf]; omega
    · go_wp2
      go_ret
      exact ⟨ret_int (by rw [List.take_of_length_le (by omega)]), rfl⟩

set_option maxHeartbeats 400000 in
theorem in_any (n lo hi : Int) (w : World) :
    Calls Try.prog 48 #[.int .i64 n, .int .i64 lo, .int .i64 hi] w fun e w' => e = .returned (.bool (inB lo hi n)) ∧ w = w' := by
  by_cases h1 : lo ≤ n
  · go_enter Try.func48, Try.ntmps48
    go_wp2
    go_ret
    simp [h1, inB]
  · go_enter Try.func48, Try.ntmps48
    go_wp2
    go_ret
    simp [inB]
    omega

set_option maxHeartbeats 400000 in
theorem all_any (l : List Int) (lo hi : Int) (v : Value) (n : Nat) (w : World) (B : Nat) (hr : Rd w B 1 v n (ints l)) (hn : n ≤ 9223372036854775807) :
    Calls Try.prog 49 #[v, .int .i64 lo, .int .i64 hi] w fun e w' => e = .returned (.bool (l.all (inB lo hi))) ∧ w = w' := by
  obtain ⟨A, c, rfl, hnc⟩ := hr.shape
  have hl : n = l.length := by have := hr.len; simp [ints] at this; omega
  subst hl
  go_enter Try.func49, Try.ntmps49
  go_wp2
  go_loop [7] (fun i => ∃ k : Nat, k ≤ l.length ∧ i = .int .i64 k ∧ (l.take k).all (inB lo hi) = true) (fun i => l.length - (intOf i).toNat)
  case atStart => exact ⟨0, Nat.zero_le _, rfl, rfl⟩
  case round =>
    obtain ⟨k, hk, rfl, hal⟩ := hrel
    have Hal := Lib.hid hal
    clear hal
    by_cases hlt : k < l.length
    · obtain ⟨b, off, rfl, hb, hc⟩ := hr.at_ (by omega)
      have hc' := hc k _ (ints_get l k hlt)
      clear hc
      rcases Bool.eq_false_or_eq_true (inB lo hi l[k]) with hx | hx
      · go_wp2_with (go_at_call 48; refine (in_any _ _ _ _).mono ?_; rintro e w' ⟨rfl, rfl⟩)
        go_round
        case rel => exact ⟨k + 1, by omega, by go_num, by rw [List.take_succ_eq_append_getElem hlt, List.all_append, Hal.out]; simp [hx]⟩
        case measure => simp [intOf]; omega
      · go_wp2_with (go_at_call 48; refine (in_any _ _ _ _).mono ?_; rintro e w' ⟨rfl, rfl⟩)
        go_ret
        exact ⟨ret_bool (all_false_at hlt hx).symm, rfl⟩
    · go_wp2
      go_ret
      have h := Hal.out
      rw [List.take_of_length_le (by omega)] at h
      exact ⟨ret_bool h.symm, rfl⟩

theorem ints_at (l : List Int) (k : Nat) (hlt : k < l.length) (w : World) (B : Nat) (A : Option Addr) (c : Nat) (hr : Rd w B 1 (.slice A l.length c) l.length (ints l)) :
    ∃ b off, A = some ⟨b, off, none⟩ ∧ b < B ∧ w.cell? ⟨b, off + k, none⟩ = some (.int .i64 l[k]) := by
  obtain ⟨b, off, rfl, hb, hc⟩ := hr.at_ (by omega)
  exact ⟨b, off, rfl, hb, hc k _ (ints_get l k hlt)⟩

set_option maxHeartbeats 400000 in
theorem index_within (l : List Int) (lo hi : Int) (p q : Addr) (v : Value) (n : Nat) (w : World) (B : Nat) (hr : Rd w B 1 v n (ints l)) (hn : n ≤ 9223372036854775807)
    (hp : w.cell? p = some (.int .i64 lo)) (hq : w.cell? q = some (.int .i64 hi)) :
    Calls Try.prog 60 #[v, .func (.func 56) #[] #[.pointer (some p), .pointer (some q)]] w fun e w' => (∃ r : Int, e = .returned (.int .i64 r) ∧ decide (0 ≤ r) = !l.all (inB lo hi)) ∧ w = w' := by
  obtain ⟨A, c, rfl, hnc⟩ := hr.shape
  have hl : n = l.length := by have := hr.len; simp [ints] at this; omega
  subst hl
  go_enter Try.func60, Try.ntmps60
  go_wp2
  go_loop [5, 8] (fun _ i => ∃ k : Nat, k ≤ l.length ∧ i = .int .i64 k ∧ (l.take k).all (inB lo hi) = true) (fun _ i => l.length - (intOf i).toNat)
  case atStart => exact ⟨0, Nat.zero_le _, rfl, rfl⟩
  case round =>
    obtain ⟨k, hk, rfl, hal⟩ := hrel
    have Hal := Lib.hid hal
    clear hal
    by_cases hlt : k < l.length
    · obtain ⟨b, off, rfl, hb, hc'⟩ := ints_at l k hlt w B _ _ hr
      rcases Bool.eq_false_or_eq_true (inB lo hi l[k]) with hx | hx
      · go_wp2_with (go_at_call 56; refine (within1_any _ lo hi p q _ hp hq).mono ?_; rintro e w' ⟨rfl, rfl⟩)
        go_round
        case rel => exact ⟨k + 1, by omega, by go_num, by rw [List.take_succ_eq_append_getElem hlt, List.all_append, Hal.out]; simp [hx]⟩
        case measure => simp [intOf]; omega
      · go_wp2_with (go_at_call 56; refine (within1_any _ lo hi p q _ hp hq).mono ?_; rintro e w' ⟨rfl, rfl⟩)
        go_ret
        exact ⟨⟨_, rfl, by rw [all_false_at hlt hx]; simp⟩, rfl⟩
    · go_wp2
      go_ret
      have h := Hal.out
      rw [List.take_of_length_le (by omega)] at h
      exact ⟨⟨_, rfl, by rw [h]; rfl⟩, rfl⟩

set_option maxHeartbeats 400000 in
theorem contains_within (l : List Int) (lo hi : Int) (p q : Addr) (v : Value) (n : Nat) (w : World) (B : Nat) (hr : Rd w B 1 v n (ints l)) (hn : n ≤ 9223372036854775807)
    (hp : w.cell? p = some (.int .i64 lo)) (hq : w.cell? q = some (.int .i64 hi)) :
    Calls Try.prog 55 #[v, .func (.func 56) #[] #[.pointer (some p), .pointer (some q)]] w fun e w' => e = .returned (.bool (!l.all (inB lo hi))) ∧ w = w' := by
  go_enter Try.func55, Try.ntmps55
  go_wp2_with (go_at_call 60; refine (index_within l lo hi p q _ n _ B hr hn hp hq).mono ?_; rintro e w' ⟨⟨r, rfl, hr'⟩, rfl⟩)
  go_ret
  exact ⟨ret_bool (by simp), rfl⟩

set_option maxHeartbeats 400000 in
theorem within_any (l : List Int) (lo hi : Int) (v : Value) (n : Nat) (w : World) (B : Nat) (hr : Rd w B 1 v n (ints l)) (hB : B ≤ w.heap.size) (hn : n ≤ 9223372036854775807) :
    Calls Try.prog 35 #[.int .i64 lo, .int .i64 hi, v] w fun e w' => e = .returned (.bool (l.all (inB lo hi))) ∧ Below w.heap.size w w' := by
  go_enter Try.func35, Try.ntmps35
  go_wp2_with (go_at_call 55; refine (contains_within l lo hi ⟨w.heap.size, 0, none⟩ ⟨w.heap.size + 1, 0, none⟩ _ n _ B ((hr.alloc hB _).alloc (by simp; omega) _) hn (by go_simp) (by go_simp)).mono ?_; rintro e w' ⟨rfl, rfl⟩)
  go_ret
  exact ⟨ret_bool (by simp), ((Below.refl _ _).alloc (Nat.le_refl _) _).alloc (by simp) _⟩

theorem int_info : (Try.prog.info? 3).map (fun i => (i.zero, i.size, i.bytes)) = some (some (.int .i64 0), 1, 8) := by kernel_rfl

theorem int_elem : Elem Try.prog 34 3 1 8 := Elem.mk' Try.underlying34 int_info rfl (by omega)

set_option maxHeartbeats 400000 in
theorem ints_any (l : List Int) (v : Value) (n : Nat) (w : World) (B : Nat) (hr : Rd w B 1 v n (ints l)) (hB : B ≤ w.heap.size) (hn : n ≤ 1048576) :
    Calls Try.prog 17 #[v] w fun e w' => ∃ v', e = .returned v' ∧ w'.ownsRow w.heap.size 3 1 v' n (ints l) ∧ Below w.heap.size w w' := by
  obtain ⟨i0, hi0, hz0, hz1, hz2⟩ := info_parts int_info
  go_enter Try.func17, Try.ntmps17
  go_wp2_with (at_builtin; refine wpList_append_rd _ rfl (.tmp 3) (.tmp 4) 34 rfl w.heap.size 3 i0 _ 1 8 Try.underlying34 hi0 hz0 hz1 hz2 rfl (by omega) (.slice (some ⟨w.heap.size, 0, none⟩) 0 0) 0 [] rfl (own_new w _ _ 1 0 #[] (Nat.le_refl _) rfl (Nat.zero_le _)) B _ n _ rfl (hr.alloc hB _) (ints_one l) (by simp only [maxLen]; omega) (by omega) (by simp) ?_; intro v1 w1 hown1 hg1 hat1)
  go_ret
  refine ⟨v1, rfl, by simpa using hown1, ((Below.refl _ _).alloc (Nat.le_refl _) _).grown hg1 (by simp) ?_⟩
  simp [Value.ownBlock]

set_option maxHeartbeats 400000 in
theorem equal_any (la lb : List Int) (v u : Value) (n m : Nat) (w : World) (B C : Nat) (hr : Rd w B 1 v n (ints la)) (hs : Rd w C 1 u m (ints lb)) (hB : B ≤ w.heap.size) (hC : C ≤ w.heap.size) (hn : n ≤ 1048576) :
    Calls Try.prog 20 #[v, u] w fun e w' => e = .returned (.bool (eqL la lb)) ∧ Below w.heap.size w w' := by
  obtain ⟨A, c, rfl, hnc⟩ := hr.shape
  obtain ⟨A', c', rfl, hnc'⟩ := hs.shape
  have hl : n = la.length := by have := hr.len; simp [ints] at this; omega
  have hm : m = lb.length := by have := hs.len; simp [ints] at this; omega
  subst hl hm
  by_cases hne : la.length = lb.length
  · have hne' : ((la.length : Int) != (lb.length : Int)) = false := by simp [hne]
    have Hne := Lib.hid hne
    clear hne
    go_enter Try.func20, Try.ntmps20
    go_wp2
    go_loopw [5] (fun i wr => ∃ k : Nat, k ≤ la.length ∧ i = .int .i64 k ∧ Hid (la.take k = lb.take k) ∧ Below w.heap.size w wr) (fun i _ => la.length - (intOf i).toNat)
    case atStart => exact ⟨0, Nat.zero_le _, rfl, rfl, Below.refl _ _⟩
    case round =>
      obtain ⟨k, hk, rfl, Hal, hbw⟩ := hrel
      by_cases hlt : k < la.length
      · have hlt' : k < lb.length := by have := Hne.out; omega
        obtain ⟨b, off, rfl, hb, hc'⟩ := ints_at la k hlt _ B _ _ (hr.below (hbw.mono hB))
        obtain ⟨b', off', rfl, hb', hc2⟩ := ints_at lb k hlt' _ C _ _ (hs.below (hbw.mono hC))
        by_cases hx : la[k] = lb[k]
        · have hx' : (la[k] != lb[k]) = false := by simp [hx]
          have Hx := Lib.hid hx
          clear hx
          go_wp2
          go_quiet (fail)
          go_wp2
          go_roundw
          case rel => exact ⟨k + 1, by omega, by go_num, by show la.take (k + 1) = lb.take (k + 1); rw [List.take_succ_eq_append_getElem hlt, List.take_succ_eq_append_getElem hlt', Hal.out, Hx.out], below_drewN hbw _⟩
          case measure => simp [intOf]; omega
        · have hx' : (la[k] != lb[k]) = true := by simp [hx]
          go_wp2
          go_quiet (fail)
          go_wp2
          go_ret
          exact ⟨ret_bool (eqL_of_ne hlt hlt' hx).symm, below_drewN hbw _⟩
      · go_wp2
        go_ret
        refine ⟨ret_bool ?_, hbw⟩
        have h := Hal.out
        rw [show k = la.length by omega] at h
        exact (eqL_of_all Hne.out h).symm
  · have hne' : ((la.length : Int) != (lb.length : Int)) = true := by simp; omega
    go_enter Try.func20, Try.ntmps20
    go_wp2
    go_ret
    refine ⟨ret_bool ?_, Below.refl _ _⟩
    symm
    simp only [eqL, decide_eq_false_iff_not]
    rintro rfl
    exact hne rfl
end Go.Proofs.Ytkbfdgacnoadlaa
