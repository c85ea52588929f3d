/- The contracts of the small functions of River: within, isValid, down, up; In, Valid, Floor, Ceil. -/
import Derived.Test.YtfgfenmaommclaaRows
import Derived.Test.YtfgfenmaommclaaRivWords
import Derived.Deep.QuietTactic
import Derived.BigQuiet
namespace Go.Proofs.Ytfgfenmaommclaa
open Go.RowKit

set_option maxHeartbeats 400000 in
theorem within1_any (x lo hi : Int) (p q : Addr) (w : World) (hp : w.cell? p = some (.int .i64 lo)) (hq : w.cell? q = some (.int .i64 hi)) :
    Calls Try.prog 92 #[.int .i64 x, .pointer (some p), .pointer (some q)] w fun e w' => e = .returned (.bool (!inB lo hi x)) ∧ w = w' := by
  by_cases h1 : x < lo
  · go_enter Try.func92, Try.ntmps92
    go_wp2
    go_ret
    exact ⟨ret_bool (by simp [inB]; omega), rfl⟩
  · have h1' : decide (x < lo) = false := by simpa using h1
    go_enter Try.func92, Try.ntmps92
    go_wp2
    go_ret
    refine ⟨ret_bool ?_, rfl⟩
    rw [Bool.eq_iff_iff]
    simp [inB]
    omega

theorem ints_at (l : List Int) (k : Nat) (hlt : k < l.length) (w : World) (B : Nat) (A : Option Addr) (c : Nat) (hr : Rd w B 1 (.slice A l.length c) l.length (ints l)) :
    ∃ b off, A = some ⟨b, off, none⟩ ∧ b < B ∧ w.cell? ⟨b, off + k, none⟩ = some (.int .i64 l[k]) := by
  obtain ⟨b, off, rfl, hb, hc⟩ := hr.at_ (by omega)
  exact ⟨b, off, rfl, hb, hc k _ (ints_get l k hlt)⟩

set_option maxHeartbeats 400000 in
theorem index_within (l : List Int) (lo hi : Int) (p q : Addr) (v : Value) (n : Nat) (w : World) (B : Nat) (hr : Rd w B 1 v n (ints l)) (hn : n ≤ 9223372036854775807)
    (hp : w.cell? p = some (.int .i64 lo)) (hq : w.cell? q = some (.int .i64 hi)) :
    Calls Try.prog 76 #[v, .func (.func 92) #[] #[.pointer (some p), .pointer (some q)]] w fun e w' => (∃ r : Int, e = .returned (.int .i64 r) ∧ decide (0 ≤ r) = !l.all (inB lo hi)) ∧ w = w' := by
  obtain ⟨A, c, rfl, hnc⟩ := hr.shape
  have hl : n = l.length := by have := hr.len; simp [ints] at this; omega
  subst hl
  go_enter Try.func76, Try.ntmps76
  go_wp2
  go_loop [5, 8] (fun _ i => ∃ k : Nat, k ≤ l.length ∧ i = .int .i64 k ∧ (l.take k).all (inB lo hi) = true) (fun _ i => l.length - (intOf i).toNat)
  case atStart => exact ⟨0, Nat.zero_le _, rfl, rfl⟩
  case round =>
    obtain ⟨k, hk, rfl, hal⟩ := hrel
    have Hal := Lib.hid hal
    clear hal
    by_cases hlt : k < l.length
    · obtain ⟨b, off, rfl, hb, hc'⟩ := ints_at l k hlt w B _ _ hr
      rcases Bool.eq_false_or_eq_true (inB lo hi l[k]) with hx | hx
      · go_wp2_with (go_at_call 92; refine (within1_any _ lo hi p q _ hp hq).mono ?_; rintro e w' ⟨rfl, rfl⟩)
        go_round
        case rel => exact ⟨k + 1, by omega, by go_num, by rw [List.take_succ_eq_append_getElem hlt, List.all_append, Hal.out]; simp [hx]⟩
        case measure => simp [intOf]; omega
      · go_wp2_with (go_at_call 92; refine (within1_any _ lo hi p q _ hp hq).mono ?_; rintro e w' ⟨rfl, rfl⟩)
        go_ret
        exact ⟨⟨_, rfl, by rw [all_false_at hlt hx]; simp⟩, rfl⟩
    · go_wp2
      go_ret
      have h := Hal.out
      rw [List.take_of_length_le (by omega)] at h
      exact ⟨⟨_, rfl, by rw [h]; rfl⟩, rfl⟩

set_option maxHeartbeats 400000 in
theorem contains_within (l : List Int) (lo hi : Int) (p q : Addr) (v : Value) (n : Nat) (w : World) (B : Nat) (hr : Rd w B 1 v n (ints l)) (hn : n ≤ 9223372036854775807)
    (hp : w.cell? p = some (.int .i64 lo)) (hq : w.cell? q = some (.int .i64 hi)) :
    Calls Try.prog 53 #[v, .func (.func 92) #[] #[.pointer (some p), .pointer (some q)]] w fun e w' => e = .returned (.bool (!l.all (inB lo hi))) ∧ w = w' := by
  go_enter Try.func53, Try.ntmps53
  go_wp2_with (go_at_call 76; refine (index_within l lo hi p q _ n _ B hr hn hp hq).mono ?_; rintro e w' ⟨⟨r, rfl, hr'⟩, rfl⟩)
  go_ret
  exact ⟨ret_bool (by simp), rfl⟩

set_option maxHeartbeats 400000 in
theorem within_any (l : List Int) (lo hi : Int) (v : Value) (n : Nat) (w : World) (B : Nat) (hr : Rd w B 1 v n (ints l)) (hB : B ≤ w.heap.size) (hn : n ≤ 9223372036854775807) :
    Calls Try.prog 72 #[.int .i64 lo, .int .i64 hi, v] w fun e w' => e = .returned (.bool (l.all (inB lo hi))) ∧ Below w.heap.size w w' := by
  go_enter Try.func72, Try.ntmps72
  go_wp2_with (go_at_call 53; refine (contains_within l lo hi ⟨w.heap.size, 0, none⟩ ⟨w.heap.size + 1, 0, none⟩ _ n _ B ((hr.alloc hB _).alloc (by simp; omega) _) hn (by go_simp) (by go_simp)).mono ?_; rintro e w' ⟨rfl, rfl⟩)
  go_ret
  exact ⟨ret_bool (by simp), ((Below.refl _ _).alloc (Nat.le_refl _) _).alloc (by simp) _⟩

theorem Rd.made_at (w : World) (g : Nat) (hg : g = w.heap.size) (e : TypeId) (size n : Nat) (cs : Array Value) (hn : cs.size = n * size) : Rd (w.alloc (.cells cs e)) (g + 1) size (.slice (some ⟨g, 0, none⟩) n n) n cs.toList := by
  subst hg
  exact Rd.made w e size n cs hn
theorem within_one (x lo hi : Int) (w : World) (g : Nat) (hg : g = w.heap.size) :
    Calls Try.prog 72 #[.int .i64 lo, .int .i64 hi, .slice (some ⟨g, 0, none⟩) 1 1] (w.alloc (.cells #[.int .i64 x] 3)) fun e w' => e = .returned (.bool (inB lo hi x)) ∧ Below w.heap.size w w' := by
  refine (within_any [x] lo hi _ 1 _ (g + 1) (Rd.made_at w g hg _ 1 1 #[.int .i64 x] rfl) (by simp [hg]) (by omega)).mono ?_
  rintro e w1 ⟨rfl, hb⟩
  exact ⟨ret_bool (by simp), ((Below.refl _ _).alloc (Nat.le_refl _) _).trans (hb.mono (by simp))⟩
theorem within_two (x y lo hi : Int) (w : World) (g : Nat) (hg : g = w.heap.size) :
    Calls Try.prog 72 #[.int .i64 lo, .int .i64 hi, .slice (some ⟨g, 0, none⟩) 2 2] (w.alloc (.cells #[.int .i64 x, .int .i64 y] 3)) fun e w' => e = .returned (.bool (inB lo hi x && inB lo hi y)) ∧ Below w.heap.size w w' := by
  refine (within_any [x, y] lo hi _ 2 _ (g + 1) (Rd.made_at w g hg _ 1 2 #[.int .i64 x, .int .i64 y] rfl) (by simp [hg]) (by omega)).mono ?_
  rintro e w1 ⟨rfl, hb⟩
  exact ⟨ret_bool (by simp), ((Below.refl _ _).alloc (Nat.le_refl _) _).trans (hb.mono (by simp))⟩

set_option maxHeartbeats 1000000 in
theorem valid1_any (b : Bd) (lo hi : Int) (p q : Addr) (w : World) (hp : w.cell? p = some (.int .i64 lo)) (hq : w.cell? q = some (.int .i64 hi)) (hpb : p.block < w.heap.size) (hqb : q.block < w.heap.size) :
    Calls Try.prog 91 #[.agg #[.int .i64 b.lo, .int .i64 b.hi], .pointer (some p), .pointer (some q)] w fun e w' => e = .returned (.bool (!bdOk lo hi b)) ∧ Below w.heap.size w w' := by
  obtain ⟨x, y⟩ := b
  have b0 : Below w.heap.size w (w.alloc (.cells #[.int .i64 x, .int .i64 y] 25)) := (Below.refl _ _).alloc (Nat.le_refl _) _
  have hp' : (w.alloc (.cells #[.int .i64 x, .int .i64 y] 25)).cell? p = some (.int .i64 lo) := (World.cell?_alloc_lt w _ p hpb).trans hp
  have hq' : (w.alloc (.cells #[.int .i64 x, .int .i64 y] 25)).cell? q = some (.int .i64 hi) := (World.cell?_alloc_lt w _ q hqb).trans hq
  by_cases h1 : y < x
  · have hf : (!bdOk lo hi ⟨x, y⟩) = true := by simp [bdOk]; omega
    have h1' : decide (y < x) = true := by simpa using h1
    rw [hf]
    clear hf
    go_enter Try.func91, Try.ntmps91
    go_wp2_with fail
    go_ret
    exact ⟨rfl, b0⟩
  · have hf : (!bdOk lo hi ⟨x, y⟩) = !(inB lo hi x && inB lo hi y) := by simp [bdOk, show x ≤ y by omega]
    have h1' : decide (y < x) = false := by simpa using h1
    rw [hf]
    clear hf
    go_enter Try.func91, Try.ntmps91
    go_wp2_with fail
    refine (within_two x y lo hi _ _ (by simp)).mono ?_
    rintro e w1 ⟨rfl, hb1⟩
    go_wp2_with fail
    go_ret
    exact ⟨ret_bool (by simp), b0.trans (hb1.mono (by simp))⟩

set_option maxHeartbeats 1000000 in
theorem index_bounds (l : List Bd) (lo hi : Int) (p q : Addr) (v : Value) (w : World) (B : Nat) (hr : Rd w B 2 v l.length (bdsC l)) (hB : B ≤ w.heap.size) (hn : l.length ≤ 1048576)
    (hp : w.cell? p = some (.int .i64 lo)) (hq : w.cell? q = some (.int .i64 hi)) (hpb : p.block < w.heap.size) (hqb : q.block < w.heap.size) :
    Calls Try.prog 98 #[v, .func (.func 91) #[] #[.pointer (some p), .pointer (some q)]] w fun e w' => (∃ r : Int, e = .returned (.int .i64 r) ∧ decide (0 ≤ r) = !l.all (bdOk lo hi)) ∧ Below w.heap.size w w' := by
  obtain ⟨A, c, rfl, hnc⟩ := hr.shape
  go_enter Try.func98, Try.ntmps98
  go_wp2
  go_loopw [5, 8] (fun _ i wr => ∃ k : Nat, k ≤ l.length ∧ i = .int .i64 k ∧ Hid ((l.take k).all (bdOk lo hi) = true) ∧ Below w.heap.size w wr) (fun _ i _ => l.length - (intOf i).toNat)
  case atStart => exact ⟨0, Nat.zero_le _, rfl, rfl, Below.refl _ _⟩
  case round =>
    obtain ⟨k, hk, rfl, Hal, hbw⟩ := hrel
    by_cases hlt : k < l.length
    · obtain ⟨b, off, rfl, hb, c0, c1⟩ := bds_cells l k hlt _ B _ _ _ (hr.below (hbw.mono hB))
      have hcall := fun W (h1 : W.cell? p = _) (h2 : W.cell? q = _) h3 h4 => valid1_any (l.getD k bd0) lo hi p q W h1 h2 h3 h4
      have htk := List.take_succ_eq_append_getElem hlt
      have hfl := fun h => all_false_at (f := bdOk lo hi) hlt h
      have ex : l.getD k bd0 = l[k] := by simp [hlt]
      rw [← ex] at htk hfl
      clear ex
      obtain ⟨x, hx⟩ : ∃ x, x = l.getD k bd0 := ⟨_, rfl⟩
      rw [← hx] at c0 c1 hcall htk hfl
      have hp' := (hbw.cell hpb).trans hp
      have hq' := (hbw.cell hqb).trans hq
      have hs := hbw.size
      have Htk := Lib.hid htk
      have Hcall := Lib.hid (hcall wr hp' hq' (by omega) (by omega))
      have Hfl := Lib.hid hfl
      clear htk hcall hx hfl hp' hq'
      rcases Bool.eq_false_or_eq_true (bdOk lo hi x) with hx | hx
      · go_wp2_with fail
        refine Hcall.out.mono ?_
        rintro e w1 ⟨rfl, hb1⟩
        rw [hx]
        go_wp2_with fail
        go_roundw
        case rel => exact ⟨k + 1, by omega, by go_num, Lib.hid (by rw [Htk.out, List.all_append, Hal.out]; simp [hx]), hbw.trans (hb1.mono hbw.size)⟩
        case measure => simp [intOf]; omega
      · go_wp2_with fail
        refine Hcall.out.mono ?_
        rintro e w1 ⟨rfl, hb1⟩
        rw [hx]
        go_wp2_with fail
        go_ret
        exact ⟨⟨_, rfl, by rw [Hfl.out hx]; simp⟩, hbw.trans (hb1.mono hbw.size)⟩
    · go_wp2_with fail
      go_ret
      have h := Hal.out
      rw [List.take_of_length_le (by omega)] at h
      exact ⟨⟨_, rfl, by rw [h]; rfl⟩, hbw⟩

set_option maxHeartbeats 1000000 in
theorem contains_bounds (l : List Bd) (lo hi : Int) (p q : Addr) (v : Value) (w : World) (B : Nat) (hr : Rd w B 2 v l.length (bdsC l)) (hB : B ≤ w.heap.size) (hn : l.length ≤ 1048576)
    (hp : w.cell? p = some (.int .i64 lo)) (hq : w.cell? q = some (.int .i64 hi)) (hpb : p.block < w.heap.size) (hqb : q.block < w.heap.size) :
    Calls Try.prog 90 #[v, .func (.func 91) #[] #[.pointer (some p), .pointer (some q)]] w fun e w' => e = .returned (.bool (!l.all (bdOk lo hi))) ∧ Below w.heap.size w w' := by
  go_enter Try.func90, Try.ntmps90
  go_wp2_with (go_at_call 98; refine (index_bounds l lo hi p q _ _ B hr hB hn hp hq hpb hqb).mono ?_; rintro e w' ⟨⟨r, rfl, hr'⟩, hb⟩)
  go_ret
  exact ⟨ret_bool (by simp), hb⟩

set_option maxHeartbeats 1000000 in
theorem isValid_any (l : List Bd) (lo hi : Int) (v : Value) (w : World) (B : Nat) (hr : Rd w B 2 v l.length (bdsC l)) (hB : B ≤ w.heap.size) (hn : l.length ≤ 1048576) :
    Calls Try.prog 69 #[.int .i64 lo, .int .i64 hi, v] w fun e w' => e = .returned (.bool (l.all (bdOk lo hi))) ∧ Below w.heap.size w w' := by
  go_enter Try.func69, Try.ntmps69
  go_wp2_with (go_at_call 90; refine (contains_bounds l lo hi ⟨w.heap.size, 0, none⟩ ⟨w.heap.size + 1, 0, none⟩ _ _ B ((hr.alloc hB _).alloc (by simp; omega) _) (by simp; omega) hn (by go_simp) (by go_simp) (by simp; omega) (by simp)).mono ?_; rintro e w' ⟨rfl, hb⟩)
  go_ret
  exact ⟨ret_bool (by simp), (((Below.refl _ _).alloc (Nat.le_refl _) _).alloc (by simp) _).trans (hb.mono (by simp; omega))⟩
theorem isValid_one (b : Bd) (lo hi : Int) (w : World) (g : Nat) (hg : g = w.heap.size) :
    Calls Try.prog 69 #[.int .i64 lo, .int .i64 hi, .slice (some ⟨g, 0, none⟩) 1 1] (w.alloc (.cells #[.int .i64 b.lo, .int .i64 b.hi] 25)) fun e w' => e = .returned (.bool (bdOk lo hi b)) ∧ Below w.heap.size w w' := by
  refine (isValid_any [b] lo hi _ _ (g + 1) (Rd.made_at w g hg _ 2 1 #[.int .i64 b.lo, .int .i64 b.hi] rfl) (by simp [hg]) (by simp)).mono ?_
  rintro e w1 ⟨rfl, hb⟩
  exact ⟨ret_bool (by simp), ((Below.refl _ _).alloc (Nat.le_refl _) _).trans (hb.mono (by simp))⟩

theorem rValid_eq (b : Bd) (lo hi : Int) : bdOk lo hi b = (inB lo hi b.lo && inB b.lo hi b.hi) := by
  rw [Bool.eq_iff_iff]
  simp only [bdOk_iff, Bool.and_eq_true, inB_iff]
  omega
theorem quo_bd (n k : Int) (hk : 1 ≤ k) (h1 : -9223372036854775807 ≤ n) (h2 : n ≤ 9223372036854775807) : -9223372036854775807 ≤ n.tdiv k ∧ n.tdiv k ≤ 9223372036854775807 ∧ (n.tmod k < 0 → -9223372036854775806 ≤ n.tdiv k) := by
  have h3 := Int.tmod_add_mul_tdiv n k
  rcases Int.lt_or_le n 0 with hn | hn
  · have e1 : (-n).tdiv k = -(n.tdiv k) := Int.neg_tdiv _ _
    have a := Int.tdiv_nonneg (a := -n) (b := k) (by omega) (by omega)
    have b : (-n).tdiv k ≤ -n := Int.tdiv_le_self _ (by omega)
    refine ⟨by omega, by omega, fun hm => ?_⟩
    rcases Int.lt_or_eq_of_le hk with hk2 | hk1
    · have := Int.mul_le_mul_of_nonneg_right (show 2 ≤ k by omega) a
      rw [e1, Int.mul_neg k] at this
      omega
    · subst hk1
      simp at hm
  · have a := Int.tdiv_nonneg (a := n) (b := k) hn (by omega)
    have b : n.tdiv k ≤ n := Int.tdiv_le_self _ hn
    refine ⟨by omega, by omega, fun hm => ?_⟩
    rw [Int.tmod_eq_emod_of_nonneg hn] at hm
    have := Int.emod_nonneg n (show k ≠ 0 by omega)
    omega
set_option maxHeartbeats 1000000 in
theorem down_any (n k : Int) (w : World) (hk : 1 ≤ k) (hk2 : k ≤ 9223372036854775807) (h1 : -9223372036854775807 ≤ n) (h2 : n ≤ 9223372036854775807) :
    Calls Try.prog 100 #[.int .i64 n, .int .i64 k] w fun e w' => e = .returned (.int .i64 (floorD n k)) ∧ Below w.heap.size w w' := by
  rw [← downD_eq (show 0 < k by omega)]
  have hq : -9223372036854775807 ≤ n.tdiv k ∧ n.tdiv k ≤ 9223372036854775807 ∧ (n.tmod k < 0 → -9223372036854775806 ≤ n.tdiv k) := quo_bd n k hk h1 h2
  obtain ⟨q1, q2, q3⟩ := hq
  have hz : (k == 0) = false := by simp; omega
  have w1 : IntKind.i64.wrap (n.tdiv k) = n.tdiv k := IntWalk.i64_in _ ⟨by omega, by omega⟩
  by_cases hm : n.tmod k < 0
  · have hm' : decide (n.tmod k < 0) = true := by simpa using hm
    have q4 := q3 hm
    rw [downD, if_pos hm]
    go_enter Try.func100, Try.ntmps100
    go_wp2_with fail
    go_quiet (fail)
    go_wp2_with fail
    go_ret
    exact ⟨ret_int (by first | rfl | (unfold wrap64; omega)), below_drewN (Below.refl _ _) _⟩
  · have hm' : decide (n.tmod k < 0) = false := by simpa using hm
    rw [downD, if_neg hm]
    go_enter Try.func100, Try.ntmps100
    go_wp2_with fail
    go_quiet (fail)
    go_wp2_with fail
    go_ret
    exact ⟨rfl, below_drewN (Below.refl _ _) _⟩
end Go.Proofs.Ytfgfenmaommclaa
