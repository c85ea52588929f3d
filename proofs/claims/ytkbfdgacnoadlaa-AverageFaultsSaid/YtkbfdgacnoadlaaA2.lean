/- The splitting functions: next, split, Split of the program; MulDiv, Split, Splits of the reference: what each returns. -/
import Derived.Test.YtkbfdgacnoadlaaA1
import Derived.Test.YtkbfdgacnoadlaaBase2
import Derived.Test.YtkbfdgacnoadlaaDiv
namespace Go.Proofs.Ytkbfdgacnoadlaa
open Go.RowKit

theorem div_any (hi lo y : Int) (w : World) (h0 : 0 ≤ hi) (h1 : hi < y) (h2 : y ≤ 18446744073709551615) (h3 : 0 ≤ lo) (h4 : lo ≤ 18446744073709551615) :
    Calls Try.prog 62 #[.int .u64 hi, .int .u64 lo, .int .u64 y] w fun e w' => (∃ r : Int, e = .returned (.tuple #[.int .u64 ((hi * 18446744073709551616 + lo) / y), .int .u64 r])) ∧ Below w.heap.size w w' := by
  rcases (by omega : hi = 0 ∨ 1 ≤ hi) with rfl | h
  · refine (div_small lo y w (by omega) h2 h3 h4).mono ?_
    rintro e w' ⟨rfl, hb⟩
    exact ⟨⟨_, by rw [show 0 * 18446744073709551616 + lo = lo by omega]⟩, hb⟩
  · refine (div_big hi lo y w h h1 h2 h3 h4).mono ?_
    rintro e w' ⟨rfl, hb⟩
    exact ⟨⟨_, rfl⟩, hb⟩

theorem mul_any (x y : Int) (w : World) (h0 : 0 ≤ x) (h1 : x ≤ 18446744073709551615) (h2 : 0 ≤ y) (h3 : y ≤ 18446744073709551615) :
    Calls Try.prog 61 #[.int .u64 x, .int .u64 y] w fun e w' => e = .returned (.tuple #[.int .u64 (x * y / 18446744073709551616), .int .u64 (x * y % 18446744073709551616)]) ∧ w' = w := by
  obtain ⟨a, rfl⟩ := Int.eq_ofNat_of_zero_le h0
  obtain ⟨b, rfl⟩ := Int.eq_ofNat_of_zero_le h2
  refine (Try.bits_Mul64 a b (by omega) (by omega) w).mono ?_
  rintro e w' ⟨rfl, rfl⟩
  exact ⟨by rw [Int.natCast_ediv, Int.natCast_emod, Int.natCast_mul]; rfl, rfl⟩

/-- the parts of n that the weights up to one have -/
def upto (n all before : Int) : Int := n * before / all

theorem upto_le {n all b : Int} (hn : 0 ≤ n) (hb0 : 0 ≤ b) (hb : b ≤ all) (ha : 1 ≤ all) : 0 ≤ upto n all b ∧ upto n all b ≤ n := by
  unfold upto
  refine ⟨Int.ediv_nonneg (Int.mul_nonneg hn hb0) (by omega), ?_⟩
  have h1 : n * b ≤ n * all := mul_le_r hn hb
  have h2 := Int.ediv_le_ediv (c := all) (by omega) h1
  rwa [Int.mul_ediv_cancel _ (by omega)] at h2
theorem upto_mono {n all b c : Int} (hn : 0 ≤ n) (hb : b ≤ c) (ha : 1 ≤ all) : upto n all b ≤ upto n all c :=
  Int.ediv_le_ediv (by omega) (mul_le_r hn hb)

set_option maxHeartbeats 1000000 in
set_option maxRecDepth 100000 in
theorem next_any (n all bf wt : Int) (g : Nat) (w : World) (hb : Blk w g 121 #[.int .u64 n, .int .u64 all, .int .u64 bf, .int .u64 (upto n all bf)])
    (hn : 0 ≤ n) (hn2 : n ≤ 9223372036854775807) (ha : 1 ≤ all) (ha2 : all ≤ 9223372036854775807) (hb0 : 0 ≤ bf) (hw : 0 ≤ wt) (hbw : bf + wt ≤ all) :
    Calls Try.prog 57 #[.pointer (some ⟨g, 0, none⟩), .int .i64 wt] w fun e w' =>
      e = .returned (.int .i64 (upto n all (bf + wt) - upto n all bf)) ∧ Blk w' g 121 #[.int .u64 n, .int .u64 all, .int .u64 (bf + wt), .int .u64 (upto n all (bf + wt))] ∧ w.grownBy w' (some g) := by
  obtain ⟨u1, u2⟩ := upto_le hn hb0 (by omega : bf ≤ all) ha
  obtain ⟨u3, u4⟩ := upto_le hn (by omega : 0 ≤ bf + wt) hbw ha
  have u5 := upto_mono hn (by omega : bf ≤ bf + wt) ha
  have m0 := Int.mul_nonneg hn (by omega : 0 ≤ bf + wt)
  have m1 : n * (bf + wt) ≤ 9223372036854775807 * (bf + wt) := mul_le_l (by omega) hn2
  have m2 : n * (bf + wt) / 18446744073709551616 < all := by omega
  have m3 : 0 ≤ n * (bf + wt) / 18446744073709551616 := by omega
  have m4 : 0 ≤ n * (bf + wt) % 18446744073709551616 := by omega
  have m5 : n * (bf + wt) % 18446744073709551616 ≤ 18446744073709551615 := by omega
  have hq : (n * (bf + wt) / 18446744073709551616 * 18446744073709551616 + n * (bf + wt) % 18446744073709551616) / all = upto n all (bf + wt) := by
    unfold upto
    congr 1
    omega
  have Hq := Lib.hid hq
  clear hq m1
  obtain ⟨p, ep⟩ : ∃ p : Int, p = n * (bf + wt) / 18446744073709551616 := ⟨_, rfl⟩
  obtain ⟨q, eq⟩ : ∃ q : Int, q = n * (bf + wt) % 18446744073709551616 := ⟨_, rfl⟩
  have hmul : ∀ W : World, Calls Try.prog 61 #[.int .u64 n, .int .u64 (bf + wt)] W fun e w' => e = .returned (.tuple #[.int .u64 p, .int .u64 q]) ∧ w' = W := by
    intro W
    rw [ep, eq]
    exact mul_any _ _ W hn (by omega) (by omega) (by omega)
  have hdiv : ∀ W : World, Calls Try.prog 62 #[.int .u64 p, .int .u64 q, .int .u64 all] W fun e w' => (∃ r : Int, e = .returned (.tuple #[.int .u64 (upto n all (bf + wt)), .int .u64 r])) ∧ Below W.heap.size W w' := by
    intro W
    rw [← Hq.out, ← ep, ← eq]
    exact div_any _ _ _ W (by omega) (by omega) (by omega) (by omega) (by omega)
  have Hmul := Lib.hid hmul
  have Hdiv := Lib.hid hdiv
  clear hmul hdiv ep eq Hq m0 m2 m3 m4 m5
  obtain ⟨U, eU⟩ : ∃ U : Int, U = upto n all (bf + wt) := ⟨_, rfl⟩
  obtain ⟨V, eV⟩ : ∃ V : Int, V = upto n all bf := ⟨_, rfl⟩
  rw [← eU, ← eV] at u5
  rw [← eU] at u3 u4 Hdiv ⊢
  rw [← eV] at u1 u2 hb ⊢
  clear eU eV
  have c0 := hb.cell 0
  have c1 := hb.cell 1
  have c2 := hb.cell 2
  have c3 := hb.cell 3
  have z0 := hb.frozen 2
  have z1 := hb.frozen 3
  simp only [List.getElem?_toArray, List.getElem?_cons_zero, List.getElem?_cons_succ] at c0 c1 c2 c3
  go_enter Try.func57, Try.ntmps57
  go_upto_region 2 with (fail)
  have hb1 := hb.set_ 2 (.int .u64 (bf + wt))
  simp only [List.setIfInBounds_toArray, List.set_cons_zero, List.set_cons_succ] at hb1
  have hg1 := grown_set w g 2 (.int .u64 (bf + wt))
  generalize hW1 : w.setCell ⟨g, 2, none⟩ (.int .u64 (bf + wt)) = W1 at hb1 hg1 ⊢
  clear hW1 c0 c1 c2 c3 z0 z1
  have c0 := hb1.cell 0
  have c1 := hb1.cell 1
  have c2 := hb1.cell 2
  have c3 := hb1.cell 3
  have z1 := hb1.frozen 3
  simp only [List.getElem?_toArray, List.getElem?_cons_zero, List.getElem?_cons_succ] at c0 c1 c2 c3
  go_quiet ((go_at_call 61; exact Calls.quiet_of_same (Hmul.out _)))
  go_wp2_with fail
  refine (Hdiv.out _).mono ?_
  rintro e w2 ⟨⟨r, rfl⟩, hb2⟩
  have hb3 := (hb1.drewN _).below hb2 hb1.lt
  have hg2 := grown_below (grown_drewN hg1 _) hb2
  clear c0 c1 c2 c3 z1 hb2 hb1 hg1
  have c3 := hb3.cell 3
  have z3 := hb3.frozen 3
  simp only [List.getElem?_toArray, List.getElem?_cons_zero, List.getElem?_cons_succ] at c3
  go_wp2
  go_ret
  refine ⟨rfl, ?_, hg2.trans (grown_set _ _ _ _)⟩
  have := hb3.set_ 3 (.int .u64 U)
  simpa using this

/-- the first shares of n by some weights -/
def shareTo (n all : Int) (l : List Int) (k : Nat) : List Int := (List.range k).map fun i => upto n all (l.take (i + 1)).sum - upto n all (l.take i).sum
/-- the shares of n -/
def splitL (n : Int) (l : List Int) : List Int := shareTo n l.sum l l.length
theorem shareTo_succ (n all : Int) (l : List Int) (k : Nat) : shareTo n all l (k + 1) = shareTo n all l k ++ [upto n all (l.take (k + 1)).sum - upto n all (l.take k).sum] := by
  simp [shareTo, List.range_succ]
theorem upto_zero (n all : Int) : upto n all 0 = 0 := by simp [upto]

theorem ints_snoc (l : List Int) (x : Int) : ints l ++ #[Value.int .i64 x].toList = ints (l ++ [x]) := by simp [ints]

set_option maxHeartbeats 1000000 in
set_option maxRecDepth 100000 in
theorem split_any (n : Int) (l : List Int) (v : Value) (w : World) (B : Nat) (hr : Rd w B 1 v l.length (ints l)) (hB : B ≤ w.heap.size) (hlen : l.length ≤ 1048576)
    (hn : 0 ≤ n) (hn2 : n ≤ 9223372036854775807) (hpos : ∀ x ∈ l, 0 ≤ x) (hs : l.length ≠ 0 → 1 ≤ l.sum) (hs2 : l.sum ≤ 9223372036854775807) :
    Calls Try.prog 44 #[.int .i64 n, v] w fun e w' => ∃ v', e = .returned v' ∧ w'.ownsRow w.heap.size 3 1 v' l.length (ints (splitL n l)) ∧ Below w.heap.size w w' := by
  obtain ⟨A, c, rfl, hnc⟩ := hr.shape
  have s0 := sum_nonneg hpos
  have hsum : wrap64 l.sum = l.sum := IntWalk.wrap64_in _ ⟨by omega, hs2⟩
  have Hs := Lib.hid hs
  clear hs
  go_enter Try.func44, Try.ntmps44
  go_wp2_with (go_at_call 43; refine (sum_any l _ l.length _ B hr (by omega)).mono ?_; rintro e w' ⟨rfl, rfl⟩)
  go_loopw [4, 8, 20] (fun v _ i wr => ∃ k : Nat, k ≤ l.length ∧ i = .int .i64 k ∧ wr.ownsRow (w.heap.size + 1) 3 1 v k (ints (shareTo n l.sum l k)) ∧
      Blk wr w.heap.size 121 #[.int .u64 n, .int .u64 l.sum, .int .u64 (l.take k).sum, .int .u64 (upto n l.sum (l.take k).sum)] ∧ Below w.heap.size w wr) (fun _ _ i _ => l.length - (intOf i).toNat)
  case atStart =>
    refine ⟨0, Nat.zero_le _, rfl, own_nil _ _ _ _, ?_, (Below.refl _ _).alloc (Nat.le_refl _) _⟩
    simp only [List.take_zero, List.sum_nil, upto_zero]
    exact Blk.new _ _ _
  case round =>
    obtain ⟨k, hk, rfl, hown, hblk, hbw⟩ := hrel
    by_cases hlt : k < l.length
    · obtain ⟨b, off, rfl, hb, hc⟩ := ints_at l k hlt _ B _ _ (hr.below (hbw.mono hB))
      have h1 := Hs.out (by omega)
      obtain ⟨t0, t1⟩ := take_sum hpos (k + 1)
      obtain ⟨t2, t3⟩ := take_sum hpos k
      have hx := hpos _ (List.getElem_mem hlt)
      have htk := take_sum_succ hlt
      have Htk := Lib.hid htk
      rw [htk] at t0 t1
      clear htk
      go_wp2_with fail
      refine (next_any n l.sum (l.take k).sum l[k] _ _ hblk hn hn2 h1 hs2 t2 hx t1).mono ?_
      rintro e w1 ⟨rfl, hblk1, hg1⟩
      have hown1 := own_far hown hg1 (by omega)
      have hbw1 := hbw.grown hg1 hbw.size (fun k hk => by injection hk with hk; omega)
      have hsz : w.heap.size + 1 ≤ w1.heap.size := by have := hblk1.lt; omega
      go_wp2_with (at_builtin; refine wpList_push int_elem rfl (.tmp 24) (.tmp 28) rfl rfl hown1 _ rfl rfl (by simp [Value.oneCell']) (by simp only [maxLen]; omega) (by omega) (by omega) ?_; intro v2 w2 hown2 hg2 _)
      go_roundw
      case rel =>
        refine ⟨k + 1, by omega, by go_num, ?_, ?_, Below.push hbw1 hown1 hg2 (by omega) (by omega)⟩
        · rw [shareTo_succ, ← ints_snoc, Htk.out]
          exact hown2
        · rw [Htk.out]
          exact hblk1.push hown1 hg2 (by omega)
      case measure => simp [intOf]; omega
    · go_wp2
      go_ret
      obtain rfl : k = l.length := by omega
      exact ⟨_, rfl, own_less hown (by omega), hbw⟩
end Go.Proofs.Ytkbfdgacnoadlaa
