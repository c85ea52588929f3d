/- Law AverageShares, its walk. -/
import Derived.Test.YtkbfdgacnoadlaaA17
import Derived.Test.YtkbfdgacnoadlaaShMath
import Derived.Test.YtkbfdgacnoadlaaOrd
namespace Go.Proofs.Ytkbfdgacnoadlaa
open Go.RowKit

theorem apart_old {w : World} {base e size n g a b : Nat} {v : Value} {xs : List Value} (h : w.ownsRow base e size v n xs) (hg : g < base) : Apart v (.slice (some ⟨g, 0, none⟩) a b) := fun k h1 h2 => by
  have h3 := (h.lt k h1).1
  simp [Value.ownBlock] at h2
  omega
theorem rd_rest0 {w : World} {base n : Nat} {e : TypeId} {u : Value} {l : List Int} {A : Option Addr} {c : Nat} (h : w.ownsRow base e 1 u n (ints l)) (q : Nat) (hq : n ≤ q) : Rd w w.heap.size 1 (.slice A (n - q) c) (n - q) (ints (l.drop q)) := by
  have hl : n = l.length := by have := h.1; simp [ints] at this; omega
  exact ⟨by rw [ints_len, List.length_drop, hl, Nat.mul_one], _, _, rfl, by omega, fun h => absurd h (by omega)⟩
theorem rd_zero (w : World) {A : Option Addr} {c : Nat} : Rd w w.heap.size 1 (.slice A 0 c) 0 (ints []) := ⟨by simp [ints], _, _, rfl, Nat.zero_le _, fun h => absurd h (by omega)⟩
theorem own_fix0 {w : World} {base a m : Nat} {e : TypeId} {v : Value} {X : List Value} {l : List Int} (h : w.ownsRow base e 1 v (a + 0) (X ++ ints [])) (hc : l.length ≤ m) : w.ownsRow base e 1 v (a + (l.length - m)) (X ++ ints (l.drop m)) := by
  rw [Nat.sub_eq_zero_of_le hc, List.drop_of_length_le hc]
  exact h
theorem apart_lt {w wr : World} {e size n b2 e2 s2 m : Nat} {v u : Value} {xs ys : List Value} (h : w.ownsRow wr.heap.size e size v n xs) (hu : wr.ownsRow b2 e2 s2 u m ys) : Apart v u := fun g h1 h2 => by
  have h3 := (h.lt g h1).1
  have h4 := (hu.lt g h2).2
  omega
theorem own_ne_old {w : World} {base e size n g : Nat} {v : Value} {xs : List Value} (h : w.ownsRow base e size v n xs) (hg : g < base) : v.ownBlock ≠ some g := fun e => by
  have := (h.lt g e).1
  omega
theorem ints_from {wr W : World} (hW : Below wr.heap.size wr W) {base n g cap : Nat} {l : List Int} (hlw : wr.ownsRow base 3 1 (.slice (some ⟨g, 0, none⟩) n cap) n (ints l)) (q : Nat) (hq : q ≤ n) (hq2 : q ≤ 1048576) :
    Calls Try.prog 17 #[.slice (some ⟨g, 0, none⟩) q cap] W fun e w' => ∃ v', e = .returned v' ∧ w'.ownsRow wr.heap.size 3 1 v' q (ints (l.take q)) ∧ Below wr.heap.size wr w' := by
  refine (ints_any (l.take q) _ q W wr.heap.size ((rd_cut hlw q hq).below hW) hW.size hq2).mono ?_
  rintro e w' ⟨v', rfl, ho, hb⟩
  exact ⟨v', rfl, own_less ho hW.size, hW.trans (hb.mono hW.size)⟩
theorem ints_blk {wr : World} {base n g cap : Nat} {l : List Int} (hlw : wr.ownsRow base 3 1 (.slice (some ⟨g, 0, none⟩) n cap) n (ints l)) (q : Nat) (hq : q ≤ n) (hq2 : q ≤ 1048576) (x : Int) :
    Calls Try.prog 17 #[.slice (some ⟨g, 0, none⟩) q cap] ((wr.alloc (.cells #[.int .i64 x] 3)).drew) fun e w' => ∃ v', e = .returned v' ∧ w'.ownsRow wr.heap.size 3 1 v' q (ints (l.take q)) ∧ Below wr.heap.size wr w' ∧ Blk w' wr.heap.size 3 #[.int .i64 x] := by
  have hW : Below wr.heap.size wr ((wr.alloc (.cells #[.int .i64 x] 3)).drew) := ((Below.refl _ _).alloc (Nat.le_refl _) _).drew
  refine (ints_any (l.take q) _ q _ wr.heap.size ((rd_cut hlw q hq).below hW) hW.size hq2).mono ?_
  rintro e w' ⟨v', rfl, ho, hb⟩
  exact ⟨v', rfl, own_less ho hW.size, hW.trans (hb.mono hW.size), ((Blk.new wr 3 #[.int .i64 x]).drew).below hb ((Blk.new wr 3 #[.int .i64 x]).drew).lt⟩
theorem size_alloc_le {w : World} {n : Nat} {o : Obj} (h : n ≤ w.heap.size) : n ≤ (w.alloc o).heap.size := by
  simp
  omega
def u16s (l : List Int) : List Value := l.map (Value.int .u16)

set_option maxHeartbeats 8000000 in
set_option maxRecDepth 100000 in
theorem shares_law (n z : Int) (l : List Int) (v : Value) (w : World) (B : Nat) (hr : Rd w B 1 v l.length (u16s l)) (hB : B ≤ w.heap.size) (hn0 : 0 ≤ n) (hn1 : n ≤ 4294967295) (hz0 : 0 ≤ z) (hz1 : z ≤ 255) (hl : ∀ x ∈ l, 0 ≤ x ∧ x ≤ 65535) :
    Calls Try.prog 10 #[.int .u32 n, v, .int .u8 z] w fun e w' => e = .returned (.bool true) ∧ Below w.heap.size w w' := by
  obtain ⟨A, c, rfl, hnc⟩ := hr.shape
  by_cases h2 : l.length < 2
  · have h2' : decide ((l.length : Int) < 2) = true := by simp; omega
    go_enter Try.func10, Try.ntmps10
    go_wp2_with fail
    refine (known_any _).mono ?_
    rintro e w1 ⟨rfl, hb⟩
    go_wp2_with fail
    go_ret
    exact ⟨rfl, hb⟩
  have h2' : decide ((l.length : Int) < 2) = false := by simp; omega
  by_cases h60 : 60 < l.length
  · have h60' : decide (60 < (l.length : Int)) = true := by simp; omega
    go_enter Try.func10, Try.ntmps10
    go_wp2_with fail
    refine (known_any _).mono ?_
    rintro e w1 ⟨rfl, hb⟩
    go_wp2_with fail
    go_ret
    exact ⟨rfl, hb⟩
  have h60' : decide (60 < (l.length : Int)) = false := by simp; omega
  have hlpos : ∀ x ∈ l, 0 ≤ x := fun x hx => (hl x hx).1
  have hsum0 := sum_nonneg hlpos
  have hsum1 := sum_le fun x hx => (hl x hx).2
  have HL := Lib.hid hl
  have HP := Lib.hid hlpos
  have ho0 := own_new w w.heap.size 3 1 0 #[] (Nat.le_refl _) rfl (Nat.zero_le _)
  have hb0 : Below w.heap.size w (w.alloc (.cells #[] 3)) := (Below.refl _ _).alloc (Nat.le_refl _) _
  clear hl hlpos
  go_enter Try.func10, Try.ntmps10
  go_wp2_with fail
  go_loopw [7, 8, 9] (fun u s i wr => ∃ k : Nat, k ≤ l.length ∧ i = .int .i64 k ∧ s = .int .i64 (l.take k).sum ∧ wr.ownsRow w.heap.size 3 1 u k (ints (l.take k)) ∧ Below w.heap.size w wr) (fun _ _ i _ => l.length - (intOf i).toNat)
  case atStart => exact ⟨0, Nat.zero_le _, rfl, rfl, ho0, hb0⟩
  case round =>
    clear ho0 hb0
    obtain ⟨k, hk, rfl, rfl, hown, hbw⟩ := hrel
    have hsz := hbw.size
    by_cases hlt : k < l.length
    · obtain ⟨b, off, rfl, hbB, hc⟩ := (hr.below (hbw.mono hB)).at_ (by omega)
      have c0 := hc k (.int .u16 l[k]) (by simp [u16s, hlt])
      have htk := List.take_succ_eq_append_getElem hlt
      have hts := take_sum_succ hlt
      obtain ⟨t0, t1⟩ := take_sum HP.out k
      obtain ⟨x0, x1⟩ := HL.out l[k] (List.getElem_mem hlt)
      obtain ⟨x, hx⟩ : ∃ x, x = l[k] := ⟨_, rfl⟩
      rw [← hx] at c0 htk hts x0 x1
      have Htk := Lib.hid htk
      have Hts := Lib.hid hts
      clear hx htk hts hc
      have i0 : (0 : Int) ≤ (k : Int) := Int.natCast_nonneg _
      have i1 : (k : Int) < (l.length : Int) := by omega
      have i3 : IntKind.i64.wrap ((l.take k).sum + x) = (l.take k).sum + x := IntWalk.i64_in _ ⟨by omega, by omega⟩
      have i4 : IntKind.i64.wrap x = x := IntWalk.i64_in _ ⟨by omega, by omega⟩
      go_wp2_with fail
      go_region_held3 (fun w' => w'.cell? ⟨b, off + k, none⟩ = some (.int .u16 x))
        (first
          | go_keep
          | exact push_cell ((hown.alloc _).drew) hgrow (by assumption) (by omega) (by simp; omega))
        ((refine step_push_blk int_elem (by rfl) (.tmp 33) (.tmp 39) (by rfl) (by rfl) wr.heap.size #[.int .i64 x] (by rfl) ((hown.alloc _).drew) (Blk.new wr _ _).drew (by rfl) (by simp [Value.oneCell']) (by simp only [maxLen]; omega) (by omega) (by simp; omega) ?_; intro v1 w6 hown1 hgrow hat))
      have hb6 := Below.push2 ((hbw.alloc hsz (.cells #[.int .i64 x] 3)).drew) ((hown.alloc (.cells #[.int .i64 x] 3)).drew) hgrow (Nat.le_refl _) (by simp; omega)
      go_wp2_with fail
      go_roundw
      case rel =>
        refine ⟨k + 1, by omega, by go_num, by rw [Hts.out], ?_, hb6⟩
        rw [Htk.out, ← ints_snoc]
        exact hown1
      case measure => simp [intOf]; omega
    · have hkl : k = l.length := by omega
      subst hkl
      rw [List.take_length] at hown ⊢
      obtain ⟨wo, rfl⟩ : ∃ wo : World, wo = wr := ⟨_, rfl⟩
      have hro := Rd.of_own hown
      obtain ⟨A1, k1, rfl, hn1'⟩ := hro.shape
      clear h2' h60' hr hk hlt hnc
      go_wp2_with fail
      refine (ints_any l _ l.length _ _ hro (Nat.le_refl _) (by omega)).mono ?_
      rintro e w2 ⟨v2, rfl, ho2, hb2⟩
      have hr2 := Rd.of_own ho2
      obtain ⟨A2, k2, rfl, hn2⟩ := hr2.shape
      have hsp := psplit_any n l _ w2 _ hr2 (Nat.le_refl _) (by omega)
      have hse := split_err (n := n) (l := l) (by omega) hn0 (by omega) (fun x hx => by have := HL.out x hx; omega)
      have hown2 := own_below hown hb2 (Nat.le_refl _)
      have b2 := hbw.trans (hb2.mono hsz)
      clear ho2 hr2 hb2 hro hbw hown
      by_cases hs : l.sum = 0
      · rw [hse, if_pos hs, show splitSpec n l = [] by simp [splitSpec, hse, hs]] at hsp
        have Hsp := Lib.hid hsp
        rw [hs]
        clear hsp hse hs
        go_wp2_with fail
        refine Hsp.out.mono ?_
        rintro e w3 ⟨v3, rfl, ho3, hb3⟩
        have hr3 := Rd.of_own ho3
        obtain ⟨A3, k3, rfl, hn3⟩ := hr3.shape
        have b3 := b2.trans (hb3.mono b2.size)
        go_wp2_with fail
        refine (known_any _).mono ?_
        rintro e w4 ⟨rfl, hb4⟩
        go_wp2_with fail
        go_ret
        exact ⟨rfl, b3.trans (hb4.mono b3.size)⟩
      · rw [hse, if_neg hs, show splitSpec n l = splitL n l by simp [splitSpec, hse, hs]] at hsp
        have hs1 : 1 ≤ l.sum := by omega
        have hs' : (l.sum == 0) = false := by simpa using hs
        have hok := fun (i : Nat) (h : i < l.length) => sh_ok (n := n) hn0 HP.out hs1 h
        have hfin : sumTo (at0 (splitL n l)) l.length = n := by
          have := at0_sum (splitL n l)
          rw [splitL_length, splitL_sum hs1] at this
          exact this
        have hjoin := fun (q : Nat) (h : q + 1 < l.length) => join_share (n := n) (l := l) h
        have hSl : (splitL n l).length = l.length := splitL_length n l
        rw [hSl] at hsp
        obtain ⟨S, eS⟩ : ∃ S, S = splitL n l := ⟨_, rfl⟩
        rw [← eS] at hsp hok hfin hjoin hSl
        have Hsp := Lib.hid hsp
        have Hok := Lib.hid hok
        have Hfin := Lib.hid hfin
        have Hjoin := Lib.hid hjoin
        have HSl := Lib.hid hSl
        clear hsp hok hfin hjoin hSl hse hs eS
        go_wp2_with fail
        refine Hsp.out.mono ?_
        rintro e w3 ⟨v3, rfl, ho3, hb3⟩
        have hl3 := own_below hown2 hb3 (Nat.le_refl _)
        have hr3 := Rd.of_own ho3
        have hrl := Rd.of_own hl3
        obtain ⟨A3, k3, rfl, hn3⟩ := hr3.shape
        have b3 := b2.trans (hb3.mono b2.size)
        clear hown2 b2 hb3 Hsp
        go_wp2_with fail
        go_loopw [12, 13] (fun s i wr => ∃ k : Nat, k ≤ l.length ∧ i = .int .i64 k ∧ s = .int .i64 (sumTo (at0 S) k) ∧ Below w3.heap.size w3 wr) (fun _ i _ => l.length - (intOf i).toNat)
        case atStart => exact ⟨0, Nat.zero_le _, rfl, rfl, Below.refl _ _⟩
        case round =>
          obtain ⟨k, hk, rfl, rfl, hbw⟩ := hrel
          by_cases hlt : k < l.length
          · obtain ⟨b, off, rfl, hbB, c0⟩ := ints_cell S k (by rw [HSl.out]; exact hlt) _ _ _ _ _ (hr3.below hbw)
            obtain ⟨b', off', rfl, hbB', d0⟩ := ints_cell l k hlt _ _ _ _ _ (hrl.below hbw)
            obtain ⟨s0, s1, n1, n2, zz⟩ := Hok.out k hlt
            rw [at0_get hlt] at n1 n2 zz
            obtain ⟨x0, x1⟩ := at0_nonneg HL.out (by omega) k
            have u0 := sumTo_nonneg (f := at0 S) (k := k) fun i hi => (Hok.out i (by omega)).s0
            have u1 := sumTo_bd (f := at0 S) (m := n) (k := k) fun i hi => (Hok.out i (by omega)).s1
            have u2 : (k : Int) * n ≤ 60 * 4294967295 := (prod_bd (x := (k : Int)) (y := n) (a := 60) (b := 4294967295) ⟨by omega, by omega⟩ ⟨hn0, hn1⟩).2
            have hsn : sumTo (at0 S) (k + 1) = sumTo (at0 S) k + at0 S k := rfl
            obtain ⟨x, ex⟩ : ∃ x, x = at0 l k := ⟨_, rfl⟩
            obtain ⟨s, es⟩ : ∃ s, s = at0 S k := ⟨_, rfl⟩
            obtain ⟨U, eU⟩ : ∃ U, U = sumTo (at0 S) k := ⟨_, rfl⟩
            rw [← ex] at d0 n1 n2 zz x0 x1
            rw [← es] at c0 s0 s1 n1 n2 zz hsn
            rw [← eU] at u0 u1 hsn ⊢
            have Hsn := Lib.hid hsn
            clear hsn ex es eU
            obtain ⟨m0, m1⟩ := prod_bd (x := s) (y := l.sum) (a := 4294967295) (b := 3932100) ⟨s0, by omega⟩ ⟨by omega, by omega⟩
            obtain ⟨m2, m3⟩ := prod_bd (x := n) (y := x) (a := 4294967295) (b := 65535) ⟨hn0, hn1⟩ ⟨x0, x1⟩
            have i0 : (0 : Int) ≤ (k : Int) := Int.natCast_nonneg _
            have i1 : (k : Int) < (l.length : Int) := by omega
            have i4 : IntKind.i64.wrap n = n := IntWalk.i64_in _ ⟨by omega, by omega⟩
            have i9 : IntKind.i64.wrap (U + s) = U + s := IntWalk.i64_in _ ⟨by omega, by omega⟩
            have i5 : IntKind.i64.wrap (s * l.sum) = s * l.sum := IntWalk.i64_in _ ⟨by omega, by omega⟩
            have i6 : IntKind.i64.wrap (n * x) = n * x := IntWalk.i64_in _ ⟨by omega, by omega⟩
            have i7 : IntKind.i64.wrap (s * l.sum - n * x) = s * l.sum - n * x := IntWalk.i64_in _ ⟨by omega, by omega⟩
            have i8 : IntKind.i64.wrap (n * x - s * l.sum) = n * x - s * l.sum := IntWalk.i64_in _ ⟨by omega, by omega⟩
            have hcase : ((x == 0) = true ∧ (s != 0) = false) ∨ (x == 0) = false := by
              by_cases hx : x = 0
              · exact .inl ⟨by simpa using hx, by simpa using zz hx⟩
              · exact .inr (by simpa using hx)
            have dk1 : decide (s < 0) = false := by simpa using s0
            have dk2 : decide (n < s) = false := by simpa using s1
            have dk3 : decide (l.sum ≤ s * l.sum - n * x) = false := by simp; omega
            have dk4 : decide (l.sum ≤ n * x - s * l.sum) = false := by simp; omega
            clear zz
            rcases hcase with ⟨hx1, hx2⟩ | hx1
            all_goals
              go_wp2_with fail
              go_quiet (fail)
              go_wp2_with fail
              go_roundw
              case rel => exact ⟨k + 1, by omega, by go_num, by rw [Hsn.out], below_drewN hbw _⟩
              case measure => simp [intOf]; omega
          · have hkl : k = l.length := by omega
            subst hkl
            rw [Hfin.out]
            have hlw := own_below hl3 hbw (Nat.le_refl _)
            have b4 := b3.trans (hbw.mono b3.size)
            have hr3x := hr3.go hbw
            clear hl3 hrl hr3 b3 hbw
            obtain ⟨q, hq⟩ : ∃ q : Nat, z % ((l.length : Int) - 1) = q := ⟨(z % ((l.length : Int) - 1)).toNat, by have := Int.emod_nonneg z (show (l.length : Int) - 1 ≠ 0 by omega); omega⟩
            have hql : q + 1 < l.length := by have := Int.emod_lt_of_pos z (show (0 : Int) < (l.length : Int) - 1 by omega); omega
            obtain ⟨g, cap, e1, g1, g2⟩ := hlw.form (by omega)
            injection e1 with e1 _ e2
            subst e1 e2
            have hcap : l.length ≤ k1 := hn1'
            have c0 : wr.cell? ⟨g, q, none⟩ = some (.int .i64 (at0 l q)) := by
              rw [hlw.cellAt q (by omega), ints_get _ q (by omega), at0_get]
            have c1 : wr.cell? ⟨g, q + 1, none⟩ = some (.int .i64 (at0 l (q + 1))) := by
              rw [hlw.cellAt (q + 1) (by omega), ints_get _ (q + 1) hql, at0_get]
            obtain ⟨x0, x1⟩ := at0_nonneg HL.out (by omega) q
            obtain ⟨y0, y1⟩ := at0_nonneg HL.out (by omega) (q + 1)
            have hJm := joinL_mem (k := q) HL.out
            have hJl := joinL_len hql
            have hJs := joinL_sum hql
            have hJe := split_err (n := n) (l := joinL l q) (by omega) hn0 hn1 hJm
            rw [hJs, if_neg (by omega)] at hJe
            have hJo := Hjoin.out q hql
            have hJL : (splitL n (joinL l q)).length = (joinL l q).length := splitL_length _ _
            have hsp := fun (W : World) (u : Value) (h : Rd W W.heap.size 1 u (joinL l q).length (ints (joinL l q))) => psplit_any n (joinL l q) u W _ h (Nat.le_refl _) (by omega)
            rw [hJe, show splitSpec n (joinL l q) = splitL n (joinL l q) by simp [splitSpec, hJe], hJL] at hsp
            have hJd : joinL l q = l.take q ++ (at0 l q + at0 l (q + 1)) :: l.drop (q + 2) := rfl
            have hsq := Hok.out q (by omega)
            have hsq1 := Hok.out (q + 1) hql
            obtain ⟨J, eJ⟩ : ∃ J, J = joinL l q := ⟨_, rfl⟩
            rw [← eJ] at hJl hJo hJL hsp hJd
            obtain ⟨SJ, eSJ⟩ : ∃ SJ, SJ = splitL n J := ⟨_, rfl⟩
            rw [← eSJ] at hJo hJL hsp
            obtain ⟨a, ea⟩ : ∃ a, a = at0 l q := ⟨_, rfl⟩
            obtain ⟨b, eb⟩ : ∃ b, b = at0 l (q + 1) := ⟨_, rfl⟩
            rw [← ea] at c0 x0 x1 hJd
            rw [← eb] at c1 y0 y1 hJd
            obtain ⟨m, em⟩ : ∃ m, m = J.length := ⟨_, rfl⟩
            have hm1 : ((m : Int) == (l.length : Int) - 1) = true := by simp; omega
            have hml : m + 1 = l.length := by omega
            have hSm : SJ.length = m := by rw [hJL, em]
            have Hml := Lib.hid hml
            have HSm := Lib.hid hSm
            have Hsp := Lib.hid hsp
            have HJd := Lib.hid hJd
            have HJo := Lib.hid hJo
            have Hem := Lib.hid em
            have Hsq := Lib.hid hsq
            have Hsq1 := Lib.hid hsq1
            clear hJm hJl hJs hJe hJo hJL hsp hJd eJ eSJ ea eb em hml hSm Hjoin hsq hsq1 Hfin HL HP
            have i0 : (0 : Int) ≤ (q : Int) := Int.natCast_nonneg _
            have i1 : (q : Int) < (l.length : Int) := by omega
            have i2 : (q : Int) + 1 < (l.length : Int) := by omega
            have i3 : (q : Int) ≤ (k1 : Int) := by omega
            have i4 : IntKind.i64.wrap ((q : Int) + 1) = (q : Int) + 1 := IntWalk.i64_in _ ⟨by omega, by omega⟩
            have i5 : IntKind.i64.wrap ((q : Int) + 2) = (q : Int) + 2 := IntWalk.i64_in _ ⟨by omega, by omega⟩
            have i6 : (q : Int) + 2 ≤ (l.length : Int) := by omega
            have i7 : (q : Int) + 2 ≤ (k1 : Int) := by omega
            have i8 : IntKind.i64.wrap (a + b) = a + b := IntWalk.i64_in _ ⟨by omega, by omega⟩
            have i9 : (0 : Int) ≤ (q : Int) + 1 := by omega
            have i15 : IntKind.i64.wrap ((l.length : Int) - 1) = (l.length : Int) - 1 := IntWalk.i64_in _ ⟨by omega, by omega⟩
            have i17 : (q : Int) + 1 < (l.length : Int) := by omega
            have i14 : IntKind.i64.wrap n = n := IntWalk.i64_in _ ⟨by omega, by omega⟩
            have i10 : (0 : Int) ≤ (q : Int) + 2 := by omega
            have i11 : (l.length : Int) ≤ (k1 : Int) := by omega
            have hqle : q ≤ l.length := by omega
            have hq2l : q + 2 ≤ l.length := by omega
            have hc2l : l.length - (q + 2) ≤ k1 - (q + 2) := by omega
            rcases (Classical.em (k1 = q + 2)) with hcq | hcq
            · subst hcq
              have i30 : (q : Int) ≤ (q : Int) + 2 := by omega
              have i31 : (l.length : Int) ≤ (q : Int) + 2 := by omega
              go_wp2_with fail
              go_region_held3 (fun w' => w'.cell? ⟨g, q, none⟩ = some (.int .i64 a) ∧ w'.cell? ⟨g, q + 1, none⟩ = some (.int .i64 b))
                (first
                  | (go_split_ands
                     refine ⟨?_, ?_⟩ <;> first | assumption | exact far_cell hg7 (by assumption) ne6 | exact far_cell hg6 (by assumption) ne5 | exact (hb5.cell (p := ⟨g, _, none⟩) g2).trans c0 | exact (hb5.cell (p := ⟨g, _, none⟩) g2).trans c1 | fail)
                  | go_keep)
                (first
                  | (go_at_call 17; refine (ints_from (W := wr.drew) (Below.refl _ _).drew hlw q hqle (by omega)).mono ?_; rintro e w5 ⟨v5, rfl, hown5, hb5⟩; have hl5 := own_below hlw hb5 (Nat.le_refl _); have hap5 := apart_lt hown5 hlw; have ne5 : v5.ownBlock ≠ some g := own_ne_old hown5 g2)
                  | (go_at_call 17; refine (ints_blk hlw q hqle (by omega) (a + b)).mono ?_; rintro e w5 ⟨v5, rfl, hown5, hb5, hblk5⟩; have hl5 := own_below hlw hb5 (Nat.le_refl _); have hap5 := apart_lt hown5 hlw; have ne5 : v5.ownBlock ≠ some g := own_ne_old hown5 g2)
                  | ((refine step_push_blk int_elem (by rfl) (.tmp 162) (.tmp 173) (by rfl) (by rfl) _ #[.int .i64 (a + b)] (by rfl) hown5 hblk5 (by rfl) (by simp [Value.oneCell']) (by simp only [maxLen]; omega) (by omega) hb5.size ?_; intro v6 w6 hown6 hg6 hat6; have hl6 := own_apart hl5 hg6 hap5; have hap6 := apart_push2 hap5 hl5 hat6; have hb6 : Below wr.heap.size wr w6 := Below.push2 hb5 hown5 hg6 (Nat.le_refl _) hb5.size; have ne6 : v6.ownBlock ≠ some g := own_ne_old hown6 g2))
                  | ((refine step_push_blk int_elem (by rfl) (.tmp 162) (.tmp 173) (by rfl) (by rfl) _ #[.int .i64 (a + b)] (by rfl) (hown5.alloc _) (Blk.new w5 _ _) (by rfl) (by simp [Value.oneCell']) (by simp only [maxLen]; omega) (by omega) (size_alloc_le hb5.size) ?_; intro v6 w6 hown6 hg6 hat6; have hl6 := own_apart (hl5.alloc _) hg6 hap5; have hap6 := apart_push2 hap5 (hl5.alloc _) hat6; have hb6 : Below wr.heap.size wr w6 := Below.push2 (hb5.alloc hb5.size _) (hown5.alloc _) hg6 (Nat.le_refl _) (size_alloc_le hb5.size); have ne6 : v6.ownBlock ≠ some g := own_ne_old hown6 g2))
                  | ((refine step_push int_elem (by rfl) (.tmp 174) (.tmp 178) (by rfl) (by rfl) hown6 w6.heap.size _ (l.length - (q + 2)) (ints (l.drop (q + 2))) (by rfl) (rd_rest0 hl6 (q + 2) hcap) (ints_one _) (by simp only [maxLen]; omega) (by omega) hb6.size ?_; intro v7 w7 hown7 hg7 hat7))
                  | ((refine step_push int_elem (by rfl) (.tmp 174) (.tmp 178) (by rfl) (by rfl) hown6 w6.heap.size _ 0 (ints []) (by rfl) (rd_zero w6) (ints_one _) (by simp only [maxLen]; omega) (by omega) hb6.size ?_; intro v7 w7 hown7z hg7 hat7; have hown7 := own_fix0 hown7z hcap)) | fail)
              all_goals
                have hb7 := Below.push2 hb6 hown6 hg7 (Nat.le_refl _) hb6.size
                have hown : w7.ownsRow wr.heap.size 3 1 v7 J.length (ints J) := by
                  have e1 : q + 1 + (l.length - (q + 2)) = J.length := by have h1 := Hml.out; have h2 := Hem.out; omega
                  have e2 : ints (l.take q) ++ #[Value.int .i64 (a + b)].toList ++ ints (l.drop (q + 2)) = ints J := by rw [HJd.out]; simp [ints]
                  rw [← e1, ← e2]
                  exact hown7
                have hr7 := Rd.of_own hown
                have hr3y := hr3x.go hb7
                have b7 := b4.trans (hb7.mono b4.size)
                obtain ⟨A7, k7, rfl, hn7⟩ := hr7.shape
                clear hown7 hown6 hown5 hl6 hl5 hb5 hb6 hown hb7
                go_wp2_with fail
                refine (Hsp.out _ _ hr7).mono ?_
                rintro e w8 ⟨v8, rfl, ho8, hb8⟩
                rw [← Hem.out] at ho8
                have hr8 := Rd.of_own ho8
                have hr3z := hr3y.go hb8
                have b8 := b7.trans (hb8.mono b7.size)
                obtain ⟨A8, k8, rfl, hn8⟩ := hr8.shape
                obtain ⟨gb, go, rfl, hgb, z0⟩ := ints_cell SJ q (by have h1 := HSm.out; have h2 := Hml.out; omega) _ _ _ _ _ hr8
                have hr3w := hr3z
                obtain ⟨gc, gd, rfl, hgc, z1⟩ := ints_cell S q (by rw [HSl.out]; omega) _ _ _ _ _ hr3z
                obtain ⟨gc', gd', e3, _, z2⟩ := ints_cell S (q + 1) (by rw [HSl.out]; omega) _ _ _ _ _ hr3w
                injection e3 with e3
                injection e3 with e3 e4
                subst e3 e4
                have f1 := Hsq.out.s0
                have f2 := Hsq.out.s1
                have f3 := Hsq1.out.s0
                have f4 := Hsq1.out.s1
                have hJo := HJo.out
                obtain ⟨r0, er0⟩ : ∃ r, r = at0 SJ q := ⟨_, rfl⟩
                obtain ⟨r1, er1⟩ : ∃ r, r = at0 S q := ⟨_, rfl⟩
                obtain ⟨r2, er2⟩ : ∃ r, r = at0 S (q + 1) := ⟨_, rfl⟩
                rw [← er0] at z0 hJo
                rw [← er1] at z1 f1 f2 hJo
                rw [← er2] at z2 f3 f4 hJo
                have heq : (r0 == r1 + r2) = true := by simpa using hJo
                have i12 : IntKind.i64.wrap (r1 + r2) = r1 + r2 := IntWalk.i64_in _ ⟨by omega, by omega⟩
                have i13 : (q : Int) < (m : Int) := by have := Hml.out; omega
                clear hJo er0 er1 er2 hr7 hr3y hr3w ho8 hb8 Hsp Hsq Hsq1 HJd HJo
                go_wp2_with fail
                go_region_held3 (fun w' => w'.cell? ⟨gb, go + q, none⟩ = some (.int .i64 r0) ∧ w'.cell? ⟨gc, gd + q, none⟩ = some (.int .i64 r1) ∧ w'.cell? ⟨gc, gd + (q + 1), none⟩ = some (.int .i64 r2))
                  (first
                    | (go_split_ands
                       refine ⟨?_, ?_, ?_⟩ <;> first | assumption | exact (hb9.cell (p := ⟨gb, _, none⟩) hgb).trans z0 | exact (hb9.cell (p := ⟨gc, _, none⟩) hgc).trans z1 | exact (hb9.cell (p := ⟨gc, _, none⟩) hgc).trans z2 | fail)
                    | go_keep)
                  (first
                    | (go_at_call 14; refine (known_any _).mono ?_; rintro e w9 ⟨rfl, hb9⟩) | fail)
                go_wp2_with fail
                go_ret
                exact ⟨rfl, (b8.drew).trans (hb9.mono b8.size)⟩
            · go_wp2_with fail
              go_region_held3 (fun w' => w'.cell? ⟨g, q, none⟩ = some (.int .i64 a) ∧ w'.cell? ⟨g, q + 1, none⟩ = some (.int .i64 b))
                (first
                  | (go_split_ands
                     refine ⟨?_, ?_⟩ <;> first | assumption | exact far_cell hg7 (by assumption) ne6 | exact far_cell hg6 (by assumption) ne5 | exact (hb5.cell (p := ⟨g, _, none⟩) g2).trans c0 | exact (hb5.cell (p := ⟨g, _, none⟩) g2).trans c1 | fail)
                  | go_keep)
                (first
                  | (go_at_call 17; refine (ints_from (W := wr.drew) (Below.refl _ _).drew hlw q hqle (by omega)).mono ?_; rintro e w5 ⟨v5, rfl, hown5, hb5⟩; have hl5 := own_below hlw hb5 (Nat.le_refl _); have hap5 := apart_lt hown5 hlw; have ne5 : v5.ownBlock ≠ some g := own_ne_old hown5 g2)
                  | (go_at_call 17; refine (ints_blk hlw q hqle (by omega) (a + b)).mono ?_; rintro e w5 ⟨v5, rfl, hown5, hb5, hblk5⟩; have hl5 := own_below hlw hb5 (Nat.le_refl _); have hap5 := apart_lt hown5 hlw; have ne5 : v5.ownBlock ≠ some g := own_ne_old hown5 g2)
                  | ((refine step_push_blk int_elem (by rfl) (.tmp 162) (.tmp 173) (by rfl) (by rfl) _ #[.int .i64 (a + b)] (by rfl) hown5 hblk5 (by rfl) (by simp [Value.oneCell']) (by simp only [maxLen]; omega) (by omega) hb5.size ?_; intro v6 w6 hown6 hg6 hat6; have hl6 := own_apart hl5 hg6 hap5; have hap6 := apart_push2 hap5 hl5 hat6; have hb6 : Below wr.heap.size wr w6 := Below.push2 hb5 hown5 hg6 (Nat.le_refl _) hb5.size; have ne6 : v6.ownBlock ≠ some g := own_ne_old hown6 g2))
                  | ((refine step_push_blk int_elem (by rfl) (.tmp 162) (.tmp 173) (by rfl) (by rfl) _ #[.int .i64 (a + b)] (by rfl) (hown5.alloc _) (Blk.new w5 _ _) (by rfl) (by simp [Value.oneCell']) (by simp only [maxLen]; omega) (by omega) (size_alloc_le hb5.size) ?_; intro v6 w6 hown6 hg6 hat6; have hl6 := own_apart (hl5.alloc _) hg6 hap5; have hap6 := apart_push2 hap5 (hl5.alloc _) hat6; have hb6 : Below wr.heap.size wr w6 := Below.push2 (hb5.alloc hb5.size _) (hown5.alloc _) hg6 (Nat.le_refl _) (size_alloc_le hb5.size); have ne6 : v6.ownBlock ≠ some g := own_ne_old hown6 g2))
                  | ((refine step_push int_elem (by rfl) (.tmp 174) (.tmp 178) (by rfl) (by rfl) hown6 w6.heap.size _ (l.length - (q + 2)) (ints (l.drop (q + 2))) (by rfl) (rd_rest hl6 (q + 2) hq2l (fun _ => rfl) hc2l) (ints_one _) (by simp only [maxLen]; omega) (by omega) hb6.size ?_; intro v7 w7 hown7 hg7 hat7)) | fail)
              all_goals
                have hb7 := Below.push2 hb6 hown6 hg7 (Nat.le_refl _) hb6.size
                have hown : w7.ownsRow wr.heap.size 3 1 v7 J.length (ints J) := by
                  have e1 : q + 1 + (l.length - (q + 2)) = J.length := by have h1 := Hml.out; have h2 := Hem.out; omega
                  have e2 : ints (l.take q) ++ #[Value.int .i64 (a + b)].toList ++ ints (l.drop (q + 2)) = ints J := by rw [HJd.out]; simp [ints]
                  rw [← e1, ← e2]
                  exact hown7
                have hr7 := Rd.of_own hown
                have hr3y := hr3x.go hb7
                have b7 := b4.trans (hb7.mono b4.size)
                obtain ⟨A7, k7, rfl, hn7⟩ := hr7.shape
                clear hown7 hown6 hown5 hl6 hl5 hb5 hb6 hown hb7
                go_wp2_with fail
                refine (Hsp.out _ _ hr7).mono ?_
                rintro e w8 ⟨v8, rfl, ho8, hb8⟩
                rw [← Hem.out] at ho8
                have hr8 := Rd.of_own ho8
                have hr3z := hr3y.go hb8
                have b8 := b7.trans (hb8.mono b7.size)
                obtain ⟨A8, k8, rfl, hn8⟩ := hr8.shape
                obtain ⟨gb, go, rfl, hgb, z0⟩ := ints_cell SJ q (by have h1 := HSm.out; have h2 := Hml.out; omega) _ _ _ _ _ hr8
                have hr3w := hr3z
                obtain ⟨gc, gd, rfl, hgc, z1⟩ := ints_cell S q (by rw [HSl.out]; omega) _ _ _ _ _ hr3z
                obtain ⟨gc', gd', e3, _, z2⟩ := ints_cell S (q + 1) (by rw [HSl.out]; omega) _ _ _ _ _ hr3w
                injection e3 with e3
                injection e3 with e3 e4
                subst e3 e4
                have f1 := Hsq.out.s0
                have f2 := Hsq.out.s1
                have f3 := Hsq1.out.s0
                have f4 := Hsq1.out.s1
                have hJo := HJo.out
                obtain ⟨r0, er0⟩ : ∃ r, r = at0 SJ q := ⟨_, rfl⟩
                obtain ⟨r1, er1⟩ : ∃ r, r = at0 S q := ⟨_, rfl⟩
                obtain ⟨r2, er2⟩ : ∃ r, r = at0 S (q + 1) := ⟨_, rfl⟩
                rw [← er0] at z0 hJo
                rw [← er1] at z1 f1 f2 hJo
                rw [← er2] at z2 f3 f4 hJo
                have heq : (r0 == r1 + r2) = true := by simpa using hJo
                have i12 : IntKind.i64.wrap (r1 + r2) = r1 + r2 := IntWalk.i64_in _ ⟨by omega, by omega⟩
                have i13 : (q : Int) < (m : Int) := by have := Hml.out; omega
                clear hJo er0 er1 er2 hr7 hr3y hr3w ho8 hb8 Hsp Hsq Hsq1 HJd HJo
                go_wp2_with fail
                go_region_held3 (fun w' => w'.cell? ⟨gb, go + q, none⟩ = some (.int .i64 r0) ∧ w'.cell? ⟨gc, gd + q, none⟩ = some (.int .i64 r1) ∧ w'.cell? ⟨gc, gd + (q + 1), none⟩ = some (.int .i64 r2))
                  (first
                    | (go_split_ands
                       refine ⟨?_, ?_, ?_⟩ <;> first | assumption | exact (hb9.cell (p := ⟨gb, _, none⟩) hgb).trans z0 | exact (hb9.cell (p := ⟨gc, _, none⟩) hgc).trans z1 | exact (hb9.cell (p := ⟨gc, _, none⟩) hgc).trans z2 | fail)
                    | go_keep)
                  (first
                    | (go_at_call 14; refine (known_any _).mono ?_; rintro e w9 ⟨rfl, hb9⟩) | fail)
                go_wp2_with fail
                go_ret
                exact ⟨rfl, (b8.drew).trans (hb9.mono b8.size)⟩
end Go.Proofs.Ytkbfdgacnoadlaa
