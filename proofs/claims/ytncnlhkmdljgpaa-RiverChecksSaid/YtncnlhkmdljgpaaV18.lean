/- River: the error of land and a sky, and what melts, by the reference. -/
import Derived.Test.YtncnlhkmdljgpaaV7
namespace Go.Proofs.Ytncnlhkmdljgpaa
open Go.RowKit

theorem rint_info : (Try.prog.info? 3).map (fun i => (i.zero, i.size, i.bytes)) = some (some (.int .i64 0), 1, 8) := by kernel_rfl
theorem rint_elem : Elem Try.prog 121 3 1 8 := Elem.mk' Try.underlying121 rint_info rfl (by omega)
theorem rints_snoc (l : List Int) (x : Int) : ints (l ++ [x]) = ints l ++ [.int .i64 x] := by simp [ints]
theorem melts_get {rate : Int} : ∀ (l : List Int) (s : Int) (k : Nat) (hk : k < l.length), (meltsOf rate s l)[k]? = some (min (leftOf rate s (l.take k)) (warmth rate l[k]))
  | t :: l, s, 0, _ => rfl
  | t :: l, s, k + 1, hk => by
    rw [meltsOf, List.getElem?_cons_succ, melts_get l _ k (by simpa using hk), List.take_succ_cons, leftOf, left_step]
    rfl
theorem melts_take {rate s : Int} {l : List Int} {k : Nat} (hk : k < l.length) : (meltsOf rate s l).take (k + 1) = (meltsOf rate s l).take k ++ [min (leftOf rate s (l.take k)) (warmth rate l[k])] := by
  have h := melts_get (rate := rate) l s k hk
  rw [List.take_add_one, h]
  rfl
theorem left_take {rate s : Int} {l : List Int} {k : Nat} (hk : k < l.length) : leftOf rate s (l.take (k + 1)) = leftOf rate s (l.take k) - min (leftOf rate s (l.take k)) (warmth rate l[k]) := by
  rw [List.take_succ_eq_append_getElem hk, left_snoc, left_step]

set_option maxHeartbeats 2000000 in
set_option maxRecDepth 100000 in
theorem rmelts_any (rate s : Int) (l : List Int) (v : Value) (w : World) (B : Nat) (hr : Rd w B 1 v l.length (ints l)) (hB : B ≤ w.heap.size) (hl : l.length ≤ 1048576) (h1 : 0 ≤ rate ∧ rate ≤ 100) (h2 : 0 ≤ s ∧ s ≤ 1000000) (h3 : ∀ t ∈ l, -500 ≤ t ∧ t ≤ 500) :
    Calls Try.prog 62 #[.int .i64 rate, .int .i64 s, v] w fun e w' => (∃ v', e = .returned v' ∧ w'.ownsRow w.heap.size 3 1 v' l.length (ints (meltsOf rate s l))) ∧ Below w.heap.size w w' := by
  obtain ⟨A, c, rfl, hnc⟩ := hr.shape
  go_enter Try.func62, Try.ntmps62
  go_wp2_with fail
  go_loopw [1, 7, 8, 9] (fun x o i _ wr => ∃ (k : Nat) (v' : Value), k ≤ l.length ∧ i = .int .i64 k ∧ o = v' ∧ x = .int .i64 (leftOf rate s (l.take k)) ∧ wr.ownsRow w.heap.size 3 1 v' k (ints ((meltsOf rate s l).take k)) ∧ Below w.heap.size w wr) (fun _ _ i _ _ => l.length - (intOf i).toNat)
  case atStart => exact ⟨0, _, Nat.zero_le _, rfl, rfl, rfl, own_new w _ _ 1 0 #[] (Nat.le_refl _) rfl (Nat.zero_le _), (Below.refl _ _).alloc (Nat.le_refl _) _⟩
  case round =>
    obtain ⟨k, v', hk, rfl, rfl, rfl, hown, hbw⟩ := hrel
    by_cases hlt : k < l.length
    · obtain ⟨b, off, rfl, hb, hc⟩ := ints_at l k hlt _ B _ _ (hr.below (hbw.mono hB))
      have hx := h3 _ (List.getElem_mem hlt)
      have htk := melts_take (rate := rate) (s := s) hlt
      have hlk := left_take (rate := rate) (s := s) hlt
      have n1 := left_nonneg (rate := rate) (l.take k) s h2.1
      have n2 := left_le h1.1 (l.take k) s h2.1
      have n3 := warmth_bd (t := l[k]) h1 (by omega)
      obtain ⟨L, eL⟩ : ∃ L, L = leftOf rate s (l.take k) := ⟨_, rfl⟩
      rw [← eL] at htk hlk n1 n2 ⊢
      obtain ⟨t, et⟩ : ∃ t, t = l[k] := ⟨_, rfl⟩
      rw [← et] at htk hlk n3 hc hx
      have ew : warmth rate t = max 0 t * rate := rfl
      obtain ⟨M, eM⟩ : ∃ M, M = max 0 t := ⟨_, rfl⟩
      rw [← eM] at ew
      obtain ⟨Q, eQ⟩ : ∃ Q, Q = warmth rate t := ⟨_, rfl⟩
      rw [← eQ] at ew htk hlk n3
      obtain ⟨R, eR⟩ : ∃ R, R = min L Q := ⟨_, rfl⟩
      rw [← eR] at htk hlk
      have m1 : (if 0 < t then t else 0) = M := by omega
      have m2 : (if L < Q then L else Q) = R := by omega
      have m3 : (if Q < L then Q else L) = R := by omega
      have s1 : IntKind.i64.wrap (M * rate) = Q := by rw [← ew]; exact IntWalk.i64_in _ ⟨by omega, by omega⟩
      have s2 : IntKind.i64.wrap (L - R) = L - R := IntWalk.i64_in _ ⟨by omega, by omega⟩
      have hsz := hbw.size
      have Htk := Lib.hid htk
      have Hlk := Lib.hid hlk
      clear htk hlk eL et ew eM eQ eR
      go_wp2_with (at_builtin; refine wpList_push rint_elem rfl (.tmp 26) (.tmp 28) rfl rfl hown _ rfl rfl (by simp [Value.oneCell']) (by simp only [maxLen]; omega) (by omega) (by omega) ?_; intro v2 w2 hown2 hg2 _)
      go_roundw
      case rel =>
        refine ⟨k + 1, _, by omega, by go_num, rfl, by rw [Hlk.out], ?_, Below.push hbw hown hg2 (by omega) (by omega)⟩
        rw [Htk.out, rints_snoc]
        exact hown2
      case measure => simp [intOf]; omega
    · go_wp2
      go_ret
      obtain rfl : k = l.length := by omega
      rw [List.take_of_length_le (by rw [melts_len]; omega)] at hown
      exact ⟨⟨_, rfl, hown⟩, hbw⟩

set_option maxHeartbeats 8000000 in
set_option maxRecDepth 100000 in
theorem rcatch_any (c : Land) (sky : List Sky) (v : Value) (w : World) (B : Nat) (hr : Rd w B 4 v sky.length (skysC sky)) (hB : B ≤ w.heap.size) (hl : sky.length ≤ 1048576) :
    Calls Try.prog 18 #[.agg (landV c), v] w fun e w' => e = .returned (.int .i64 (catchErr c sky)) ∧ Below w.heap.size w w' := by
  obtain ⟨A, cp, rfl, hnc⟩ := hr.shape
  have hn0 := Blk.new w 25 (landV c)
  have b0 : Below w.heap.size w (w.alloc (.cells (landV c) 25)) := (Below.refl _ _).alloc (Nat.le_refl _) _
  unfold landV at hn0 b0 ⊢
  go_enter Try.func18, Try.ntmps18
  go_wp2_with fail
  refine (in_any _ _ _ _).mono ?_
  rintro e w' ⟨rfl, rfl⟩
  rcases Bool.eq_false_or_eq_true (inB 0 10000 c.area) with h1 | h1
  rotate_left
  · rw [h1]
    go_wp2_with fail
    go_ret
    exact ⟨ret_int (by rw [catchErr, landB_form]; simp only [h1]; rfl), b0⟩
  rw [h1]
  go_wp2_with fail
  refine (in_any _ _ _ _).mono ?_
  rintro e w' ⟨rfl, rfl⟩
  rcases Bool.eq_false_or_eq_true (inB 0 100 c.percent) with h2 | h2
  rotate_left
  · rw [h2]
    go_wp2_with fail
    go_ret
    exact ⟨ret_int (by rw [catchErr, landB_form]; simp only [h1, h2]; rfl), b0⟩
  rw [h2]
  go_wp2_with fail
  refine (in_any _ _ _ _).mono ?_
  rintro e w' ⟨rfl, rfl⟩
  rcases Bool.eq_false_or_eq_true (inB 0 100 c.melt) with h3 | h3
  rotate_left
  · rw [h3]
    go_wp2_with fail
    go_ret
    exact ⟨ret_int (by rw [catchErr, landB_form]; simp only [h1, h2, h3]; rfl), b0⟩
  rw [h3]
  go_wp2_with fail
  refine (rvalid_any c.snow 0 1000000 _).mono ?_
  rintro e w4 ⟨rfl, hb4⟩
  have b4 := b0.trans (hb4.mono b0.size)
  clear hb4 hn0 b0
  rcases Bool.eq_false_or_eq_true (bdOk 0 1000000 c.snow) with h4 | h4
  rotate_left
  · rw [h4]
    go_wp2_with fail
    go_ret
    exact ⟨ret_int (by rw [catchErr, landB_form]; simp only [h1, h2, h3, h4]; rfl), b4⟩
  rw [h4]
  have hok : landOk c = true := by rw [landB_form]; simp only [h1, h2, h3, h4]; rfl
  clear h1 h2 h3 h4
  by_cases hlen : 400 < sky.length
  · have hlen' : decide ((400 : Int) < (sky.length : Int)) = true := by simp; omega
    go_wp2_with fail
    go_ret
    exact ⟨ret_int (by rw [catchErr, if_neg (by rw [hok]; simp), if_pos hlen]), b4⟩
  have hlen' : decide ((400 : Int) < (sky.length : Int)) = false := by simp; omega
  have He : Hid (catchErr c sky = if sky.all skyOk = false then 2 else 0) := Lib.hid (by rw [catchErr, if_neg (by rw [hok]; simp), if_neg hlen])
  clear hok
  go_wp2_with fail
  go_loopw [5] (fun i wr => ∃ k : Nat, k ≤ sky.length ∧ i = .int .i64 k ∧ Hid ((sky.take k).all skyOk = true) ∧ Below w.heap.size w wr) (fun i _ => sky.length - (intOf i).toNat)
  case atStart => exact ⟨0, Nat.zero_le _, rfl, rfl, b4⟩
  case round =>
    clear b4
    obtain ⟨k, hk, rfl, Hal, hbw⟩ := hrel
    by_cases hlt : k < sky.length
    · have hcs := fun W (h : Below w.heap.size w W) => skys_cells sky k hlt W B _ _ _ (hr.below (h.mono hB))
      have hgood := fun h => take_len (f := skyOk) (d := sky0) hlt Hal.out h
      have hbad := fun h => all_not (f := skyOk) (d := sky0) hlt h
      obtain ⟨x, ex⟩ : ∃ x, x = sky.getD k sky0 := ⟨_, rfl⟩
      rw [← ex] at hcs hgood hbad
      clear ex
      obtain ⟨⟨rl, rh⟩, ⟨tl, th⟩⟩ := x
      have Hgood := Lib.hid hgood
      have Hbad := Lib.hid hbad
      obtain ⟨b, off, rfl, hb, ⟨c0, c1, c2, c3⟩⟩ := hcs _ hbw
      simp only at c0 c1 c2 c3
      have Hcs := Lib.hid hcs
      clear hgood hbad hcs
      go_wp2_with fail
      refine (rvalid_any ⟨rl, rh⟩ 0 20000 _).mono ?_
      rintro e x1 ⟨rfl, hb1⟩
      have b1 := hbw.trans (hb1.mono hbw.size)
      clear c0 c1 c2 c3 hb1 hbw
      obtain ⟨_, _, e1, _, ⟨_, _, c2, c3⟩⟩ := Hcs.out _ b1
      injection e1 with e1
      injection e1 with e1 e2
      subst e1 e2
      simp only at c2 c3
      rcases Bool.eq_false_or_eq_true (bdOk 0 20000 ⟨rl, rh⟩) with g1 | g1
      rotate_left
      · rw [g1]
        go_wp2_with fail
        go_ret
        exact ⟨ret_int (by rw [He.out, if_pos (Hbad.out (by show (bdOk 0 20000 ⟨rl, rh⟩ && bdOk (-500) 500 ⟨tl, th⟩) = false; rw [g1]; rfl))]), b1⟩
      rw [g1]
      go_wp2_with fail
      refine (rvalid_any ⟨tl, th⟩ (-500) 500 _).mono ?_
      rintro e x2 ⟨rfl, hb2⟩
      have b2 := b1.trans (hb2.mono b1.size)
      clear c2 c3 hb2 b1
      rcases Bool.eq_false_or_eq_true (bdOk (-500) 500 ⟨tl, th⟩) with g2 | g2
      rotate_left
      · rw [g2]
        go_wp2_with fail
        go_ret
        exact ⟨ret_int (by rw [He.out, if_pos (Hbad.out (by show (bdOk 0 20000 ⟨rl, rh⟩ && bdOk (-500) 500 ⟨tl, th⟩) = false; rw [g1, g2]; rfl))]), b2⟩
      rw [g2]
      have Hg := Lib.hid (Hgood.out (by show (bdOk 0 20000 ⟨rl, rh⟩ && bdOk (-500) 500 ⟨tl, th⟩) = true; rw [g1, g2]; rfl))
      go_wp2_with fail
      go_roundw
      case rel => exact ⟨k + 1, by omega, by go_num, Hg, b2⟩
      case measure => simp [intOf]; omega
    · go_wp2_with fail
      go_ret
      obtain rfl : k = sky.length := by omega
      have h := Hal.out
      rw [List.take_length] at h
      exact ⟨ret_int (by rw [He.out, if_neg (by rw [h]; simp)]), hbw⟩
end Go.Proofs.Ytncnlhkmdljgpaa
