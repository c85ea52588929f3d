/- Law AverageBalances, its walk. -/
import Derived.Test.YtkbfdgacnoadlaaA17
import Derived.Test.YtkbfdgacnoadlaaBalMath
import Derived.Test.YtkbfdgacnoadlaaBase5
namespace Go.Proofs.Ytkbfdgacnoadlaa
open Go.RowKit

theorem note_info : (Try.prog.info? 30).map (fun i => (i.zero, i.size, i.bytes)) = some (some (.agg #[.int .i64 0, .int .i64 0, .int .i64 0]), 3, 24) := by kernel_rfl
theorem note_elem : Elem Try.prog 22 30 3 24 := Elem.mk' Try.underlying22 note_info rfl (by omega)

theorem adjust_any (N : Nat) (c : Int) (l : List Nt) (v : Value) (w : World) (B : Nat) (hr : Rd w B 3 v l.length (notesV l)) (hB : B ≤ w.heap.size) (hlen : l.length ≤ 1048576) :
    Calls Try.prog 15 #[.int .i64 N, .int .i64 c, v] w (AdjPost w (adjSpec N c l)) := by
  by_cases h : (earlyErr N c l).2 = 0
  · exact adjust_late N c l v w B hr hB h
  · exact adjust_early N c l v w B hr hB hlen h

theorem accV_len (x : Acc) : (accV x).length = 4 := rfl
theorem accsV_len (l : List Acc) : (accsV l).length = l.length * 4 := flat_len accV_len l
theorem accs_cells (l : List Acc) (k : Nat) (hk : k < l.length) (w : World) (B : Nat) (A : Option Addr) (n c : Nat) (hr : Rd w B 4 (.slice A n c) n (accsV l)) :
    ∃ b off, A = some ⟨b, off, none⟩ ∧ b < B ∧ w.cell? ⟨b, off + k * 4, none⟩ = some (.int .i64 l[k].value) ∧ w.cell? ⟨b, off + k * 4 + 1, none⟩ = some (.int .i64 l[k].good) ∧ w.cell? ⟨b, off + k * 4 + 2, none⟩ = some (.int .i64 l[k].due) ∧
      w.cell? ⟨b, off + k * 4 + 3, none⟩ = some (.int .i64 l[k].bal) := by
  have hl : n * 4 = l.length * 4 := by rw [← hr.len, accsV_len]
  obtain ⟨b, off, rfl, hb, hc⟩ := hr.at_ (by omega)
  refine ⟨b, off, rfl, hb, hc (k * 4) _ ?_, ?_, ?_, ?_⟩
  · exact flat_get accV_len l k hk 0 (by omega)
  · exact hc (k * 4 + 1) _ (flat_get accV_len l k hk 1 (by omega))
  · exact hc (k * 4 + 2) _ (flat_get accV_len l k hk 2 (by omega))
  · exact hc (k * 4 + 3) _ (flat_get accV_len l k hk 3 (by omega))

set_option maxHeartbeats 4000000 in
set_option maxRecDepth 100000 in
theorem balances_law (x y : Int) (l : List Nt) (v : Value) (w : World) (B : Nat) (hr : Rd w B 3 v l.length (notesV l)) (hB : B ≤ w.heap.size) (hx0 : 0 ≤ x) (hx1 : x ≤ 255) (hy0 : 0 ≤ y) (hy1 : y ≤ 65535) :
    Calls Try.prog 7 #[.int .u8 x, .int .u16 y, v] w fun e w' => e = .returned (.bool true) ∧ Below w.heap.size w w' := by
  obtain ⟨A, c, rfl, hnc⟩ := hr.shape
  by_cases h300 : 300 < l.length
  · go_enter Try.func7, Try.ntmps7
    go_wp2_with fail
    refine (known_any w).mono ?_
    rintro e w1 ⟨rfl, hb⟩
    go_wp2_with fail
    go_ret
    exact ⟨rfl, hb⟩
  obtain ⟨N, hN⟩ : ∃ N : Nat, 1 + x % 40 = N := ⟨(1 + x % 40).toNat, by omega⟩
  obtain ⟨R, hR⟩ : ∃ R : Int, y % 10000 = R := ⟨_, rfl⟩
  have n0 : 1 ≤ N := by omega
  have n1 : N ≤ 40 := by omega
  have r0 : 0 ≤ R := by omega
  have r1 : R ≤ 9999 := by omega
  have hany := fun (d : Int) (W : World) (u : Value) (h : Rd W W.heap.size 3 u l.length (notesV l)) => adjust_any N d l u W _ h (Nat.le_refl _) (by omega)
  by_cases hbad : (adjSpec N R l).2.2.2 = 0
  · obtain ⟨he, hl, hs⟩ := adj_good hbad
    obtain ⟨_, _, hlen, _, hall⟩ := earlyErr_zero he
    have hB0 := bal_ok hall hlen n0 n1 r0 (by omega) hl
    have hacc : (accsTo R l (splitL (adjTotal R l N) (listI worthI l N)) N).length = N := accsTo_len _ _ _ _
    have hget : ∀ i (h : i < (accsTo R l (splitL (adjTotal R l N) (listI worthI l N)) N).length), (accsTo R l (splitL (adjTotal R l N) (listI worthI l N)) N)[i] = accAt R l (splitL (adjTotal R l N) (listI worthI l N)) i := fun i h => by simp [accsTo]
    have h2 : ∃ (T2 : Int) (E2 : Int), (E2 = 80 ∨ E2 = 0 ∧ adjTotal R l N ≤ T2) ∧ (adjSpec N (R + 1) l).2.1 = T2 ∧ (adjSpec N (R + 1) l).2.2.2 = E2 := by
      refine ⟨_, _, ?_, rfl, rfl⟩
      have he2 : (earlyErr N (R + 1) l).2 = 0 := by
        have a := (inB_iff (lo := 0) (hi := 10000) (n := R)).2 ⟨by omega, by omega⟩
        have b := (inB_iff (lo := 0) (hi := 10000) (n := R + 1)).2 ⟨by omega, by omega⟩
        unfold earlyErr at he ⊢
        rw [a] at he
        rw [b]
        exact he
      unfold adjSpec
      rw [if_pos he2, Int.toNat_natCast]
      rcases late_next hl with h | h
      · rw [if_pos h]
        exact .inr ⟨rfl, good_mono hall⟩
      · rw [if_neg (by omega)]
        exact .inl h
    obtain ⟨T2, E2, hE2, e1, e2⟩ := h2
    have c1 := fun (W : World) (u : Value) (h : Rd W W.heap.size 3 u l.length (notesV l)) => hany R W u h
    have c2 := fun (W : World) (u : Value) (h : Rd W W.heap.size 3 u l.length (notesV l)) => hany (R + 1) W u h
    unfold AdjPost at c1 c2
    rw [hs] at c1
    rw [e1, e2] at c2
    simp only at c1
    rw [hacc] at c1
    obtain ⟨D, hD⟩ : ∃ D, D = splitL (adjTotal R l N) (listI worthI l N) := ⟨_, rfl⟩
    obtain ⟨each, due, good, t0, t1⟩ := hB0
    rw [← hD] at each due good hacc hget c1
    obtain ⟨T, hT⟩ : ∃ T, T = adjTotal R l N := ⟨_, rfl⟩
    rw [← hT] at due good c1 t0 t1 hE2
    obtain ⟨L, hL⟩ : ∃ L, L = accsTo R l D N := ⟨_, rfl⟩
    rw [← hL] at hacc
    have hget' : ∀ i (h : i < L.length), L[i] = accAt R l D i := by subst hL; exact hget
    rw [← hL] at c1
    have bd := fun (k : Nat) (hk : k ≤ N) => And.intro (And.intro (sumTo_nonneg (f := fun i => (accAt R l D i).due) (k := k) fun i hi => (each i (by omega)).d0) (sumTo_bd (f := fun i => (accAt R l D i).due) (m := 30000000000000) (k := k) fun i hi => Int.le_trans (each i (by omega)).d1 (each i (by omega)).v1))
      (And.intro (sumTo_nonneg (f := fun i => (accAt R l D i).good) (k := k) fun i hi => (each i (by omega)).g0) (sumTo_bd (f := fun i => (accAt R l D i).good) (m := 60000000000000) (k := k) fun i hi => (each i (by omega)).g1))
    have C1 := Lib.hid c1
    have C2 := Lib.hid c2
    have HG := Lib.hid hget'
    have HE := Lib.hid each
    have HD := Lib.hid due
    have HGo := Lib.hid good
    have HA := Lib.hid hacc
    have HB := Lib.hid bd
    clear c1 c2 hget hget' each due good hacc bd hany hs he hl hbad e1 e2 hL hT hD hall
    go_enter Try.func7, Try.ntmps7
    go_wp2_with (at_builtin; refine wpList_copy_all note_elem rfl (.tmp 35) (.tmp 36) rfl hr hB rfl rfl (notesV_one l) (by omega) (by omega) ?_; intro v1 w1 hown1 hb1)
    have hr1 := Rd.of_own hown1
    clear hown1
    obtain ⟨A1, k1, rfl, hnc1⟩ := hr1.shape
    go_wp2_with fail
    refine (C1.out _ _ hr1).mono ?_
    rintro e w2 ⟨v2, rfl, ho2, hb2⟩
    have hr2 := Rd.of_own ho2
    clear ho2
    obtain ⟨A2, k2, rfl, hnc2⟩ := hr2.shape
    have b2 : Below w.heap.size w w2 := Below.on hb1 hb2 hb1.size
    have hrw := hr.below (b2.mono hB)
    have hB2 : B ≤ w2.heap.size := Nat.le_trans hB b2.size
    clear hr1 hb1 hb2 hr
    go_wp2_with fail
    go_loopw [13, 14, 15, 16] (fun d g f i wr => ∃ (k : Nat) (F : Int), k ≤ N ∧ i = .int .i64 k ∧ d = .int .i64 (sumTo (fun i => (accAt R l D i).due) k) ∧ g = .int .i64 (sumTo (fun i => (accAt R l D i).good) k) ∧ f = .int .i64 F ∧
        Hid (F = sumTo (fun i => (accAt R l D i).due) k - sumTo (fun i => (accAt R l D i).good) k) ∧ Below w.heap.size w wr ∧ Below w2.heap.size w2 wr) (fun _ _ _ i _ => N - (intOf i).toNat)
    case atStart => exact ⟨0, 0, Nat.zero_le _, rfl, rfl, rfl, rfl, Lib.hid rfl, b2, Below.refl _ _⟩
    case round =>
      obtain ⟨k, F, hk, rfl, rfl, rfl, rfl, HF, hbw, hbw2⟩ := hrel
      have hsz := hbw.size
      have hsz2 := hbw2.size
      by_cases hlt : k < N
      · have hkL : k < L.length := by rw [HA.out]; exact hlt
        obtain ⟨b, off, rfl, hbB, q0, q1, q2, q3⟩ := accs_cells L k hkL _ _ _ _ _ (hr2.below hbw2)
        rw [HG.out k hkL] at q0 q1 q2 q3
        obtain ⟨v0, v1, d0, d1, g0, g1, hb⟩ := HE.out k hlt
        obtain ⟨⟨s0, s1⟩, s2, s3⟩ := HB.out k hk
        have hF := HF.out
        obtain ⟨SD, hSD⟩ : ∃ S, S = sumTo (fun i => (accAt R l D i).due) k := ⟨_, rfl⟩
        obtain ⟨SG, hSG⟩ : ∃ S, S = sumTo (fun i => (accAt R l D i).good) k := ⟨_, rfl⟩
        have n1' : sumTo (fun i => (accAt R l D i).due) (k + 1) = SD + (accAt R l D k).due := by rw [hSD]; rfl
        have n2' : sumTo (fun i => (accAt R l D i).good) (k + 1) = SG + (accAt R l D k).good := by rw [hSG]; rfl
        rw [← hSD] at s0 s1 hF ⊢
        rw [← hSG] at s2 s3 hF ⊢
        obtain ⟨X, hX⟩ : ∃ X, X = accAt R l D k := ⟨_, rfl⟩
        rw [← hX] at n1' n2' q0 q1 q2 q3 v0 v1 d0 d1 g0 g1 hb
        clear hSD hSG hX HF
        obtain ⟨va, gd, du, ba⟩ := X
        simp only at n1' n2' q0 q1 q2 q3 v0 v1 d0 d1 g0 g1 hb
        subst hb
        have f0 : -2400000000000000 ≤ F := by omega
        have f1 : F ≤ 2400000000000000 := by omega
        have HF := Lib.hid hF
        have N1 := Lib.hid n1'
        have N2 := Lib.hid n2'
        clear hF n1' n2'
        go_wp2_with fail
        go_quiet (fail)
        go_wp2_with fail
        go_roundw
        case rel => exact ⟨k + 1, F + (du - gd), by omega, by go_num, by rw [N1.out], by rw [N2.out], rfl, Lib.hid (by rw [N1.out, N2.out, HF.out]; omega), below_drewN (hbw.alloc hsz _) _, below_drewN (hbw2.alloc hsz2 _) _⟩
        case measure => simp [intOf]; omega
      · have hkN : k = N := by omega
        subst hkN
        have hF : F = 0 := by rw [HF.out, HD.out, HGo.out]; omega
        subst hF
        rw [HD.out, HGo.out]
        have hrx := hrw.below (hbw2.mono hB2)
        have hBx : B ≤ wr.heap.size := Nat.le_trans hB2 hsz2
        clear HF HD HGo HE HG HB
        go_wp2_with (at_builtin; refine wpList_copy_all note_elem rfl (.tmp 139) (.tmp 140) rfl hrx hBx rfl rfl (notesV_one l) (by omega) (by omega) ?_; intro v4 w4 hown4 hb4)
        have hr4 := Rd.of_own hown4
        clear hown4
        obtain ⟨A4, k4, rfl, hnc4⟩ := hr4.shape
        go_wp2_with fail
        refine (C2.out _ _ hr4).mono ?_
        rintro e w5 ⟨v5, rfl, ho5, hb5⟩
        have b5 : Below w.heap.size w w5 := (hbw.trans (hb4.mono hsz)).trans (hb5.mono (Nat.le_trans hsz hb4.size))
        clear ho5 hb5 hr4 hb4
        rcases hE2 with rfl | ⟨rfl, hT2⟩
        · go_wp2_with fail
          refine (known_any _).mono ?_
          rintro e w6 ⟨rfl, hb6⟩
          go_wp2_with fail
          go_ret
          exact ⟨rfl, b5.trans (hb6.mono b5.size)⟩
        · go_wp2_with fail
          refine (known_any _).mono ?_
          rintro e w6 ⟨rfl, hb6⟩
          go_wp2_with fail
          go_ret
          exact ⟨rfl, b5.trans (hb6.mono b5.size)⟩
  · obtain ⟨E, hE⟩ : ∃ E, E = (adjSpec N R l).2.2.2 := ⟨_, rfl⟩
    obtain ⟨g1, g2⟩ := adj_bad hbad
    have c1 := fun (W : World) (u : Value) (h : Rd W W.heap.size 3 u l.length (notesV l)) => hany R W u h
    unfold AdjPost at c1
    rw [g1, g2, ← hE] at c1
    simp only [List.length_nil] at c1
    rw [← hE] at hbad
    have hE' : (E != 0) = true := by simpa using hbad
    have C1 := Lib.hid c1
    clear c1 hany hbad g1 g2 hE
    go_enter Try.func7, Try.ntmps7
    go_wp2_with (at_builtin; refine wpList_copy_all note_elem rfl (.tmp 35) (.tmp 36) rfl hr hB rfl rfl (notesV_one l) (by omega) (by omega) ?_; intro v1 w1 hown1 hb1)
    have hr1 := Rd.of_own hown1
    clear hown1
    obtain ⟨A1, k1, rfl, hnc1⟩ := hr1.shape
    go_wp2_with fail
    refine (C1.out _ _ hr1).mono ?_
    rintro e w2 ⟨v2, rfl, ho2, hb2⟩
    have hr2 := Rd.of_own ho2
    clear ho2
    obtain ⟨A2, k2, rfl, hnc2⟩ := hr2.shape
    have b2 : Below w.heap.size w w2 := Below.on hb1 hb2 hb1.size
    clear hr1 hb1 hb2 hr hr2
    go_wp2_with fail
    refine (known_any _).mono ?_
    rintro e w6 ⟨rfl, hb6⟩
    go_wp2_with fail
    go_ret
    exact ⟨rfl, b2.trans (hb6.mono b2.size)⟩
end Go.Proofs.Ytkbfdgacnoadlaa
