/- Law AverageTanks, its walk. -/
import Derived.Test.YtkbfdgacnoadlaaTanksMath
import Derived.Test.YtkbfdgacnoadlaaL11
import Derived.Test.YtkbfdgacnoadlaaR3
import Derived.Test.YtkbfdgacnoadlaaShMath
import Derived.Lib.QuietBelow
namespace Go.Proofs.Ytkbfdgacnoadlaa
open Go.RowKit

set_option maxHeartbeats 1000000 in
theorem pick_any (lo hi u : Int) (w : World) (h : lo ≤ hi) (h0 : -1000000000 ≤ lo) (h1 : hi ≤ 1000000000) (hu : 0 ≤ u ∧ u ≤ 255) :
    Calls Try.prog 33 #[.agg #[.int .i64 lo, .int .i64 hi], .int .u8 u] w fun e w' => e = .returned (.int .i64 (pickL lo hi u)) ∧ Below w.heap.size w w' := by
  have p1 : 0 ≤ (hi - lo) * u := Int.mul_nonneg (by omega) hu.1
  have p2 : (hi - lo) * u ≤ (hi - lo) * 255 := Int.mul_le_mul_of_nonneg_left hu.2 (by omega)
  have hp := pick_bd h hu
  unfold pickL at hp ⊢
  have s1 : IntKind.i64.wrap (hi - lo) = hi - lo := IntWalk.i64_in _ ⟨by omega, by omega⟩
  have s2 : IntKind.i64.wrap u = u := IntWalk.i64_in _ ⟨by omega, by omega⟩
  have s3 : IntKind.i64.wrap ((hi - lo) * u) = (hi - lo) * u := IntWalk.i64_in _ ⟨by omega, by omega⟩
  have s4 : IntKind.i64.wrap (((hi - lo) * u).tdiv 255) = ((hi - lo) * u).tdiv 255 := IntWalk.i64_in _ ⟨by omega, by omega⟩
  have s5 : IntKind.i64.wrap (lo + ((hi - lo) * u).tdiv 255) = lo + ((hi - lo) * u).tdiv 255 := IntWalk.i64_in _ ⟨by omega, by omega⟩
  clear p1 p2 hp
  go_enter Try.func33, Try.ntmps33
  go_wp2_with fail
  go_ret
  exact ⟨rfl, (Below.refl _ _).alloc (Nat.le_refl _) _⟩
theorem part_below (l : List Int) (i : Nat) (z : Int) (hz : z = i) (v : Value) (n : Nat) (w : World) (B : Nat) (hr : Rd w B 1 v n (u8s l)) (hn : n ≤ 9223372036854775807) (hi : i ≤ 9223372036854775807) :
    Calls Try.prog 24 #[v, .int .i64 z] w fun e w' => e = .returned (.int .u8 (at0 l (i % l.length))) ∧ Below w.heap.size w w' := by
  subst hz
  exact (part_any l i v n w B hr hn hi).mono fun e w' h => ⟨h.1, h.2 ▸ Below.refl _ _⟩
theorem Rd.goAlloc {w w1 : World} {size n : Nat} {v : Value} {xs : List Value} (h : Rd w w.heap.size size v n xs) (hb : Below w.heap.size w w1) (o : Obj) : Rd (w1.alloc o) (w1.alloc o).heap.size size v n xs := ((h.go hb).alloc (Nat.le_refl _) o).more (by simp)
theorem burn_bad {l : List Sd} {b : List Bk} (p q : Int) (h : tankErr l b = 2) : burnErr l b p q = 2 := by rw [burnErr, if_neg (by rw [h]; omega), h]
theorem tmod_lt {u m : Int} (hu : 0 ≤ u) (hm : 0 < m) : ∃ k : Nat, u.tmod m = k ∧ (k : Int) < m := by
  have h := Int.emod_nonneg u (show m ≠ 0 by omega)
  have h2 := Int.emod_lt_of_pos u hm
  refine ⟨(u % m).toNat, ?_, by omega⟩
  rw [Int.tmod_eq_emod_of_nonneg hu]
  omega

set_option maxHeartbeats 40000000 in
set_option maxRecDepth 100000 in
theorem tanks_law (l : List Sd) (b : List Bk) (by' : List Int) (r : Int) (vs vb vy : Value) (w : World) (B : Nat) (hr : Rd w B 3 vs l.length (sdsV l)) (hs : Rd w B 2 vb b.length (bksV b)) (hy : Rd w B 1 vy by'.length (u8s by')) (hB : B ≤ w.heap.size)
    (hu : ∀ x ∈ by', 0 ≤ x ∧ x ≤ 255) (hr0 : 0 ≤ r) (hr1 : r ≤ 65535) (hbl : by'.length ≤ 9223372036854775807) :
    Calls Try.prog 13 #[.agg #[vs, vb], vy, .int .u16 r] w fun e w' => e = .returned (.bool true) ∧ Below w.heap.size w w' := by
  obtain ⟨A, c, rfl, hnc⟩ := hr.shape
  obtain ⟨A', c', rfl, hnc'⟩ := hs.shape
  obtain ⟨A'', c'', rfl, hnc''⟩ := hy.shape
  by_cases hbad : l.length < 3 ∨ 100 < l.length ∨ 100 < b.length
  · have hp : (decide ((l.length : Int) < 3) = true) ∨ (decide ((l.length : Int) < 3) = false ∧ decide ((100 : Int) < (l.length : Int)) = true) ∨ (decide ((l.length : Int) < 3) = false ∧ decide ((100 : Int) < (l.length : Int)) = false ∧ decide ((100 : Int) < (b.length : Int)) = true) := by
      by_cases h1 : l.length < 3
      · exact .inl (decide_eq_true (by omega))
      · by_cases h2 : 100 < l.length
        · exact .inr (.inl ⟨decide_eq_false (by omega), decide_eq_true (by omega)⟩)
        · exact .inr (.inr ⟨decide_eq_false (by omega), decide_eq_false (by omega), decide_eq_true (by omega)⟩)
    clear hbad
    rcases hp with k1 | ⟨k1, k2⟩ | ⟨k1, k2, k3⟩
    all_goals
      go_enter Try.func13, Try.ntmps13
      go_wp2_with fail
      refine (known_any _).mono ?_
      rintro e w1 ⟨rfl, hb⟩
      go_wp2_with fail
      go_ret
      exact ⟨rfl, ((Below.refl _ _).alloc (Nat.le_refl _) _).trans (hb.mono (by simp))⟩
  · have k1 : decide ((l.length : Int) < 3) = false := decide_eq_false (by omega)
    have k2 : decide ((100 : Int) < (l.length : Int)) = false := decide_eq_false (by omega)
    have k3 : decide ((100 : Int) < (b.length : Int)) = false := decide_eq_false (by omega)
    have hl3 : 3 ≤ l.length := by omega
    have hl100 : l.length ≤ 100 := by omega
    have hb100 : b.length ≤ 100 := by omega
    clear hbad
    go_enter Try.func13, Try.ntmps13
    go_upto_region 3 with (fail)
    have qT := Blk.new w 69 #[.slice A l.length c, .slice A' b.length c']
    have hb0 : Below w.heap.size w (w.alloc (.cells #[.slice A l.length c, .slice A' b.length c'] 69)) := (Below.refl _ _).alloc (Nat.le_refl _) _
    generalize (w.alloc (.cells #[.slice A l.length c, .slice A' b.length c'] 69)) = wx at qT hb0 ⊢
    obtain ⟨C, eC⟩ : ∃ C, C = B := ⟨_, rfl⟩
    have hC : C ≤ w.heap.size := by omega
    rw [← eC] at hs
    have hrx := hr.below (hb0.mono hB)
    have hsx := hs.below (hb0.mono hC)
    have hyx := hy.below (hb0.mono hB)
    have hBx : B ≤ wx.heap.size := Nat.le_trans hB hb0.size
    have hCx : C ≤ wx.heap.size := Nat.le_trans hC hb0.size
    have hTl := qT.lt
    have z0 : wx.cell? ⟨w.heap.size, 0, none⟩ = some (.slice A l.length c) := qT.cell 0
    have z1 : wx.cell? ⟨w.heap.size, 1, none⟩ = some (.slice A' b.length c') := qT.cell 1
    clear hr hs hy k1 k2 k3
    go_cut [7, 8] (fun v1 v2 wc => CopyPost wx l b v1 v2 wc)
    case first =>
      as_aux_lemma =>
            go_region_held3 (fun w' => w'.cell? ⟨w.heap.size, 0, none⟩ = some (.slice A l.length c) ∧ w'.cell? ⟨w.heap.size, 1, none⟩ = some (.slice A' b.length c'))
              (first
                | go_keep
                | (go_split_ands
                   refine ⟨?_, ?_⟩ <;> first | exact cell_off hg1 (by assumption) (by first | omega | (simp; done) | (simp; omega)) | exact cell_off hg2 (by assumption) (by first | omega | (simp; done) | (simp; omega))))
              (first | (first | (refine step_copy sd_elem (by rfl) (.tmp 47) (.tmp 49) (by rfl) _ wx.heap.size (by rfl) (by first | exact (Blk.new wx _ _).drew | exact ((Blk.new wx _ _).alloc _).drew | exact (blk_new2 wx _ _ _).drew) (by first | omega | (simp; done) | (simp; omega)) (by rfl) (by first | exact (hrx.alloc hBx _).drew | exact ((hrx.alloc hBx _).alloc (by simp; omega) _).drew) (sdsV_one l) (by omega) (by omega) ?_; intro v1 w3 hown1 hg1 hat1; have hs3 : Rd w3 C 2 (.slice A' b.length c') b.length (bksV b) := Rd.off (by first | exact (hsx.alloc hCx _).drew | exact ((hsx.alloc hCx _).alloc (by simp; omega) _).drew) hg1 (by first | omega | (simp; done) | (simp; omega)) (by first | omega | (simp; done) | (simp; omega)); have hbl3 : Below wx.heap.size wx w3 := Below.off (by first | exact ((Below.refl wx.heap.size wx).alloc (Nat.le_refl _) _).drew | exact (((Below.refl wx.heap.size wx).alloc (Nat.le_refl _) _).alloc (by simp) _).drew) hg1 (by first | omega | (simp; done) | (simp; omega)) (by first | omega | (simp; done) | (simp; omega)); have hsz3 : wx.heap.size ≤ w3.heap.size := hbl3.size; try first | (have hbB : Blk w3 (wx.heap.size + 1) 80 #[] := Blk.grown (blk_new2 wx _ _ _).drew hg1 (by simp); have hn1 : v1.ownBlock ≠ some (wx.heap.size + 1) := own_not hat1 (by first | omega | (simp; done) | (simp; omega)) (by first | omega | (simp; done) | (simp; omega))) | (have hbB : Blk w3 wx.heap.size 80 #[] := Blk.grown ((Blk.new wx _ _).alloc _).drew hg1 (by simp); have hn1 : v1.ownBlock ≠ some wx.heap.size := own_not hat1 (by first | omega | (simp; done) | (simp; omega)) (by first | omega | (simp; done) | (simp; omega)))) | (refine step_copy bk_elem (by rfl) (.tmp 51) (.tmp 53) (by rfl) _ wx.heap.size (by rfl) (by first | exact hbB | exact Blk.new _ _ _) (by first | omega | (simp; done) | (simp; omega)) (by rfl) (by first | exact hs3 | exact hs3.alloc (by first | omega | (simp; done) | (simp; omega)) _) (bksV_one b) (by omega) (by omega) ?_; intro v2 w4 hown2 hg2 hat2; have hU : w4.ownsRow wx.heap.size 78 3 v1 l.length (sdsV l) := own_off (by first | exact hown1 | exact hown1.alloc _) hg2 (by first | exact hn1 | exact own_ne hown1 (Nat.le_refl _)); have hbl4 : Below wx.heap.size wx w4 := Below.off (by first | exact hbl3 | exact hbl3.alloc (by first | omega | (simp; done) | (simp; omega)) _) hg2 (by first | omega | (simp; done) | (simp; omega)) (by first | omega | (simp; done) | (simp; omega)))) | fail)
            all_goals
              go_wp2_with fail
              go_meet
              obtain ⟨A1, k1, rfl, _⟩ := (Rd.of_own hU).shape
              obtain ⟨A2, k2, rfl, _⟩ := (Rd.of_own hown2).shape
              exact ⟨_, _, _, _, rfl, rfl, Rd.of_own hU, Rd.of_own hown2, hbl4⟩
    case rest =>
      obtain ⟨A1, k1, A2, k2, rfl, rfl, r1, r2, hbc⟩ := hcut
      have hw0 : Below w.heap.size w wc := hb0.trans (hbc.mono hb0.size)
      have hyc := hyx.below (hbc.mono hBx)
      have hBc : B ≤ wc.heap.size := Nat.le_trans hB hw0.size
      clear z0 z1 hrx hsx hyx hbc hb0 qT hTl
      obtain ⟨u0, eu0⟩ : ∃ u, u = at0 by' (0 % by'.length) := ⟨_, rfl⟩
      obtain ⟨u1, eu1⟩ : ∃ u, u = at0 by' (1 % by'.length) := ⟨_, rfl⟩
      obtain ⟨u2, eu2⟩ : ∃ u, u = at0 by' (2 % by'.length) := ⟨_, rfl⟩
      have bu0 := at0_nonneg hu (by omega) (0 % by'.length)
      have bu1 := at0_nonneg hu (by omega) (1 % by'.length)
      have bu2 := at0_nonneg hu (by omega) (2 % by'.length)
      have hp0 := part_any by' 0 _ _ wc B hyc hbl (by omega)
      have hp1 := part_any by' 1 _ _ wc B hyc hbl (by omega)
      have hp2 := part_any by' 2 _ _ wc B hyc hbl (by omega)
      rw [← eu0] at bu0 hp0
      rw [← eu1] at bu1 hp1
      rw [← eu2] at bu2 hp2
      obtain ⟨I, eI, hI⟩ := tmod_lt (u := u0) (m := (l.length : Int) - 2) bu0.1 (by omega)
      obtain ⟨D1, eD1, hD1⟩ := tmod_lt (u := u1) (m := (l.length : Int) - 2 - I) bu1.1 (by omega)
      obtain ⟨J, eJ⟩ : ∃ J : Nat, J = I + 1 + D1 := ⟨_, rfl⟩
      obtain ⟨D2, eD2, hD2⟩ := tmod_lt (u := u2) (m := (l.length : Int) - 1 - J) bu2.1 (by omega)
      obtain ⟨K, eK⟩ : ∃ K : Nat, K = J + 1 + D2 := ⟨_, rfl⟩
      have hIJ : I < J := by omega
      have hJK : J < K := by omega
      have hKl : K < l.length := by omega
      have g1 : IntKind.i64.wrap ((l.length : Int) - 2) = (l.length : Int) - 2 := IntWalk.i64_in _ ⟨by omega, by omega⟩
      have g2 : IntKind.i64.wrap u0 = u0 := IntWalk.i64_in _ ⟨by omega, by omega⟩
      have g3 : IntKind.i64.wrap u1 = u1 := IntWalk.i64_in _ ⟨by omega, by omega⟩
      have g4 : IntKind.i64.wrap u2 = u2 := IntWalk.i64_in _ ⟨by omega, by omega⟩
      have g5 : IntKind.i64.wrap (I : Int) = I := IntWalk.i64_in _ ⟨by omega, by omega⟩
      have g6 : IntKind.i64.wrap ((I : Int) + 1) = (I : Int) + 1 := IntWalk.i64_in _ ⟨by omega, by omega⟩
      have g7 : IntKind.i64.wrap ((l.length : Int) - 2 - I) = (l.length : Int) - 2 - I := IntWalk.i64_in _ ⟨by omega, by omega⟩
      have g8 : IntKind.i64.wrap (D1 : Int) = D1 := IntWalk.i64_in _ ⟨by omega, by omega⟩
      have g9 : IntKind.i64.wrap ((I : Int) + 1 + D1) = J := by rw [IntWalk.i64_in _ ⟨by omega, by omega⟩]; omega
      have g10 : IntKind.i64.wrap ((J : Int) + 1) = (J : Int) + 1 := IntWalk.i64_in _ ⟨by omega, by omega⟩
      have g11 : IntKind.i64.wrap ((l.length : Int) - 1) = (l.length : Int) - 1 := IntWalk.i64_in _ ⟨by omega, by omega⟩
      have g12 : IntKind.i64.wrap ((l.length : Int) - 1 - J) = (l.length : Int) - 1 - J := IntWalk.i64_in _ ⟨by omega, by omega⟩
      have g13 : IntKind.i64.wrap (D2 : Int) = D2 := IntWalk.i64_in _ ⟨by omega, by omega⟩
      have g14 : IntKind.i64.wrap ((J : Int) + 1 + D2) = K := by rw [IntWalk.i64_in _ ⟨by omega, by omega⟩]; omega
      have m1 : ((l.length : Int) - 2 == 0) = false := by simp; omega
      have m2 : ((l.length : Int) - 2 - I == 0) = false := by simp; omega
      have m3 : ((l.length : Int) - 1 - J == 0) = false := by simp; omega
      have n1 : ¬ ((l.length : Int) - 2 = 0) := by omega
      have n2 : ¬ ((l.length : Int) - 2 - I = 0) := by omega
      have n3 : ¬ ((l.length : Int) - 1 - J = 0) := by omega
      obtain ⟨X, eX⟩ : ∃ X, X = burnSpec l b I J := ⟨_, rfl⟩
      obtain ⟨Y, eY⟩ : ∃ X, X = burnSpec l b J K := ⟨_, rfl⟩
      obtain ⟨Z, eZ⟩ : ∃ X, X = burnSpec l b I K := ⟨_, rfl⟩
      obtain ⟨E, eE⟩ : ∃ X, X = burnErr l b I J := ⟨_, rfl⟩
      obtain ⟨F, eF⟩ : ∃ X, X = burnErr l b J K := ⟨_, rfl⟩
      obtain ⟨G, eG⟩ : ∃ X, X = burnErr l b I K := ⟨_, rfl⟩
      have hca := fun (W : World) (h1 : Rd W W.heap.size 3 (.slice A1 l.length k1) l.length (sdsV l)) (h2 : Rd W W.heap.size 2 (.slice A2 b.length k2) b.length (bksV b)) => burned_any l b I J _ _ W _ _ h1 (Nat.le_refl _) h2 (Nat.le_refl _) (by omega) (by omega)
      have hcb := fun (W : World) (h1 : Rd W W.heap.size 3 (.slice A1 l.length k1) l.length (sdsV l)) (h2 : Rd W W.heap.size 2 (.slice A2 b.length k2) b.length (bksV b)) => burned_any l b J K _ _ W _ _ h1 (Nat.le_refl _) h2 (Nat.le_refl _) (by omega) (by omega)
      have hcc := fun (W : World) (h1 : Rd W W.heap.size 3 (.slice A1 l.length k1) l.length (sdsV l)) (h2 : Rd W W.heap.size 2 (.slice A2 b.length k2) b.length (bksV b)) => burned_any l b I K _ _ W _ _ h1 (Nat.le_refl _) h2 (Nat.le_refl _) (by omega) (by omega)
      rw [← eX, ← eE] at hca
      rw [← eY, ← eF] at hcb
      rw [← eZ, ← eG] at hcc
      unfold BurnPost at hca hcb hcc
      have HX := Lib.hid eX
      have HY := Lib.hid eY
      have HZ := Lib.hid eZ
      have HE := Lib.hid eE
      have HF := Lib.hid eF
      have HG := Lib.hid eG
      have Ca := Lib.hid hca
      have Cb := Lib.hid hcb
      have Cc := Lib.hid hcc
      obtain ⟨x1, x2⟩ := X
      obtain ⟨y1, y2⟩ := Y
      obtain ⟨z1, z2⟩ := Z
      clear eX eY eZ eE eF eG hca hcb hcc
      clear eu0 eu1 eu2 eJ eK hI hD1 hD2
      as_aux_lemma =>
        go_wp2_with fail
        refine hp0.mono ?_
        rintro e w' ⟨rfl, rfl⟩
        go_wp2_with fail
        refine hp1.mono ?_
        rintro e w' ⟨rfl, rfl⟩
        go_wp2_with fail
        refine hp2.mono ?_
        rintro e w' ⟨rfl, rfl⟩
        go_wp2_with fail
        clear hp0 hp1 hp2 bu0 bu1 bu2 eI eD1 eD2 g1 g2 g3 g4 g5 g6 g7 g8 g9 g10 g11 g12 g13 g14 m1 m2 m3 n1 n2 n3
        as_aux_lemma =>
          refine (Ca.out wc r1 r2).mono ?_
          rintro e wq ⟨rfl, hbq⟩
          replace r1 := r1.goAlloc hbq (.cells #[.int .i64 x1, .int .i64 x2] 72)
          replace r2 := r2.goAlloc hbq (.cells #[.int .i64 x1, .int .i64 x2] 72)
          replace hyc := (hyc.below (hbq.mono hBc)).alloc (Nat.le_trans hBc hbq.size) (.cells #[.int .i64 x1, .int .i64 x2] 72)
          replace hw0 := (Below.on hw0 hbq hw0.size).alloc (Nat.le_trans hw0.size hbq.size) (.cells #[.int .i64 x1, .int .i64 x2] 72)
          have qx := Blk.new wq 72 #[.int .i64 x1, .int .i64 x2]
          have hBd : B ≤ (wq.alloc (.cells #[.int .i64 x1, .int .i64 x2] 72)).heap.size := Nat.le_trans hB hw0.size
          clear hBc hbq Ca
          have hBc := hBd
          clear hBd
          go_wp2_with fail
          obtain ⟨gx, egx⟩ : ∃ g, g = wq.heap.size := ⟨_, rfl⟩
          rw [← egx] at qx ⊢
          clear egx
          obtain ⟨Ux, eUx⟩ : ∃ v, v = wq.alloc (.cells #[.int .i64 x1, .int .i64 x2] 72) := ⟨_, rfl⟩
          rw [← eUx] at r1 r2 hyc hw0 hBc qx  ⊢
          clear eUx
          as_aux_lemma =>
            refine (Cb.out Ux r1 r2).mono ?_
            rintro e wq ⟨rfl, hbq⟩
            replace r1 := r1.goAlloc hbq (.cells #[.int .i64 y1, .int .i64 y2] 72)
            replace r2 := r2.goAlloc hbq (.cells #[.int .i64 y1, .int .i64 y2] 72)
            replace hyc := (hyc.below (hbq.mono hBc)).alloc (Nat.le_trans hBc hbq.size) (.cells #[.int .i64 y1, .int .i64 y2] 72)
            replace hw0 := (Below.on hw0 hbq hw0.size).alloc (Nat.le_trans hw0.size hbq.size) (.cells #[.int .i64 y1, .int .i64 y2] 72)
            have qy := Blk.new wq 72 #[.int .i64 y1, .int .i64 y2]
            replace qx := (qx.below hbq qx.lt).alloc (.cells #[.int .i64 y1, .int .i64 y2] 72)
            have hBd : B ≤ (wq.alloc (.cells #[.int .i64 y1, .int .i64 y2] 72)).heap.size := Nat.le_trans hB hw0.size
            clear hBc hbq Cb
            have hBc := hBd
            clear hBd
            go_wp2_with fail
            obtain ⟨gy, egy⟩ : ∃ g, g = wq.heap.size := ⟨_, rfl⟩
            rw [← egy] at qy ⊢
            clear egy
            obtain ⟨Uy, eUy⟩ : ∃ v, v = wq.alloc (.cells #[.int .i64 y1, .int .i64 y2] 72) := ⟨_, rfl⟩
            rw [← eUy] at r1 r2 hyc hw0 hBc qy qx ⊢
            clear eUy
            as_aux_lemma =>
              refine (Cc.out Uy r1 r2).mono ?_
              rintro e wq ⟨rfl, hbq⟩
              replace r1 := r1.goAlloc hbq (.cells #[.int .i64 z1, .int .i64 z2] 72)
              replace r2 := r2.goAlloc hbq (.cells #[.int .i64 z1, .int .i64 z2] 72)
              replace hyc := (hyc.below (hbq.mono hBc)).alloc (Nat.le_trans hBc hbq.size) (.cells #[.int .i64 z1, .int .i64 z2] 72)
              replace hw0 := (Below.on hw0 hbq hw0.size).alloc (Nat.le_trans hw0.size hbq.size) (.cells #[.int .i64 z1, .int .i64 z2] 72)
              have qz := Blk.new wq 72 #[.int .i64 z1, .int .i64 z2]
              replace qx := (qx.below hbq qx.lt).alloc (.cells #[.int .i64 z1, .int .i64 z2] 72)
              replace qy := (qy.below hbq qy.lt).alloc (.cells #[.int .i64 z1, .int .i64 z2] 72)
              have hBd : B ≤ (wq.alloc (.cells #[.int .i64 z1, .int .i64 z2] 72)).heap.size := Nat.le_trans hB hw0.size
              clear hBc hbq Cc
              have hBc := hBd
              clear hBd
              go_upto_region 11 with (fail)
              obtain ⟨gz, egz⟩ : ∃ g, g = wq.heap.size := ⟨_, rfl⟩
              rw [← egz] at qz ⊢
              clear egz
              obtain ⟨Uz, eUz⟩ : ∃ v, v = wq.alloc (.cells #[.int .i64 z1, .int .i64 z2] 72) := ⟨_, rfl⟩
              rw [← eUz] at r1 r2 hyc hw0 hBc qz qx qy ⊢
              clear eUz
              have cx0 : Uz.cell? ⟨gx, 0, none⟩ = some (.int .i64 x1) := qx.cell 0
              have cx1 : Uz.cell? ⟨gx, 1, none⟩ = some (.int .i64 x2) := qx.cell 1
              have cy0 : Uz.cell? ⟨gy, 0, none⟩ = some (.int .i64 y1) := qy.cell 0
              have cy1 : Uz.cell? ⟨gy, 1, none⟩ = some (.int .i64 y2) := qy.cell 1
              have cz0 : Uz.cell? ⟨gz, 0, none⟩ = some (.int .i64 z1) := qz.cell 0
              have cz1 : Uz.cell? ⟨gz, 1, none⟩ = some (.int .i64 z2) := qz.cell 1
              clear hBx hCx hC eC hnc hnc'
              as_aux_lemma =>
                by_cases hT : tankErr l b = 0
                · by_cases hEF : burnErr l b I J = 0 ∧ burnErr l b J K = 0
                  · obtain ⟨hE, hF⟩ := hEF
                    have h3 := three_of hT hIJ hJK hKl hE hF
                    rw [← HE.out] at hE
                    rw [← HF.out] at hF
                    subst hE hF
                    rcases h3 with ⟨hG, hZ⟩ | ⟨hG, h3⟩
                    · rw [← HG.out] at hG
                      rw [← HZ.out] at hZ
                      injection hZ with hZ1 hZ2
                      subst hG hZ1 hZ2
                      as_aux_lemma =>
                        go_wp2_with fail
                        refine (known_any _).mono ?_
                        rintro e wk ⟨rfl, hbk⟩
                        go_wp2_with fail
                        go_ret
                        exact ⟨rfl, Below.on hw0 hbk hw0.size⟩
                    · rw [← HG.out] at hG
                      subst hG
                      have x10 := h3.x0
                      have x12 := h3.x1
                      have x2b := h3.x2
                      have y10 := h3.y0
                      have y12 := h3.y1
                      have y2b := h3.y2
                      have z10 := h3.z0
                      have z12 := h3.z1
                      have zxy := h3.z2
                      have hlow := h3.low
                      have htrue := h3.true_
                      rw [← HX.out] at x10 x12 x2b zxy hlow
                      rw [← HY.out] at y10 y12 y2b zxy hlow
                      rw [← HZ.out] at z10 z12 zxy hlow htrue
                      simp only at x10 x12 x2b y10 y12 y2b z10 z12 zxy hlow htrue
                      have Htrue := Lib.hid htrue
                      have H0 := Lib.hid hT
                      clear h3 htrue HE HF HG HX HY HZ hT
                      have t1 : decide (x2 + y2 < z2) = false := decide_eq_false (by omega)
                      have t2 : decide (z1 < 0) = false := decide_eq_false (by omega)
                      have t3 : decide (z2 < z1) = false := decide_eq_false (by omega)
                      have t4 : decide (x2 < x1) = false := decide_eq_false (by omega)
                      have s1 : IntKind.i64.wrap (x2 + y2) = x2 + y2 := IntWalk.i64_in _ ⟨by omega, by omega⟩
                      have s2 : IntKind.i64.wrap (x1 + y1) = x1 + y1 := IntWalk.i64_in _ ⟨by omega, by omega⟩
                      have hp : (decide (0 < x1) = false) ∨ (decide (0 < x1) = true ∧ decide (0 < y1) = false) ∨ (decide (0 < x1) = true ∧ decide (0 < y1) = true ∧ decide (z1 < x1 + y1) = false) := by
                        by_cases h1 : 0 < x1
                        · by_cases h2 : 0 < y1
                          · exact .inr (.inr ⟨decide_eq_true h1, decide_eq_true h2, decide_eq_false (by have := hlow h1 h2; omega)⟩)
                          · exact .inr (.inl ⟨decide_eq_true h1, decide_eq_false h2⟩)
                        · exact .inl (decide_eq_false h1)
                      clear hlow
                      go_upto_region 15 with (fail)
                      go_cut [186] (fun s186 wc => s186 = .bool false ∧ Uz = wc)
                      case first =>
                        as_aux_lemma =>
                          clear x10 x12 x2b y10 y12 y2b z10 z12 zxy
                          rcases hp with p1 | ⟨p1, p2⟩ | ⟨p1, p2, p3⟩
                          all_goals
                            as_aux_lemma =>
                              go_wp2_with fail
                              go_meet
                              exact ⟨rfl, rfl⟩
                      case rest =>
                        as_aux_lemma =>
                          obtain ⟨rfl, rfl⟩ := hcut
                          clear hp t1 t2 t3 t4 s1 s2 cx0 cx1 cy0 cy1 qx qy
                          obtain ⟨_, _, _, hbo, hso⟩ := tank_ok H0.out
                          have hmm := m_mono hso I K (by omega) hKl
                          have qi := sd_bd (hso I (by omega))
                          have qk := sd_bd (hso K hKl)
                          rw [show l[I]'(by omega) = l.getD I sd0 by simp [(by omega : I < l.length)]] at qi
                          rw [show l[K] = l.getD K sd0 by simp [hKl]] at qk
                          have Hbo := Lib.hid hbo
                          have Hso := Lib.hid hso
                          clear hbo hso
                          obtain ⟨bb, off, rfl, hbB, hc⟩ := sds_all r1 (by omega)
                          obtain ⟨ci0, ci1, ci2⟩ := hc I (by omega)
                          obtain ⟨ck0, ck1, ck2⟩ := hc K hKl
                          clear hc
                          obtain ⟨si, esi⟩ : ∃ x, x = l.getD I sd0 := ⟨_, rfl⟩
                          obtain ⟨sk, esk⟩ : ∃ x, x = l.getD K sd0 := ⟨_, rfl⟩
                          rw [← esi] at ci0 ci1 ci2 qi hmm Htrue
                          rw [← esk] at ck0 ck1 ck2 qk hmm Htrue
                          clear esi esk
                          obtain ⟨mi, ilo, ihi⟩ := si
                          obtain ⟨mk, klo, khi⟩ := sk
                          simp only at ci0 ci1 ci2 ck0 ck1 ck2 qi qk hmm
                          have Hi0 := Lib.hid ci0
                          have Hi1 := Lib.hid ci1
                          have Hi2 := Lib.hid ci2
                          have Hk0 := Lib.hid ck0
                          have Hk1 := Lib.hid ck1
                          have Hk2 := Lib.hid ck2
                          have i0 : (0 : Int) ≤ (I : Int) := Int.natCast_nonneg _
                          have k0 : (0 : Int) ≤ (K : Int) := Int.natCast_nonneg _
                          have i1 : (I : Int) < (l.length : Int) := by omega
                          have k1' : (K : Int) < (l.length : Int) := by omega
                          clear ci0 ci1 ci2 ck0 ck1 ck2
                          go_wp2_with fail
                          go_loopw [20, 21] (fun t i wr => ∃ m : Nat, m ≤ b.length ∧ i = .int .i64 m ∧ t = .int .i64 (between (b.take m) mi mk) ∧ Below Uz.heap.size Uz wr) (fun _ i _ => b.length - (intOf i).toNat)
                          case atStart => exact ⟨0, Nat.zero_le _, rfl, rfl, Below.refl _ _⟩
                          case round =>
                            obtain ⟨m, hm, rfl, rfl, hbw⟩ := hrel
                            have hsz := hbw.size
                            by_cases hlt : m < b.length
                            · as_aux_lemma =>
                                have c0 := keepc hbB Hi0.out hbw
                                have d0 := keepc hbB Hk0.out hbw
                                obtain ⟨gb, ob, rfl, hgb, y0, y1'⟩ := bks_cells b m hlt _ _ _ _ _ (r2.below hbw)
                                have a0 : (0 : Int) ≤ (m : Int) := Int.natCast_nonneg _
                                have a1 : (m : Int) < (b.length : Int) := by omega
                                have hyb := Hbo.out _ (List.getElem_mem hlt)
                                have hsn := between_snoc (b.take m) b[m] mi mk hmm
                                rw [← List.take_succ_eq_append_getElem hlt] at hsn
                                obtain ⟨t0, t1⟩ := between_bd (b := b.take m) (fun y hy => Hbo.out y (List.mem_of_mem_take hy)) (by rw [List.length_take]; omega) mi mk
                                obtain ⟨y, hy⟩ : ∃ y, y = b[m] := ⟨_, rfl⟩
                                rw [← hy] at y0 y1' hyb hsn
                                clear hy
                                obtain ⟨ym, yl⟩ := y
                                simp only [bkOk, Bool.and_eq_true, inB_iff] at hyb
                                simp only at y0 y1' hsn
                                obtain ⟨⟨q0, q1⟩, q2, q3⟩ := hyb
                                obtain ⟨T, eT⟩ : ∃ T, T = between (b.take m) mi mk := ⟨_, rfl⟩
                                rw [← eT] at t0 t1 hsn ⊢
                                have Hsn := Lib.hid hsn
                                clear hsn eT
                                by_cases g1 : mi < ym
                                · have g1' : decide (mi < ym) = true := decide_eq_true g1
                                  by_cases g2 : ym ≤ mk
                                  · have g2' : decide (ym ≤ mk) = true := decide_eq_true g2
                                    have Hf := Lib.hid (Hsn.out.trans (by rw [if_pos ⟨g1, g2⟩]))
                                    go_wp2_with fail
                                    go_quiet (fail)
                                    go_wp2_with fail
                                    go_roundw
                                    case rel => exact ⟨m + 1, by omega, by go_num, by rw [Hf.out], below_drewN hbw _⟩
                                    case measure => simp [intOf]; omega
                                  · have g2' : decide (ym ≤ mk) = false := decide_eq_false g2
                                    have Hf := Lib.hid (Hsn.out.trans (by rw [if_neg (fun h => g2 h.2), Int.add_zero]))
                                    go_wp2_with fail
                                    go_quiet (fail)
                                    go_wp2_with fail
                                    go_roundw
                                    case rel => exact ⟨m + 1, by omega, by go_num, by rw [Hf.out], below_drewN hbw _⟩
                                    case measure => simp [intOf]; omega
                                · have g1' : decide (mi < ym) = false := decide_eq_false g1
                                  have Hf := Lib.hid (Hsn.out.trans (by rw [if_neg (fun h => g1 h.1), Int.add_zero]))
                                  go_wp2_with fail
                                  go_quiet (fail)
                                  go_wp2_with fail
                                  go_roundw
                                  case rel => exact ⟨m + 1, by omega, by go_num, by rw [Hf.out], below_drewN hbw _⟩
                                  case measure => simp [intOf]; omega
                            · obtain rfl : m = b.length := by omega
                              rw [List.take_length]
                              have c1 := keepc hbB Hi1.out hbw
                              have c2 := keepc hbB Hi2.out hbw
                              have d1 := keepc hbB Hk1.out hbw
                              have d2 := keepc hbB Hk2.out hbw
                              go_upto_region 24 with (fail)
                              have hyr := hyc.below (hbw.mono hBc)
                              have hBr : B ≤ wr.heap.size := Nat.le_trans hBc hsz
                              have r1r := r1.go hbw
                              have r2r := r2.go hbw
                              have qzr := qz.below hbw qz.lt
                              have hwr := Below.on hw0 hbw hw0.size
                              have bT := between_bd Hbo.out hb100 mi mk
                              obtain ⟨u3, eu3⟩ : ∃ u, u = at0 by' (3 % by'.length) := ⟨_, rfl⟩
                              obtain ⟨u4, eu4⟩ : ∃ u, u = at0 by' (4 % by'.length) := ⟨_, rfl⟩
                              have bu3 := at0_nonneg hu (by omega) (3 % by'.length)
                              have bu4 := at0_nonneg hu (by omega) (4 % by'.length)
                              have hp3 := fun (d : Nat) (os : Array Obj) => Calls.regrown_of (d := d) (os := os) (w := wr) (part_below by' 3 3 rfl _ _ (Go.Sort.grow (redrawn wr d) os) B (hyr.below ((below_regrown wr d os).mono hBr)) hbl (by omega))
                              have hp4 := fun (d : Nat) (os : Array Obj) => Calls.regrown_of (d := d) (os := os) (w := wr) (part_below by' 4 4 rfl _ _ (Go.Sort.grow (redrawn wr d) os) B (hyr.below ((below_regrown wr d os).mono hBr)) hbl (by omega))
                              rw [← eu3] at bu3 hp3
                              rw [← eu4] at bu4 hp4
                              have kI := fun (d : Nat) (os : Array Obj) => Calls.regrown_of (d := d) (os := os) (w := wr) (pick_any ilo ihi u3 (Go.Sort.grow (redrawn wr d) os) (by omega) (by omega) (by omega) bu3)
                              have kK := fun (d : Nat) (os : Array Obj) => Calls.regrown_of (d := d) (os := os) (w := wr) (pick_any klo khi u4 (Go.Sort.grow (redrawn wr d) os) (by omega) (by omega) (by omega) bu4)
                              have bI := pick_bd (lo := ilo) (hi := ihi) (by omega) bu3
                              have bK := pick_bd (lo := klo) (hi := khi) (by omega) bu4
                              obtain ⟨pI, epI⟩ : ∃ u, u = pickL ilo ihi u3 := ⟨_, rfl⟩
                              obtain ⟨pK, epK⟩ : ∃ u, u = pickL klo khi u4 := ⟨_, rfl⟩
                              rw [← epI] at kI bI
                              rw [← epK] at kK bK
                              have hfin := Htrue.out pI pK bI.1 bI.2 bK.1 bK.2
                              obtain ⟨T, eT⟩ : ∃ T, T = between b mi mk := ⟨_, rfl⟩
                              rw [← eT] at bT hfin ⊢
                              have s1 : IntKind.i64.wrap (pI + T) = pI + T := IntWalk.i64_in _ ⟨by omega, by omega⟩
                              have s2 : IntKind.i64.wrap (pI + T - pK) = pI + T - pK := IntWalk.i64_in _ ⟨by omega, by omega⟩
                              have e1 := cell_regrown c1
                              have e2 := cell_regrown c2
                              have f1 := cell_regrown d1
                              have f2 := cell_regrown d2
                              have Hp3 := Lib.hid hp3
                              have Hp4 := Lib.hid hp4
                              have KI := Lib.hid kI
                              have KK := Lib.hid kK
                              have Hfin := Lib.hid hfin
                              clear hp3 hp4 kI kK hfin eT epI epK eu3 eu4 c1 c2 d1 d2 Htrue Hi0 Hi1 Hi2 Hk0 Hk1 Hk2 cz0 cz1 r1 r2 qz hyc hbw hw0 hsz hBc
                              refine wp_region_quiet_below (by kernel_rfl) (by kernel_rfl) ?_
                              repeat (go_big_quiet_step (first | (go_at_call 24; first | with_reducible exact Hp3.out _ _ | with_reducible exact Hp4.out _ _) | (go_at_call 33; first | with_reducible exact KI.out _ _ | with_reducible exact KK.out _ _)))
                              refine wpQuiet_nil ?_
                              intro _ hw'
                              obtain ⟨⟨dq, osq⟩, hw''⟩ := hw'
                              subst hw''
                              have hbV := below_regrown wr dq osq
                              have r1V := r1r.go hbV
                              have r2V := r2r.go hbV
                              have hyV := hyr.below (hbV.mono hBr)
                              have hwV := Below.on hwr hbV hwr.size
                              have hBV := Nat.le_trans hB hwV.size
                              have qzV := qzr.below hbV qzr.lt
                              clear e1 e2 f1 f2 Hp3 Hp4 KI KK r1r r2r hyr hwr qzr hbV hBr
                              generalize Go.Sort.grow (redrawn wr dq) osq = V at r1V r2V hyV hwV hBV qzV ⊢
                              have cz0 : V.cell? ⟨gz, 0, none⟩ = some (.int .i64 z1) := qzV.cell 0
                              have cz1 : V.cell? ⟨gz, 1, none⟩ = some (.int .i64 z2) := qzV.cell 1
                              obtain ⟨bn, ebn⟩ : ∃ x, x = pI + T - pK := ⟨_, rfl⟩
                              rw [← ebn] at Hfin ⊢
                              clear s1 s2 ebn bT bI bK bu3 bu4
                              as_aux_lemma =>
                                go_upto_region 25 with (fail)
                                go_cut [258] (fun s258 wc => s258 = .bool false ∧ V = wc)
                                case first =>
                                  as_aux_lemma =>
                                    by_cases hn : 0 ≤ bn
                                    · have n1 : decide (0 ≤ bn) = true := decide_eq_true hn
                                      have n2 : decide (bn < z1) = false := decide_eq_false (by have := (Hfin.out hn).1; omega)
                                      have n3 : decide (z2 < bn) = false := decide_eq_false (by have := (Hfin.out hn).2; omega)
                                      clear hn
                                      go_wp2_with fail
                                      go_meet
                                      exact ⟨rfl, rfl⟩
                                    · have n1 : decide (0 ≤ bn) = false := decide_eq_false hn
                                      clear hn
                                      go_wp2_with fail
                                      go_meet
                                      exact ⟨rfl, rfl⟩
                                case rest =>
                                  as_aux_lemma =>
                                    obtain ⟨rfl, rfl⟩ := hcut
                                    clear cz0 cz1 qzV Hfin x10 x12 x2b y10 y12 y2b z10 z12 zxy i0 k0 i1 k1' hmm qi qk hlt hm
                                    have hr16 : 0 ≤ r ∧ r ≤ 10000000 := by omega
                                    obtain ⟨u5, eu5⟩ : ∃ u, u = at0 by' (5 % by'.length) := ⟨_, rfl⟩
                                    have bu5 := at0_nonneg hu (by omega) (5 % by'.length)
                                    have hp5 := fun (W : World) (h : Rd W B 1 (.slice A'' by'.length c'') by'.length (u8s by')) => part_below by' 5 5 rfl _ _ W B h hbl (by omega)
                                    rw [← eu5] at bu5 hp5
                                    have mo1 := miss_on (b := b) (l := l) (r := r) H0.out hr16
                                    have mo2 := miss_on (b := b) (l := l) (r := r + 1 + u5) H0.out (by omega)
                                    have hmono := miss_mono (l := l) (b := b) (r := r) (r' := r + 1 + u5) H0.out (by omega) (by omega)
                                    have hnn := (missTo_ok (l := l) (b := b) (r := r + 1 + u5) l.length (Nat.le_refl _)).1.nonneg
                                    have hfound := miss_found (l := l) (b := b) (r := r) H0.out hr16
                                    have hc1 := missing_any l b r _ _ V _ _ r1V (Nat.le_refl _) r2V (Nat.le_refl _) (by omega) (by omega)
                                    have hc2 := fun (W : World) (h1 : Rd W W.heap.size 3 (.slice (some ⟨bb, off, none⟩) l.length k1) l.length (sdsV l)) (h2 : Rd W W.heap.size 2 (.slice A2 b.length k2) b.length (bksV b)) => missing_any l b (r + 1 + u5) _ _ W _ _ h1 (Nat.le_refl _) h2 (Nat.le_refl _) (by omega) (by omega)
                                    obtain ⟨T1, eT1⟩ : ∃ T, T = missTo l b r l.length := ⟨_, rfl⟩
                                    obtain ⟨T2, eT2⟩ : ∃ T, T = missTo l b (r + 1 + u5) l.length := ⟨_, rfl⟩
                                    rw [← eT1] at mo1 hmono hfound
                                    rw [← eT2] at mo2 hmono hnn
                                    rw [mo1.1, mo1.2] at hc1
                                    obtain ⟨m1, m2, m3⟩ := T1
                                    obtain ⟨a1, a2, a3⟩ := T2
                                    simp only at mo1 mo2 hmono hnn hfound hc1
                                    have w1 : IntKind.i64.wrap r = r := IntWalk.i64_in _ ⟨by omega, by omega⟩
                                    have w2 : IntKind.i64.wrap (r + 1) = r + 1 := IntWalk.i64_in _ ⟨by omega, by omega⟩
                                    have w3 : IntKind.i64.wrap u5 = u5 := IntWalk.i64_in _ ⟨by omega, by omega⟩
                                    have w4 : IntKind.i64.wrap (r + 1 + u5) = r + 1 + u5 := IntWalk.i64_in _ ⟨by omega, by omega⟩
                                    have Hp5 := Lib.hid hp5
                                    clear hp5 eT1 eT2 eu5 mo1
                                    by_cases hz : m3 = 0
                                    · as_aux_lemma =>
                                        have ha : a3 = 0 := by omega
                                        have hc2' : ∀ (W : World) (h1 : Rd W W.heap.size 3 (.slice (some ⟨bb, off, none⟩) l.length k1) l.length (sdsV l)) (h2 : Rd W W.heap.size 2 (.slice A2 b.length k2) b.length (bksV b)), Calls Try.prog 29 #[.slice (some ⟨bb, off, none⟩) l.length k1, .slice A2 b.length k2, .int .i64 (r + 1 + u5)] W fun e w' => e = .returned (.tuple #[.int .i64 0, .int .i64 0, .int .i64 0, .int .i64 7]) ∧ Below W.heap.size W w' := by
                                          intro W h1 h2
                                          have h := hc2 W h1 h2
                                          rw [mo2.1, mo2.2, if_pos ha, if_pos ha] at h
                                          exact h
                                        rw [if_pos hz, if_pos hz] at hc1
                                        have C1 := Lib.hid hc1
                                        have C2 := Lib.hid hc2'
                                        clear hc1 hc2 hc2' hfound hmono hnn mo2 hz ha bu5
                                        go_wp2_with fail
                                        refine C1.out.mono ?_
                                        rintro e V1 ⟨rfl, hb1⟩
                                        have r1W := r1V.go hb1
                                        have r2W := r2V.go hb1
                                        have hyW := hyV.below (hb1.mono hBV)
                                        have hwW := Below.on hwV hb1 hwV.size
                                        clear r1V r2V hyV hwV hb1 C1
                                        go_wp2_with fail
                                        refine (Hp5.out _ hyW).mono ?_
                                        rintro e V2 ⟨rfl, hb2⟩
                                        have r1X := r1W.go hb2
                                        have r2X := r2W.go hb2
                                        have hwX := Below.on hwW hb2 hwW.size
                                        clear r1W r2W hyW hwW hb2 Hp5
                                        go_wp2_with fail
                                        refine (C2.out _ r1X r2X).mono ?_
                                        rintro e V3 ⟨rfl, hb3⟩
                                        have hwY := Below.on hwX hb3 hwX.size
                                        clear r1X r2X hwX hb3 C2 w1 w2 w3 w4
                                        go_wp2_with fail
                                        refine (known_any _).mono ?_
                                        rintro e wk ⟨rfl, hbk⟩
                                        go_wp2_with fail
                                        go_ret
                                        exact ⟨rfl, Below.on hwY hbk hwY.size⟩
                                    · obtain ⟨i, j, hij, hj, rfl, rfl, hpos, hE0, hB1, hB2, hB3, hB4⟩ := hfound hz
                                      obtain ⟨b1, b2, L, F1, hF1, hL, hc2'⟩ : ∃ b1 b2 L F1 : Int, (F1 = 0 ∨ F1 = 7) ∧ L ≤ m3 ∧ ∀ (W : World) (_ : Rd W W.heap.size 3 (.slice (some ⟨bb, off, none⟩) l.length k1) l.length (sdsV l)) (_ : Rd W W.heap.size 2 (.slice A2 b.length k2) b.length (bksV b)), Calls Try.prog 29 #[.slice (some ⟨bb, off, none⟩) l.length k1, .slice A2 b.length k2, .int .i64 (r + 1 + u5)] W fun e w' => e = .returned (.tuple #[.int .i64 b1, .int .i64 b2, .int .i64 L, .int .i64 F1]) ∧ Below W.heap.size W w' := by
                                        by_cases ha : a3 = 0
                                        · refine ⟨0, 0, 0, 7, .inr rfl, by omega, fun W h1 h2 => ?_⟩
                                          have h := hc2 W h1 h2
                                          rw [mo2.1, mo2.2, if_pos ha, if_pos ha] at h
                                          exact h
                                        · refine ⟨a1, a2, a3, 0, .inl rfl, hmono, fun W h1 h2 => ?_⟩
                                          have h := hc2 W h1 h2
                                          rw [mo2.1, mo2.2, if_neg ha, if_neg ha] at h
                                          exact h
                                      rw [if_neg hz, if_neg hz] at hc1
                                      have hc3 := fun (W : World) (h1 : Rd W W.heap.size 3 (.slice (some ⟨bb, off, none⟩) l.length k1) l.length (sdsV l)) (h2 : Rd W W.heap.size 2 (.slice A2 b.length k2) b.length (bksV b)) => burned_any l b i j _ _ W _ _ h1 (Nat.le_refl _) h2 (Nat.le_refl _) (by omega) (by omega)
                                      unfold BurnPost at hc3
                                      rw [hE0] at hc3
                                      obtain ⟨S, eS⟩ : ∃ S, S = burnSpec l b i j := ⟨_, rfl⟩
                                      rw [← eS] at hc3 hB1 hB4
                                      obtain ⟨v1, v2⟩ := S
                                      simp only at hc3 hB1 hB4
                                      have bmi := sd_bd (Hso.out i (by omega))
                                      have bmj := sd_bd (Hso.out j hj)
                                      have hmij := m_mono Hso.out i j (by omega) hj
                                      rw [show l[i]'(by omega) = l.getD i sd0 by simp [(by omega : i < l.length)]] at bmi
                                      rw [show l[j] = l.getD j sd0 by simp [hj]] at bmj
                                      have pmi : -1 ≤ prevM l i := by
                                        rcases Nat.eq_zero_or_pos i with h | h
                                        · rw [h]; exact Int.le_refl _
                                        · obtain ⟨q, rfl⟩ : ∃ q, i = q + 1 := ⟨i - 1, by omega⟩
                                          rw [prevM_succ l (by omega)]
                                          have h1 := m_mono Hso.out 0 q (by omega) (by omega)
                                          have h2 := (sd_bd (Hso.out 0 (by omega))).1
                                          have e1 : l.getD 0 sd0 = l[0] := by simp [(by omega : 0 < l.length)]
                                          have e2 : l.getD q sd0 = l[q] := by simp [(by omega : q < l.length)]
                                          rw [e1, e2] at h1
                                          have : prevM l 0 = -1 := rfl
                                          omega
                                      obtain ⟨ni, eni⟩ : ∃ x, x = (l.getD i sd0).m := ⟨_, rfl⟩
                                      obtain ⟨nj, enj⟩ : ∃ x, x = (l.getD j sd0).m := ⟨_, rfl⟩
                                      rw [← eni] at hB1 hB2 hB3 bmi hmij
                                      rw [← enj] at hB1 hB2 hB3 bmj hmij
                                      have hbu := burnt_bd hr16 (show 0 ≤ nj - ni ∧ nj - ni ≤ 1000000 by omega)
                                      have hpr := prod_bd hr16 (show 0 ≤ nj - ni ∧ nj - ni ≤ 1000000 by omega)
                                      obtain ⟨D, eD⟩ : ∃ x, x = burnt r ni nj := ⟨_, rfl⟩
                                      rw [← eD] at hB1 hB2 hB3 hbu
                                      have j1 : decide ((i : Int) < 0) = false := decide_eq_false (by omega)
                                      have j2 : decide ((j : Int) ≤ (i : Int)) = false := decide_eq_false (by omega)
                                      have j3 : decide ((l.length : Int) ≤ (j : Int)) = false := decide_eq_false (by omega)
                                      have j3n : decide (l.length ≤ j) = false := decide_eq_false (by omega)
                                      have j2n : decide (j ≤ i) = false := decide_eq_false (by omega)
                                      have j4 : decide (m3 < 1) = false := decide_eq_false (by omega)
                                      have j5 : decide (m3 < L) = false := decide_eq_false (by omega)
                                      have C1 := Lib.hid hc1
                                      have C2 := Lib.hid hc2'
                                      have C3 := Lib.hid hc3
                                      have Eni := Lib.hid eni
                                      have Enj := Lib.hid enj
                                      have HB2 := Lib.hid hB2
                                      have HB1 := Lib.hid hB1
                                      have hd : 0 ≤ nj - ni ∧ nj - ni ≤ 1000000 := by omega
                                      clear hc1 hc2 hc2' hc3 hfound hmono hnn mo2 hz hL eS hE0 bu5 pmi eD eni enj hB2 hB1 bmi bmj hmij
                                      as_aux_lemma =>
                                        go_wp2_with fail
                                        refine C1.out.mono ?_
                                        rintro e V1 ⟨rfl, hb1⟩
                                        have r1W := r1V.go hb1
                                        have r2W := r2V.go hb1
                                        have hyW := hyV.below (hb1.mono hBV)
                                        have hwW := Below.on hwV hb1 hwV.size
                                        clear r1V r2V hyV hwV hb1 C1
                                        go_wp2_with fail
                                        refine (Hp5.out _ hyW).mono ?_
                                        rintro e V2 ⟨rfl, hb2⟩
                                        have r1X := r1W.go hb2
                                        have r2X := r2W.go hb2
                                        have hwX := Below.on hwW hb2 hwW.size
                                        clear r1W r2W hyW hwW hb2 Hp5
                                        as_aux_lemma =>
                                          go_wp2_with fail
                                          refine (C2.out _ r1X r2X).mono ?_
                                          rintro e V3 ⟨rfl, hb3⟩
                                          have r1Y := r1X.go hb3
                                          have r2Y := r2X.go hb3
                                          have hwY := Below.on hwX hb3 hwX.size
                                          clear r1X r2X hwX hb3 C2 w2 w3 w4
                                          as_aux_lemma =>
                                            go_upto_region 31 with (fail)
                                            go_cut [336] (fun s336 wc => s336 = .bool false ∧ V3 = wc)
                                            case first =>
                                              as_aux_lemma =>
                                                clear hbu hpr
                                                rcases hF1 with rfl | rfl
                                                all_goals
                                                  go_wp2_with fail
                                                  all_goals
                                                    go_meet
                                                    first | exact ⟨rfl, rfl⟩ | (exfalso; omega)
                                            case rest =>
                                              as_aux_lemma =>
                                                obtain ⟨rfl, rfl⟩ := hcut
                                                clear j1 j2 j3 j4 j5 j3n j2n hF1
                                                go_wp2_with fail
                                                refine (C3.out _ r1Y r2Y).mono ?_
                                                rintro e V4 ⟨rfl, hb4⟩
                                                have r1Z := r1Y.goAlloc hb4 (.cells #[.int .i64 v1, .int .i64 v2] 72)
                                                have hwZ := (Below.on hwY hb4 hwY.size).alloc (Nat.le_trans hwY.size hb4.size) (.cells #[.int .i64 v1, .int .i64 v2] 72)
                                                have qv := Blk.new V4 72 #[.int .i64 v1, .int .i64 v2]
                                                clear r1Y r2Y hwY hb4 C3
                                                go_upto_region 34 with (fail)
                                                obtain ⟨gv, egv⟩ : ∃ g, g = V4.heap.size := ⟨_, rfl⟩
                                                rw [← egv] at qv ⊢
                                                clear egv
                                                generalize V4.alloc (.cells #[.int .i64 v1, .int .i64 v2] 72) = VZ at r1Z hwZ qv ⊢
                                                have y0 : VZ.cell? ⟨gv, 0, none⟩ = some (.int .i64 v1) := qv.cell 0
                                                obtain ⟨b9, o9, e9, hb9, hc9⟩ := sds_all r1Z (by omega)
                                                injection e9 with e9
                                                injection e9 with e9 e9'
                                                subst e9 e9'
                                                have y1 := (hc9 i (by omega)).1
                                                have y2 := (hc9 j hj).1
                                                rw [← Eni.out] at y1
                                                rw [← Enj.out] at y2
                                                clear hc9 r1Z qv Eni Enj
                                                have z0 := cell_regrown y0
                                                have z1 := cell_regrown y1
                                                have z2 := cell_regrown y2
                                                have i0 : (0 : Int) ≤ (i : Int) := Int.natCast_nonneg _
                                                have j0 : (0 : Int) ≤ (j : Int) := Int.natCast_nonneg _
                                                have i1 : (i : Int) < (l.length : Int) := by omega
                                                have j1 : (j : Int) < (l.length : Int) := by omega
                                                have w5 : IntKind.i64.wrap (v1 - m3) = D := by rw [HB1.out, IntWalk.i64_in _ ⟨by omega, by omega⟩]; omega
                                                have w6 : IntKind.i64.wrap (60 * D) = 60 * D := IntWalk.i64_in _ ⟨by omega, by omega⟩
                                                have w7 : IntKind.i64.wrap (nj - ni) = nj - ni := IntWalk.i64_in _ ⟨by omega, by omega⟩
                                                have w8 : IntKind.i64.wrap (r * (nj - ni)) = r * (nj - ni) := IntWalk.i64_in _ ⟨by omega, by omega⟩
                                                have j9 : decide (r * (nj - ni) ≤ 60 * D) = true := decide_eq_true HB2.out
                                                clear y0 y1 y2 hbu hpr hB3 hB4 HB2 HB1 hd
                                                as_aux_lemma =>
                                                  refine wp_region_quiet_below (by kernel_rfl) (by kernel_rfl) ?_
                                                  repeat (go_big_quiet_step ((go_at_call 14; exact Calls.regrown_of (known_any _))))
                                                  refine wpQuiet_nil ?_
                                                  intro _ hw'
                                                  obtain ⟨⟨dq, osq⟩, hw''⟩ := hw'
                                                  subst hw''
                                                  have hb10 := below_regrown VZ dq osq
                                                  go_wp2_with fail
                                                  go_ret
                                                  exact ⟨rfl, Below.on hwZ hb10 hwZ.size⟩
                  · have hEb := burn_at (b := b) hT hIJ (by omega)
                    have hFb := burn_at (b := b) hT hJK hKl
                    have hGb := burn_at (b := b) hT (show I < K by omega) hKl
                    have e1 : E = 0 ∨ E = 9 := by rw [HE.out, hEb.1]; split <;> simp
                    have e2 : F = 0 ∨ F = 9 := by rw [HF.out, hFb.1]; split <;> simp
                    have e3 : G = 0 ∨ G = 9 := by rw [HG.out, hGb.1]; split <;> simp
                    have e4 : ¬ (E = 0 ∧ F = 0) := by rw [HE.out, HF.out]; exact hEF
                    clear hEb hFb hGb hEF HE HF HG HX HY HZ
                    rcases e1 with rfl | rfl
                    · rcases e2 with rfl | rfl
                      · exact absurd ⟨rfl, rfl⟩ e4
                      · clear e4
                        rcases e3 with rfl | rfl
                        all_goals
                          as_aux_lemma =>
                            go_wp2_with fail
                            refine (known_any _).mono ?_
                            rintro e wk ⟨rfl, hbk⟩
                            go_wp2_with fail
                            go_ret
                            exact ⟨rfl, Below.on hw0 hbk hw0.size⟩
                    · clear e4 e2
                      rcases e3 with rfl | rfl
                      all_goals
                        as_aux_lemma =>
                          go_wp2_with fail
                          refine (known_any _).mono ?_
                          rintro e wk ⟨rfl, hbk⟩
                          go_wp2_with fail
                          go_ret
                          exact ⟨rfl, Below.on hw0 hbk hw0.size⟩
                · have h2 := err_bad hl3 hl100 hb100 hT
                  have hE := burn_bad (l := l) (b := b) I J h2
                  have hF := burn_bad (l := l) (b := b) J K h2
                  have hG := burn_bad (l := l) (b := b) I K h2
                  rw [← HE.out] at hE
                  rw [← HF.out] at hF
                  rw [← HG.out] at hG
                  subst hE hF hG
                  clear HE HF HG HX HY HZ hT h2
                  as_aux_lemma =>
                    go_wp2_with fail
                    refine (known_any _).mono ?_
                    rintro e wk ⟨rfl, hbk⟩
                    go_wp2_with fail
                    go_ret
                    exact ⟨rfl, Below.on hw0 hbk hw0.size⟩
end Go.Proofs.Ytkbfdgacnoadlaa
