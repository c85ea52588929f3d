/- Law AverageOrders, its walk. -/
import Derived.Test.YtkbfdgacnoadlaaA17
import Derived.Test.YtkbfdgacnoadlaaL7
import Derived.Test.YtkbfdgacnoadlaaOrd
import Derived.Test.YtkbfdgacnoadlaaOrdMath
import Derived.Test.YtkbfdgacnoadlaaAdjRef
namespace Go.Proofs.Ytkbfdgacnoadlaa
open Go.RowKit

theorem own_set {w : World} {base e size n g i : Nat} {v u : Value} {xs : List Value} (h : w.ownsRow base e size v n xs) (hne : v.ownBlock ≠ some g) : (w.setCell ⟨g, i, none⟩ u).ownsRow base e size v n xs :=
  h.kept (grown_set w g i u) (by
    rcases hv : v.ownBlock with _ | k
    · exact .inl rfl
    · exact .inr fun h' => hne (hv.trans h'))
theorem cells3 {w : World} {g : Nat} {t : TypeId} {a b c : Value} (h : Blk w g t #[a, b, c]) : w.cell? ⟨g, 0, none⟩ = some a ∧ w.cell? ⟨g, 1, none⟩ = some b ∧ w.cell? ⟨g, 2, none⟩ = some c := ⟨h.cell 0, h.cell 1, h.cell 2⟩
theorem getN (l : List Nt) {i : Nat} (h : i < l.length) : l.getD i note0 = l[i] := by simp [h]

set_option maxHeartbeats 8000000 in
set_option maxRecDepth 100000 in
theorem orders_law (x y : Int) (l : List Nt) (by' : List Int) (vl vb : Value) (w : World) (B : Nat) (hr : Rd w B 3 vl l.length (notesV l)) (hs : Rd w B 1 vb by'.length (u8s by')) (hB : B ≤ w.heap.size) (hx0 : 0 ≤ x) (hx1 : x ≤ 255) (hy0 : 0 ≤ y) (hy1 : y ≤ 65535)
    (hby : ∀ z ∈ by', 0 ≤ z ∧ z ≤ 255) (hbl : by'.length ≤ 9223372036854775807) :
    Calls Try.prog 6 #[.agg #[.int .u8 x, .int .u16 y, vl], vb] w fun e w' => e = .returned (.bool true) ∧ Below w.heap.size w w' := by
  obtain ⟨A, cl, rfl, hnc⟩ := hr.shape
  obtain ⟨A', cb, rfl, hnb⟩ := hs.shape
  have hb0 : Below w.heap.size w (w.alloc (.cells #[.int .u8 x, .int .u16 y, .slice A l.length cl] 50)) := (Below.refl _ _).alloc (Nat.le_refl _) _
  have hr0 := hr.alloc hB (.cells #[.int .u8 x, .int .u16 y, .slice A l.length cl] 50)
  have hs0 := hs.alloc hB (.cells #[.int .u8 x, .int .u16 y, .slice A l.length cl] 50)
  have hq0 := Blk.new w 50 #[.int .u8 x, .int .u16 y, .slice A l.length cl]
  by_cases h200 : 200 < l.length
  · go_enter Try.func6, Try.ntmps6
    go_wp2_with fail
    go_quiet (fail)
    go_wp2_with fail
    refine (known_any _).mono ?_
    rintro e w1 ⟨rfl, hb⟩
    go_wp2_with fail
    go_ret
    exact ⟨rfl, (below_drewN hb0 _).trans (hb.mono (by simp))⟩
  obtain ⟨N, hN⟩ : ∃ N : Nat, 1 + x % 40 = N := ⟨(1 + x % 40).toNat, by omega⟩
  obtain ⟨R, hR⟩ : ∃ R : Int, y % 10001 = R := ⟨_, rfl⟩
  have n0 : 1 ≤ N := by omega
  have n1 : N ≤ 40 := by omega
  have r0 : 0 ≤ R := by omega
  have r1 : R ≤ 10000 := by omega
  go_enter Try.func6, Try.ntmps6
  go_wp2_with fail
  go_quiet (fail)
  go_wp2_with fail
  have hb1 := below_drewN hb0 nq
  have hr1 := hr0.drewN nq
  have hs1 := hs0.drewN nq
  have hB1 : B ≤ ((w.alloc (.cells #[.int .u8 x, .int .u16 y, .slice A l.length cl] 50)).drewN nq).heap.size := Nat.le_trans hB hb1.size
  generalize (w.alloc (.cells #[.int .u8 x, .int .u16 y, .slice A l.length cl] 50)).drewN nq = w1 at hb1 hr1 hs1 hB1 ⊢
  clear hb0 hr0 hs0 hq0 hr hs
  go_loopw [10] (fun i wr => ∃ k : Nat, k ≤ l.length ∧ i = .int .i64 k ∧ Hid (∀ x ∈ l.take k, noteErr N x = 0) ∧ Below w1.heap.size w1 wr) (fun i _ => l.length - (intOf i).toNat)
  case atStart => exact ⟨0, Nat.zero_le _, rfl, Lib.hid (by simp), Below.refl _ _⟩
  case round =>
    obtain ⟨k, hk, rfl, Hok, hbw⟩ := hrel
    have hsz := hbw.size
    by_cases hlt : k < l.length
    · obtain ⟨b, off, rfl, hbB, c0, c1, c2⟩ := notes_cells l k hlt _ B _ _ _ (hr1.below (hbw.mono hB1))
      have htk := List.take_succ_eq_append_getElem hlt
      obtain ⟨q, hq⟩ : ∃ q, q = l[k] := ⟨_, rfl⟩
      rw [← hq] at c0 c1 c2 htk
      clear hq
      obtain ⟨kk, ii, aa⟩ := q
      simp only at c0 c1 c2
      have Htk := Lib.hid htk
      clear htk
      have i0 : (0 : Int) ≤ (k : Int) := Int.natCast_nonneg _
      have i1 : (k : Int) < (l.length : Int) := by omega
      have hbel := hb1.trans (hbw.mono hb1.size)
      by_cases g1 : kk < 1
      · go_wp2_with fail
        refine (known_any _).mono ?_
        rintro e w2 ⟨rfl, hb⟩
        go_wp2_with fail
        go_ret
        exact ⟨rfl, (hbel.alloc hbel.size _).trans (hb.mono (by have := hbel.size; simp; omega))⟩
      by_cases g2 : 4 < kk
      · go_wp2_with fail
        refine (known_any _).mono ?_
        rintro e w2 ⟨rfl, hb⟩
        go_wp2_with fail
        go_ret
        exact ⟨rfl, (hbel.alloc hbel.size _).trans (hb.mono (by have := hbel.size; simp; omega))⟩
      by_cases g3 : ii < 0
      · go_wp2_with fail
        refine (known_any _).mono ?_
        rintro e w2 ⟨rfl, hb⟩
        go_wp2_with fail
        go_ret
        exact ⟨rfl, (hbel.alloc hbel.size _).trans (hb.mono (by have := hbel.size; simp; omega))⟩
      by_cases g4 : (N : Int) ≤ ii
      · go_wp2_with fail
        refine (known_any _).mono ?_
        rintro e w2 ⟨rfl, hb⟩
        go_wp2_with fail
        go_ret
        exact ⟨rfl, (hbel.alloc hbel.size _).trans (hb.mono (by have := hbel.size; simp; omega))⟩
      by_cases g5 : aa < 1
      · go_wp2_with fail
        refine (known_any _).mono ?_
        rintro e w2 ⟨rfl, hb⟩
        go_wp2_with fail
        go_ret
        exact ⟨rfl, (hbel.alloc hbel.size _).trans (hb.mono (by have := hbel.size; simp; omega))⟩
      by_cases g6 : 100000000000 < aa
      · go_wp2_with fail
        refine (known_any _).mono ?_
        rintro e w2 ⟨rfl, hb⟩
        go_wp2_with fail
        go_ret
        exact ⟨rfl, (hbel.alloc hbel.size _).trans (hb.mono (by have := hbel.size; simp; omega))⟩
      have e0 : Hid (∀ x ∈ l.take (k + 1), noteErr N x = 0) := Lib.hid (by
        rw [Htk.out]
        intro z hz
        rcases List.mem_append.1 hz with h | h
        · exact Hok.out z h
        · rw [List.mem_singleton.1 h]
          have a1 : inB 0 ((N : Int) - 1) ii = true := inB_iff.2 ⟨by omega, by omega⟩
          have a2 : inB 1 100000000000 aa = true := inB_iff.2 ⟨by omega, by omega⟩
          unfold noteErr
          rw [if_neg (by simp only; omega), if_neg (by simp only; omega), if_neg (by simp [a1]), if_neg (by simp [a2])])
      go_wp2_with fail
      go_roundw
      case rel => exact ⟨k + 1, by omega, by go_num, e0, hbw.alloc hsz _⟩
      case measure => simp [intOf]; omega
    · have hall : ∀ x ∈ l, noteErr N x = 0 := by
        have := Hok.out
        rwa [List.take_of_length_le (by omega)] at this
      have he := early_ok n0 n1 r0 r1 (by omega) hall
      obtain ⟨out, t, E, hspec, hE, hol⟩ := adj_kinds he
      have c1 := fun (W : World) (u : Value) (h : Rd W W.heap.size 3 u l.length (notesV l)) => adjust_any N R l u W _ h (Nat.le_refl _) (by omega)
      have c2 := fun (m : List Nt) (W : World) (u : Value) (h : Rd W W.heap.size 3 u m.length (notesV m)) (hm : m.length ≤ 300) (hok : ∀ x ∈ m, noteErr N x = 0) (hsum : ∀ kind int, ofL m kind int = ofL l kind int) => (adj_same (early_ok n0 n1 r0 r1 hm hok) he hsum) ▸ adjust_any N R m u W _ h (Nat.le_refl _) (by omega)
      rw [hspec] at c1 c2
      unfold AdjPost at c1 c2
      simp only at c1 c2
      have C1 := Lib.hid c1
      have C2 := Lib.hid c2
      have Hall := Lib.hid hall
      have HE := Lib.hid hE
      have hbel := hb1.trans (hbw.mono hb1.size)
      have hrw := hr1.below (hbw.mono hB1)
      have hsw := hs1.below (hbw.mono hB1)
      have hBw : B ≤ wr.heap.size := Nat.le_trans hB1 hsz
      obtain ⟨wo, rfl⟩ : ∃ wo : World, wo = wr := ⟨_, rfl⟩
      clear c1 c2 hall hE he hspec hr1 hs1 hB1 hb1 hbw hsz Hok
      go_wp2_with (at_builtin; refine wpList_copy_all note_elem rfl (.tmp 87) (.tmp 88) rfl hrw hBw rfl rfl (notesV_one l) (by omega) (by omega) ?_; intro v2 w2 hown2 hb2)
      have hr2 := Rd.of_own hown2
      clear hown2
      obtain ⟨A2, k2, rfl, hnc2⟩ := hr2.shape
      go_wp2_with fail
      refine (C1.out _ _ hr2).mono ?_
      rintro e w3 ⟨v3, rfl, ho3, hb3⟩
      have hr3 := Rd.of_own ho3
      clear ho3
      obtain ⟨A3, k3, rfl, hnc3⟩ := hr3.shape
      have b3' : Below wo.heap.size wo w3 := Below.on hb2 hb3 hb2.size
      have b3 := hbel.trans (b3'.mono hbel.size)
      have hrx := hrw.below (b3'.mono hBw)
      have hsx := hsw.below (b3'.mono hBw)
      have hBx : B ≤ w3.heap.size := Nat.le_trans hBw b3'.size
      clear hr2 hb2 hb3 hrw hsw b3' hbel
      have ho0 := own_new w3 w3.heap.size 30 3 0 #[] (Nat.le_refl _) rfl (Nat.zero_le _)
      have hsx' := hsx.alloc hBx (.cells #[] 30)
      go_wp2_with fail
      refine (order_any l.length by' _ _ B hsx' (by simp; omega) hbl (by omega) hby).mono ?_
      rintro e w4 ⟨v4, T, rfl, hT, ho4, hb4⟩
      have hl3 : (w3.alloc (.cells #[] 30)).heap.size = w3.heap.size + 1 := by simp
      rw [hl3] at ho4 hb4
      have hoth : w4.ownsRow w3.heap.size 30 3 (.slice (some ⟨w3.heap.size, 0, none⟩) 0 0) 0 (notesV []) := own_below ho0 hb4 (by simp)
      have hap : Apart (.slice (some ⟨w3.heap.size, 0, none⟩) 0 0) v4 := fun g h1 h2 => by
        have := (ho4.lt g h2).1
        simp [Value.ownBlock] at h1
        omega
      have ht := own_less ho4 (show w3.heap.size ≤ w3.heap.size + 1 by omega)
      have hb34 : Below w3.heap.size w3 w4 := ((Below.refl _ _).alloc (Nat.le_refl _) _).trans (hb4.mono (by omega))
      have hTl : T.length = l.length := by rw [hT.length_eq, List.length_range]
      have hTm : ∀ i (h : i < T.length), T[i] < l.length := fun i h => by
        have := hT.mem_iff.1 (List.getElem_mem h)
        simpa using this
      have hst := Other.start N l T
      have HT := Lib.hid hT
      have HTl := Lib.hid hTl
      have HTm := Lib.hid hTm
      have Hst := Lib.hid hst
      have hs34 := hb34.size
      obtain ⟨A4, k4, rfl, hnc4⟩ := (Rd.of_own ht).shape
      clear hT hTl hTm hst hl3 ho4 hb4 ho0 hsx'
      go_wp2_with fail
      go_loopw [16, 18] (fun u i wr => ∃ (k : Nat) (oth : List Nt), k ≤ l.length ∧ i = .int .i64 k ∧ Hid (Other N l T k oth) ∧ wr.ownsRow w3.heap.size 30 3 u oth.length (notesV oth) ∧ wr.ownsRow w3.heap.size 3 1 (.slice A4 l.length k4) l.length (ints (nats T)) ∧ Apart u (.slice A4 l.length k4) ∧ Below w3.heap.size w3 wr) (fun _ i _ => l.length - (intOf i).toNat)
      case atStart => exact ⟨0, [], Nat.zero_le _, rfl, Hst, hoth, ht, hap, hb34⟩
      case round =>
        clear hoth ht hap hb34
        obtain ⟨k, oth, hk, rfl, HO, ho, ht, hap, hbw⟩ := hrel
        have hsz := hbw.size
        by_cases hlt : k < l.length
        · have hkT : k < T.length := by rw [HTl.out]; exact hlt
          have hTk := HTm.out k hkT
          have hol2 : oth.length ≤ 202 := by
            have := HO.out.len
            split at this <;> omega
          obtain ⟨g4, c4, e4, g41, g42⟩ := ht.form (by omega)
          injection e4 with e4 _ e5
          subst e4 e5
          have kt : wr.cell? ⟨g4, k, none⟩ = some (.int .i64 ((T[k] : Nat) : Int)) := by
            rw [ht.cellAt k (by omega), ints_get _ k (by rw [nats_length]; exact hkT), nats_at' _ hkT]
          obtain ⟨b, off, rfl, hbB, c0, c1, c2⟩ := notes_cells l T[k] hTk _ B _ _ _ (hrx.below (hbw.mono hBx))
          have hokx := Hall.out l[T[k]] (List.getElem_mem hTk)
          have hgx := getN l hTk
          have one := fun (z : Nt) (h1 : z = l.getD T[k] note0) (h2 : noteErr N z = 0) => HO.out.one hkT h1 h2
          have two := fun (hm : k = l.length / 2) (a b c d : Int) (h1 : (⟨a, b, c⟩ : Nt) = l.getD T[k] note0) (h2 : noteErr N ⟨a, b, c⟩ = 0) (h3 : 1 ≤ d) (h4 : d < c) => HO.out.two hkT hm h1 h2 h3 h4
          rw [hgx] at one two
          obtain ⟨z, hz⟩ : ∃ z, z = l[T[k]] := ⟨_, rfl⟩
          rw [← hz] at c0 c1 c2 hokx one two
          obtain ⟨i, hi⟩ : ∃ i, i = T[k] := ⟨_, rfl⟩
          rw [← hi] at kt hTk c0 c1 c2
          clear hz hgx hi
          obtain ⟨kk, ii, aa⟩ := z
          have hokb := noteErr_ok hokx
          obtain ⟨z1, z2, z3, z4, z5, z6⟩ := hokb
          simp only at c0 c1 c2 z1 z2 z3 z4 z5 z6
          have one' := one ⟨kk, ii, aa⟩ rfl hokx
          have two' := fun hm d h3 h4 => two hm kk ii aa d rfl hokx h3 h4
          have One := Lib.hid one'
          have Two := Lib.hid two'
          clear one two one' two' hokx HO
          have hsp := (hsx.below (hbw.mono hBx))
          have hp1 := part_any by' k _ _ (wr.alloc (.cells #[.int .i64 kk, .int .i64 ii, .int .i64 aa] 30)) B (hsp.alloc (Nat.le_trans hBx hsz) _) hbl (by omega)
          have hp2 := part_any by' (k + 1) _ _ (wr.alloc (.cells #[.int .i64 kk, .int .i64 ii, .int .i64 aa] 30)) B (hsp.alloc (Nat.le_trans hBx hsz) _) hbl (by omega)
          rw [show (((k + 1 : Nat)) : Int) = (k : Int) + 1 by omega] at hp2
          have at0b : ∀ j, 0 ≤ at0 by' j ∧ at0 by' j ≤ 255 := fun j => by
            by_cases h : j < by'.length
            · rw [← at0_get h]
              exact hby _ (List.getElem_mem h)
            · simp [at0, h]
          have p1b := at0b (k % by'.length)
          have p2b := at0b ((k + 1) % by'.length)
          obtain ⟨p, ep⟩ : ∃ p, p = at0 by' (k % by'.length) := ⟨_, rfl⟩
          obtain ⟨q, eq⟩ : ∃ q, q = at0 by' ((k + 1) % by'.length) := ⟨_, rfl⟩
          rw [← ep] at hp1 p1b
          rw [← eq] at hp2 p2b
          obtain ⟨m0, m1⟩ := prod_bd p1b p2b
          obtain ⟨p10, p11⟩ := p1b
          obtain ⟨p20, p21⟩ := p2b
          have Hp1 := Lib.hid hp1
          have Hp2 := Lib.hid hp2
          clear hp1 hp2 at0b ep eq
          have i0 : (0 : Int) ≤ (k : Int) := Int.natCast_nonneg _
          have i1 : (k : Int) < (l.length : Int) := by omega
          have i2 : (0 : Int) ≤ (i : Int) := Int.natCast_nonneg _
          have i3 : (i : Int) < (l.length : Int) := by omega
          have ho1 := ho.alloc (.cells #[.int .i64 kk, .int .i64 ii, .int .i64 aa] 30)
          have ht1 := ht.alloc (.cells #[.int .i64 kk, .int .i64 ii, .int .i64 aa] 30)
          have hbx := hbw.alloc hsz (.cells #[.int .i64 kk, .int .i64 ii, .int .i64 aa] 30)
          by_cases hcut : k = l.length / 2 ∧ 1 + p * q < aa
          · obtain ⟨hk2, hca⟩ := hcut
            have hc : ((k : Int) == (l.length : Int) / 2) = true := by simp; omega
            have Two' := Lib.hid (Two.out hk2 (1 + p * q) (by omega) hca)
            clear hk2 Two One
            go_wp2_with fail
            refine Hp1.out.mono ?_
            rintro e w' ⟨rfl, rfl⟩
            go_wp2_with fail
            refine Hp2.out.mono ?_
            rintro e w' ⟨rfl, rfl⟩
            go_wp2_with fail
            have ho2 := ho1.alloc (.cells #[.int .i64 kk, .int .i64 ii, .int .i64 aa] 30)
            have ht2 := ht1.alloc (.cells #[.int .i64 kk, .int .i64 ii, .int .i64 aa] 30)
            have hbx2 := hbx.alloc hbx.size (.cells #[.int .i64 kk, .int .i64 ii, .int .i64 aa] 30)
            have q1 := (Blk.new wr 30 #[.int .i64 kk, .int .i64 ii, .int .i64 aa]).alloc (.cells #[.int .i64 kk, .int .i64 ii, .int .i64 aa] 30)
            have q2 := blk_new2 wr (.cells #[.int .i64 kk, .int .i64 ii, .int .i64 aa] 30) 30 #[.int .i64 kk, .int .i64 ii, .int .i64 aa]
            have ne1 : u16.ownBlock ≠ some wr.heap.size := own_ne ho (Nat.le_refl _)
            have ne2 : u16.ownBlock ≠ some (wr.heap.size + 1) := own_ne ho (by omega)
            have ne3 : g4 < wr.heap.size := g42
            clear ho1 ht1 hbx ho ht hbw Hp1 Hp2 hsp
            generalize (wr.alloc (.cells #[.int .i64 kk, .int .i64 ii, .int .i64 aa] 30)).alloc (.cells #[.int .i64 kk, .int .i64 ii, .int .i64 aa] 30) = wz at ho2 ht2 hbx2 q1 q2 ⊢
            obtain ⟨g1, eg1⟩ : ∃ g, g = wr.heap.size := ⟨_, rfl⟩
            obtain ⟨g2, eg2⟩ : ∃ g, g = wr.heap.size + 1 := ⟨_, rfl⟩
            have hs1 : w3.heap.size ≤ g1 := by omega
            have hs2 : w3.heap.size ≤ g2 := by omega
            have hg12 : g1 ≠ g2 := by omega
            have hg21 : g2 ≠ g1 := by omega
            have ne3 : g4 < g1 := by omega
            have ne4 : g4 < g2 := by omega
            rw [← eg2] at q2 ne2 ⊢
            rw [← eg1] at q1 ne1 ⊢
            clear eg1 eg2
            have k12 := q1.cell 2
            have k22 := q2.cell 2
            simp only [List.getElem?_toArray, List.getElem?_cons_zero, List.getElem?_cons_succ] at k12 k22
            have f12 := q1.frozen 2
            have f22 := q2.frozen 2
            have i5 : IntKind.i64.wrap (aa - (1 + p * q)) = aa - (1 + p * q) := IntWalk.i64_in _ ⟨by omega, by omega⟩
            go_region
            have ho3 := (own_set (g := g1) (i := 2) (u := .int .i64 (aa - (1 + p * q))) (own_set (g := g2) (i := 2) (u := .int .i64 (1 + p * q)) ho2 ne2) ne1).drew
            have ht3 := (own_set (g := g1) (i := 2) (u := .int .i64 (aa - (1 + p * q))) (own_set (g := g2) (i := 2) (u := .int .i64 (1 + p * q)) ht2 (by simp [Value.ownBlock]; omega)) (by simp [Value.ownBlock]; omega)).drew
            have hb3 := ((hbx2.setCell (p := ⟨g2, 2, none⟩) hs2 (.int .i64 (1 + p * q))).setCell (p := ⟨g1, 2, none⟩) hs1 (.int .i64 (aa - (1 + p * q)))).drew
            have q3 := ((q1.far (p := ⟨g2, 2, none⟩) hg12 (.int .i64 (1 + p * q))).set_ 2 (.int .i64 (aa - (1 + p * q)))).drew
            have q4 := ((q2.set_ 2 (.int .i64 (1 + p * q))).far (p := ⟨g1, 2, none⟩) hg21 (.int .i64 (aa - (1 + p * q)))).drew
            simp only [List.setIfInBounds_toArray, List.set_cons_zero, List.set_cons_succ] at q3 q4
            clear ho2 ht2 hbx2 q1 q2 k12 k22 f12 f22
            generalize ((wz.setCell ⟨g2, 2, none⟩ (.int .i64 (1 + p * q))).setCell ⟨g1, 2, none⟩ (.int .i64 (aa - (1 + p * q)))).drew = wq at ho3 ht3 hb3 q3 q4 ⊢
            obtain ⟨r0', r1', r2'⟩ := cells3 q4
            have hsq := hb3.size
            go_wp2_with (first
              | (at_builtin; refine wpList_push note_elem rfl (.tmp 143) (.tmp 145) rfl rfl ho3 _ rfl rfl (by simp [Value.oneCell']) (by simp only [maxLen]; omega) (by omega) hsq ?_; intro v6 w6 hown6 hg6 hat6; obtain ⟨y0, y1, y2⟩ := cells3 (q3.far2 hg6 ne1); have hs6 : w3.heap.size ≤ w6.heap.size := Nat.le_trans hsq hg6.size)
              | (at_builtin; refine wpList_push note_elem rfl (.tmp 147) (.tmp 149) rfl rfl hown6 _ rfl rfl (by simp [Value.oneCell']) (by simp only [maxLen]; omega) (by omega) hs6 ?_; intro v7 w7 hown7 hg7 hat7))
            have ht6 := own_apart ht3 hg6 hap
            have ha6 := hap.push ht3 hat6
            have hb6 := Below.push hb3 ho3 hg6 (Nat.le_refl _) hsq
            go_roundw
            case rel =>
              refine ⟨k + 1, _, by omega, by go_num, Two', ?_, own_apart ht6 hg7 ha6, ha6.push ht6 hat7, Below.push hb6 hown6 hg7 (Nat.le_refl _) hs6⟩
              rw [List.length_append, List.length_append, List.length_singleton, List.length_singleton, show notesV (oth ++ [⟨kk, ii, 1 + p * q⟩] ++ [⟨kk, ii, aa - (1 + p * q)⟩]) = notesV oth ++ noteV ⟨kk, ii, 1 + p * q⟩ ++ noteV ⟨kk, ii, aa - (1 + p * q)⟩ by simp [notesV]]
              exact hown7
            case measure => simp [intOf]; omega
          · have hc' : (((k : Int) == (l.length : Int) / 2) = false) ∨ (((k : Int) == (l.length : Int) / 2) = true ∧ ¬ 1 + p * q < aa) := by
              by_cases h : k = l.length / 2
              · exact .inr ⟨by simp; omega, fun h2 => hcut ⟨h, h2⟩⟩
              · exact .inl (by simp; omega)
            rcases hc' with hc | ⟨hc, hca⟩
            all_goals
              go_wp2_with fail
              refine Hp1.out.mono ?_
              rintro e w' ⟨rfl, rfl⟩
              go_wp2_with fail
              refine Hp2.out.mono ?_
              rintro e w' ⟨rfl, rfl⟩
              go_wp2_with (at_builtin; refine wpList_push_at note_elem rfl (.tmp 147) (.tmp 149) rfl rfl ho1 _ (wr.heap.size + 1) rfl (by simp) rfl (by simp [Value.oneCell']) (by simp only [maxLen]; omega) (by omega) (by simp; omega) ?_; intro v5 w5 hown5 hg5 hat5)
              go_roundw
              case rel =>
                refine ⟨k + 1, _, by omega, by go_num, One, ?_, own_apart ht1 hg5 hap, hap.push ht1 hat5, Below.push hbx ho1 hg5 (Nat.le_refl _) (by simp; omega)⟩
                rw [List.length_append, List.length_singleton, show notesV (oth ++ [⟨kk, ii, aa⟩]) = notesV oth ++ noteV ⟨kk, ii, aa⟩ by simp [notesV]]
                exact hown5
              case measure => simp [intOf]; omega
        · have hkl : k = l.length := by omega
          subst hkl
          obtain ⟨hsum, holen⟩ := HO.out.done HT.out
          have c3 := fun (W : World) (u : Value) (h : Rd W W.heap.size 3 u oth.length (notesV oth)) => C2.out oth W u h (by omega) HO.out.ok hsum
          have hro := Rd.of_own ho
          have hr3x := hr3.go hbw
          have b4 := b3.trans (hbw.mono b3.size)
          have C3 := Lib.hid c3
          clear hsum c3 ho ht hap hbw hr3
          obtain ⟨A5, k5, rfl, hn5⟩ := hro.shape
          go_wp2_with fail
          refine (C3.out _ _ hro).mono ?_
          rintro e w6 ⟨v6, rfl, ho6, hb6⟩
          have hr6 := Rd.of_own ho6
          have hr3y := hr3x.go hb6
          have b6 := b4.trans (hb6.mono b4.size)
          obtain ⟨A6, k6, rfl, hn6⟩ := hr6.shape
          clear ho6 hb6 hro hr3x
          go_wp2_with fail
          go_loopw [26] (fun i wi => ∃ j : Nat, j ≤ out.length ∧ i = .int .i64 j ∧ Below w6.heap.size w6 wi) (fun i _ => out.length - (intOf i).toNat)
          case atStart => exact ⟨0, Nat.zero_le _, rfl, Below.refl _ _⟩
          case round =>
            obtain ⟨j, hj, rfl, hbi⟩ := hrel
            have hszi := hbi.size
            by_cases hjl : j < out.length
            · obtain ⟨b, off, rfl, hbB, c0, c1, c2, c3⟩ := accs_cells out j hjl _ _ _ _ _ (hr3y.below hbi)
              obtain ⟨b', off', rfl, hbB', d0, d1, d2, d3⟩ := accs_cells out j hjl _ _ _ _ _ (hr6.below hbi)
              obtain ⟨q, hx⟩ : ∃ q, q = out[j] := ⟨_, rfl⟩
              rw [← hx] at c0 c1 c2 c3 d0 d1 d2 d3
              clear hx
              obtain ⟨qa, qb, qc, qd⟩ := q
              simp only at c0 c1 c2 c3 d0 d1 d2 d3
              have i0 : (0 : Int) ≤ (j : Int) := Int.natCast_nonneg _
              have i1 : (j : Int) < (out.length : Int) := by omega
              go_wp2_with fail
              go_quiet (fail)
              go_wp2_with fail
              go_roundw
              case rel => exact ⟨j + 1, by omega, by go_num, below_drewN hbi _⟩
              case measure => simp [intOf]; omega
            · have b7 := b6.trans (hbi.mono b6.size)
              rcases HE.out with ⟨rfl, hout⟩ | rfl | rfl
              · have ho' : ((out.length : Int) == (N : Int)) = true := by simp; omega
                clear hout
                go_wp2_with fail
                refine (known_any _).mono ?_
                rintro e w8 ⟨rfl, hb8⟩
                go_wp2_with fail
                go_ret
                exact ⟨rfl, b7.trans (hb8.mono b7.size)⟩
              · go_wp2_with fail
                refine (known_any _).mono ?_
                rintro e w8 ⟨rfl, hb8⟩
                go_wp2_with fail
                go_ret
                exact ⟨rfl, b7.trans (hb8.mono b7.size)⟩
              · go_wp2_with fail
                refine (known_any _).mono ?_
                rintro e w8 ⟨rfl, hb8⟩
                go_wp2_with fail
                go_ret
                exact ⟨rfl, b7.trans (hb8.mono b7.size)⟩
end Go.Proofs.Ytkbfdgacnoadlaa
