/- The walk of the program's Dues behind its checks: the bills of all passes, what each payer has to pay. -/
import Derived.Test.YtkbfdgacnoadlaaA11
namespace Go.Proofs.Ytkbfdgacnoadlaa
open Go.RowKit

theorem min_if (a b : Int) : min a b = if b < a then b else a := by split <;> omega
theorem putF_bill (t : Tf) (l : List Ps) (x : Ps) (i : Nat) (hx : x.p = (i : Int)) : putF (billOf t l) i ((billOf t l i).1 + cost t x, (billOf t l i).2 + 1) = billOf t (l ++ [x]) := by
  funext j
  rw [billOf_snoc, hx, putF]
  by_cases h : j = i
  · subst h
    rw [if_pos rfl, if_pos rfl]
  · rw [if_neg h, if_neg (by omega)]

set_option maxHeartbeats 8000000 in
set_option maxRecDepth 100000 in
theorem dues_late (t : Tf) (N : Nat) (l : List Ps) (v : Value) (w : World) (B : Nat) (hr : Rd w B 3 v l.length (passesV l)) (hB : B ≤ w.heap.size) (ht : tfErr t = 0) (h5 : inB 1 40 (N : Int) = true) (hlen : l.length ≤ 300) :
    Calls Try.prog 21 #[.agg (tfV t), .int .i64 N, v] w (DuesPost w (duesSpec t N l)) := by
  obtain ⟨A, cl, rfl, hnc⟩ := hr.shape
  have hmm := @run_makeMap Try.prog
  obtain ⟨⟨ta, tb⟩, ⟨tc, td⟩, ⟨te, tf⟩, ⟨tg, th⟩, ⟨ti, tj⟩, tk, tl⟩ := tf_ok ht
  have h1 : [t.base, t.tons, t.length].all (inB 0 1000000) = true := by simp [inB]; omega
  have h2 : inB 0 300 t.passes = true := inB_iff.2 ⟨by omega, by omega⟩
  have h3 : inB 0 10000 t.off = true := inB_iff.2 ⟨by omega, by omega⟩
  have h4 : inB 0 100000000000000 t.most = true := inB_iff.2 ⟨by omega, by omega⟩
  obtain ⟨n0, n1⟩ := inB_iff.1 h5
  have hde : duesErr t N l = firstBad (passErr N) l 0 := by rw [duesErr, if_pos ht, if_neg (by simp [h5]), if_neg (by omega)]
  have hs : duesSpec t N l = if (firstBad (passErr N) l 0).2 = 0 then (duesTo t l N, 0, 0) else ([], (firstBad (passErr N) l 0).1, (firstBad (passErr N) l 0).2) := by
    unfold duesSpec
    rw [hde, Int.toNat_natCast]
  obtain ⟨S, eS⟩ : ∃ S, S = duesSpec t N l := ⟨_, rfl⟩
  rw [← eS] at hs ⊢
  have Hs := Lib.hid hs
  have Ht := Lib.hid ht
  clear hs hde eS ht
  have hq0 : Blk (w.alloc (.cells (tfV t) 41)) w.heap.size 41 (tfV t) := Blk.new w _ _
  unfold tfV
  go_enter Try.func21, Try.ntmps21
  go_wp2_with fail
  refine (within_three _ _ _ 0 _ _ _ (by simp)).mono ?_
  rintro e w1 ⟨rfl, hb1⟩
  rw [h1]
  have hc1 : Below w.heap.size w w1 := ((Below.refl _ _).alloc (Nat.le_refl _) _).trans (hb1.mono (by simp))
  have hq1 := hq0.below hb1 (by simp)
  clear hb1 hq0
  obtain ⟨k0, k1, k2, k3, k4, k5⟩ := tf_cells hq1
  go_wp2_with fail
  refine (within_one _ 0 _ _ _ rfl).mono ?_
  rintro e w2 ⟨rfl, hb2⟩
  rw [h2]
  have hc2 : Below w.heap.size w w2 := hc1.trans (hb2.mono hc1.size)
  have hq2 := hq1.below hb2 hq1.lt
  clear hb2 hq1 k0 k1 k2 k3 k4 k5 hc1
  obtain ⟨k0, k1, k2, k3, k4, k5⟩ := tf_cells hq2
  go_wp2_with fail
  refine (within_one _ 0 _ _ _ rfl).mono ?_
  rintro e w3 ⟨rfl, hb3⟩
  rw [h3]
  have hc3 : Below w.heap.size w w3 := hc2.trans (hb3.mono hc2.size)
  have hq3 := hq2.below hb3 hq2.lt
  clear hb3 hq2 k0 k1 k2 k3 k4 k5 hc2
  obtain ⟨k0, k1, k2, k3, k4, k5⟩ := tf_cells hq3
  go_wp2_with fail
  refine (within_one _ 0 _ _ _ rfl).mono ?_
  rintro e w4 ⟨rfl, hb4⟩
  rw [h4]
  have hc4 : Below w.heap.size w w4 := hc3.trans (hb4.mono hc3.size)
  have hq4 := hq3.below hb4 hq3.lt
  clear hb4 hq3 k0 k1 k2 k3 k4 k5 hc3
  obtain ⟨k0, k1, k2, k3, k4, k5⟩ := tf_cells hq4
  go_wp2_with fail
  refine (within_one _ 1 _ _ _ rfl).mono ?_
  rintro e w5 ⟨rfl, hb5⟩
  rw [h5]
  have hc5 : Below w.heap.size w w5 := hc4.trans (hb5.mono hc4.size)
  have hq5 := hq4.below hb5 hq4.lt
  clear hb5 hq4 k0 k1 k2 k3 k4 k5 hc4
  obtain ⟨k0, k1, k2, k3, k4, k5⟩ := tf_cells hq5
  have hB5 : B ≤ w5.heap.size := by have := hc5.size; omega
  have hr5 := hr.below (hc5.mono hB)
  clear h1 h2 h3 h4 k0 k1 k2 k3 k4 k5
  have hbl := BillsAt.made w5
  have hqm := hq5.alloc (.map #[] 0)
  have hcm := hc5.alloc hc5.size (.map #[] 0)
  have hsz5 := hc5.size
  have hq5l := hq5.lt
  clear hq5
  go_wp2_with fail
  go_loopw [6, 7, 8, 10, 11, 12, 58] (fun r6 r7 r8 _ _ _ i wr => ∃ k : Nat, k ≤ l.length ∧ i = .int .i64 k ∧ r6 = .slice none 0 0 ∧ r7 = .int .i64 0 ∧ r8 = .int .i64 0 ∧ Hid (∀ x ∈ l.take k, passErr N x = 0) ∧
      BillsAt wr w5.heap.size k (billOf t (l.take k)) ∧ Blk wr w.heap.size 41 (tfV t) ∧ Below w5.heap.size w5 wr) (fun _ _ _ _ _ _ i _ => l.length - (intOf i).toNat)
  case atStart =>
    refine ⟨0, Nat.zero_le _, rfl, rfl, rfl, rfl, Lib.hid (by simp), ?_, hqm, (Below.refl _ _).alloc (Nat.le_refl _) _⟩
    have e : billOf t (l.take 0) = fun _ => (0, 0) := by funext i; rw [List.take_zero, billOf_nil]
    rw [e]
    exact hbl
  case round =>
    clear hbl hqm hcm
    obtain ⟨k, hk, rfl, rfl, rfl, rfl, Hok, hbl, hq, hbw⟩ := hrel
    by_cases hlt : k < l.length
    · obtain ⟨b, off, rfl, hb, c0, c1, c2⟩ := passes_cells l k hlt _ B _ _ _ (hr5.below (hbw.mono hB5))
      have hat := fun h => firstBad_at (f := passErr N) l 0 k hlt Hok.out h
      have htk := List.take_succ_eq_append_getElem hlt
      obtain ⟨x, hx⟩ : ∃ x, x = l[k] := ⟨_, rfl⟩
      rw [← hx] at c0 c1 c2 hat htk
      clear hx
      obtain ⟨xp, xt, xl⟩ := x
      simp only at c0 c1 c2
      have Hat := Lib.hid hat
      have Htk := Lib.hid htk
      clear hat htk
      have hsz := hbw.size
      have hn0 := Blk.new wr 46 #[.int .i64 xp, .int .i64 xt, .int .i64 xl]
      have hb0 : Below w5.heap.size w5 (wr.alloc (.cells #[.int .i64 xp, .int .i64 xt, .int .i64 xl] 46)) := hbw.alloc hsz _
      have hbl0 := hbl.below ((Below.refl wr.heap.size wr).alloc (Nat.le_refl _) (.cells #[.int .i64 xp, .int .i64 xt, .int .i64 xl] 46))
      have hqa := hq.alloc (.cells #[.int .i64 xp, .int .i64 xt, .int .i64 xl] 46)
      go_wp2_with fail
      refine (within_one xp 0 _ _ _ (by simp)).mono ?_
      rintro e w6 ⟨rfl, hb6⟩
      have hn6 := hn0.below hb6 hn0.lt
      have hq6 := hqa.below hb6 hqa.lt
      have hbl6 := hbl0.below hb6
      have hw6 : Below w5.heap.size w5 w6 := hb0.trans (hb6.mono hb0.size)
      clear hn0 hqa hbl0 hbl hq hb0 hb6 c0 c1 c2 hbw
      have n0' := hn6.cell 0
      have n1' := hn6.cell 1
      have n2' := hn6.cell 2
      simp only [List.getElem?_toArray, List.getElem?_cons_zero, List.getElem?_cons_succ] at n0' n1' n2'
      rcases Bool.eq_false_or_eq_true (inB 0 ((N : Int) - 1) xp) with g1 | g1
      · rw [g1]
        go_wp2_with fail
        refine (within_one xt 0 _ _ _ rfl).mono ?_
        rintro e w7 ⟨rfl, hb7⟩
        have hn7 := hn6.below hb7 hn6.lt
        have hq7 := hq6.below hb7 hq6.lt
        have hbl7 := hbl6.below hb7
        have hw7 : Below w5.heap.size w5 w7 := hw6.trans (hb7.mono hw6.size)
        clear hn6 hq6 hbl6 hw6 hb7 n0' n1' n2'
        have n0' := hn7.cell 0
        have n1' := hn7.cell 1
        have n2' := hn7.cell 2
        simp only [List.getElem?_toArray, List.getElem?_cons_zero, List.getElem?_cons_succ] at n0' n1' n2'
        rcases Bool.eq_false_or_eq_true (inB 0 400000 xt) with g2 | g2
        · rw [g2]
          go_wp2_with fail
          refine (within_one xl 0 _ _ _ rfl).mono ?_
          rintro e w8 ⟨rfl, hb8⟩
          have hn8 := hn7.below hb8 hn7.lt
          have hq8 := hq7.below hb8 hq7.lt
          have hbl8 := hbl7.below hb8
          have hw8 : Below w5.heap.size w5 w8 := hw7.trans (hb8.mono hw7.size)
          clear hn7 hq7 hbl7 hw7 hb8 n0' n1' n2'
          rcases Bool.eq_false_or_eq_true (inB 0 3000 xl) with g3 | g3
          · rw [g3]
            have e0 : passErr N ⟨xp, xt, xl⟩ = 0 := by rw [passErr, if_neg (by simp [g1]), if_neg (by simp [g2]), if_neg (by simp [g3])]
            obtain ⟨p0, p1⟩ := inB_iff.1 g1
            obtain ⟨q0, q1⟩ := inB_iff.1 g2
            obtain ⟨r0, r1⟩ := inB_iff.1 g3
            obtain ⟨i, rfl⟩ := Int.eq_ofNat_of_zero_le p0
            have n0' := hn8.cell 0
            have n1' := hn8.cell 1
            have n2' := hn8.cell 2
            simp only [List.getElem?_toArray, List.getElem?_cons_zero, List.getElem?_cons_succ] at n0' n1' n2'
            obtain ⟨k0, k1, k2, k3, k4, k5⟩ := tf_cells hq8
            have hcd := cost_bd Ht.out (x := ⟨(i : Int), xt, xl⟩) (n := N) e0
            have hce : cost t ⟨(i : Int), xt, xl⟩ = t.base + (xt * t.tons + xl * t.length + 99) / 100 := rfl
            obtain ⟨m0, m1⟩ := prod_bd (x := xt) (y := t.tons) ⟨q0, q1⟩ ⟨tc, td⟩
            obtain ⟨m2, m3⟩ := prod_bd (x := xl) (y := t.length) ⟨r0, r1⟩ ⟨te, tf⟩
            obtain ⟨z0, z1, z2, z3⟩ := bill_bd Ht.out Hok.out i
            have hl300 : (l.take k).length ≤ 300 := by rw [List.length_take]; omega
            have hput := putF_bill t (l.take k) ⟨(i : Int), xt, xl⟩ i rfl
            rw [← Htk.out, hce] at hput
            have hnx : ∀ x ∈ l.take (k + 1), passErr N x = 0 := by
              rw [Htk.out]
              intro x hx
              rcases List.mem_append.1 hx with h | h
              · exact Hok.out x h
              · rw [List.mem_singleton.1 h]
                exact e0
            have Hnx := Lib.hid hnx
            obtain ⟨f, ef⟩ : ∃ f, f = billOf t (l.take k) := ⟨_, rfl⟩
            rw [← ef] at hbl8 z0 z1 z2 z3 hput
            have Hput := Lib.hid hput
            clear hput hnx ef hcd hce e0 hl300
            have hl300 : (l.take k).length ≤ 300 := by rw [List.length_take]; omega
            have hi64 : i < 64 := by omega
            have hw8s := hw8.size
            have hq8l := hq8.lt
            have hn8l := hn8.lt
            have hbl9 : BillsAt (w8.alloc (.cells #[.int .i64 (f i).1, .int .i64 (f i).2] 108)) w5.heap.size k f := hbl8.below ((Below.refl w8.heap.size w8).alloc (Nat.le_refl _) _)
            go_wp2_with (first
              | (at_lookup; refine wpList_look_bill _ rfl _ _ rfl w5.heap.size k f rfl hbl8 i hi64 rfl ?_)
              | (at_mapUpdate; refine wpList_put_bill _ rfl _ _ _ rfl w5.heap.size k f rfl hbl9 (by omega) i hi64 rfl _ _ rfl ?_; intro w10 hbl10 hg10))
            have hq10 := (hq8.alloc (.cells #[.int .i64 (f i).1, .int .i64 (f i).2] 108)).grown hg10 (by intro h; injection h with h; omega)
            have hw10 : Below w5.heap.size w5 w10 := (hw8.alloc hw8s (.cells #[.int .i64 (f i).1, .int .i64 (f i).2] 108)).grown hg10 (by simp; omega) (fun k hk => by injection hk with hk; omega)
            go_roundw
            case rel =>
              refine ⟨k + 1, by omega, by go_num, rfl, rfl, rfl, Hnx, ?_, hq10, hw10⟩
              rw [← Hput.out]
              have e : (f i).1 + t.base + (xt * t.tons + xl * t.length + 100 - 1) / 100 = (f i).1 + (t.base + (xt * t.tons + xl * t.length + 99) / 100) := by
                rw [show xt * t.tons + xl * t.length + 100 - 1 = xt * t.tons + xl * t.length + 99 by omega]
                omega
              rw [← e]
              exact hbl10
            case measure => simp [intOf]; omega
          · rw [g3]
            have e0 : passErr N ⟨xp, xt, xl⟩ = 2 := by rw [passErr, if_neg (by simp [g1]), if_neg (by simp [g2]), if_pos g3]
            have Hf := Lib.hid (Hat.out (by rw [e0]; omega))
            have He := Lib.hid e0
            clear e0
            go_wp2_with fail
            go_ret3
            rw [Hs.out, Hf.out, He.out, if_neg (by simp)]
            simp only [Nat.zero_add]
            exact DuesPost.none (x := k) (y := 2) (hc5.trans (hw8.mono hsz5))
        · rw [g2]
          have e0 : passErr N ⟨xp, xt, xl⟩ = 2 := by rw [passErr, if_neg (by simp [g1]), if_pos g2]
          have Hf := Lib.hid (Hat.out (by rw [e0]; omega))
          have He := Lib.hid e0
          clear e0
          go_wp2_with fail
          go_ret3
          rw [Hs.out, Hf.out, He.out, if_neg (by simp)]
          simp only [Nat.zero_add]
          exact DuesPost.none (x := k) (y := 2) (hc5.trans (hw7.mono hsz5))
      · rw [g1]
        have e0 : passErr N ⟨xp, xt, xl⟩ = 7 := by rw [passErr, if_pos g1]
        have Hf := Lib.hid (Hat.out (by rw [e0]; omega))
        have He := Lib.hid e0
        clear e0
        go_wp2_with fail
        go_ret3
        rw [Hs.out, Hf.out, He.out, if_neg (by simp)]
        simp only [Nat.zero_add]
        exact DuesPost.none (x := k) (y := 7) (hc5.trans (hw6.mono hsz5))
    · obtain rfl : k = l.length := by omega
      have hok := Hok.out
      rw [List.take_length] at hok hbl
      have hfin : S = (duesTo t l N, 0, 0) := by rw [Hs.out, firstBad_ok l 0 hok, if_pos rfl]
      have Hfin := Lib.hid hfin
      have Hok2 := Lib.hid hok
      clear Hs hfin hok Hok
      have hszw := hbw.size
      obtain ⟨wo, rfl⟩ : ∃ wo : World, wo = wr := ⟨_, rfl⟩
      go_wp2_with fail
      go_loopw [6, 13, 14, 119] (fun v _ _ i wq => ∃ k : Nat, k ≤ N ∧ i = .int .i64 k ∧ wq.ownsRow wo.heap.size 3 1 v k (ints (duesTo t l k)) ∧ Below wo.heap.size wo wq) (fun _ _ _ i _ => N - (intOf i).toNat)
      case atStart => exact ⟨0, Nat.zero_le _, rfl, own_nil _ _ _ _, Below.refl _ _⟩
      case round =>
        obtain ⟨k, hk, rfl, hown, hbw2⟩ := hrel
        by_cases hlt2 : k < N
        · have hblk := hbl.below hbw2
          have hqk := hq.below hbw2 hq.lt
          obtain ⟨k0, k1, k2, k3, k4, k5⟩ := tf_cells hqk
          obtain ⟨z0, z1, z2, z3⟩ := bill_bd Ht.out Hok2.out k
          have hdue : dueOf t (billOf t l k) = min (if t.passes ≤ (billOf t l k).2 then (billOf t l k).1 - (billOf t l k).1 * t.off / 10000 else (billOf t l k).1) t.most := rfl
          have hds := duesTo_succ t l k
          obtain ⟨f, ef⟩ : ∃ f, f = billOf t l := ⟨_, rfl⟩
          rw [← ef] at hblk z0 z1 z2 z3 hdue hds
          have Hds := Lib.hid hds
          have hqkl := hqk.lt
          have hsk := hbw2.size
          have hk64 : k < 64 := by omega
          obtain ⟨m0, m1⟩ := prod_bd (x := (f k).1) (y := t.off) (a := 1500000000000) ⟨z0, by omega⟩ ⟨ti, tj⟩
          have ho1 := hown.alloc (.cells #[.int .i64 (f k).1, .int .i64 (f k).2] 108)
          have hb1 := hbw2.alloc hsk (.cells #[.int .i64 (f k).1, .int .i64 (f k).2] 108)
          clear ef hds
          by_cases hp : t.passes ≤ (f k).2
          · rw [if_pos hp] at hdue
            have Hdue := Lib.hid hdue
            have ho2 := hown.alloc (.cells #[.int .i64 ((f k).1 - (f k).1 * t.off / 10000), .int .i64 (f k).2] 108)
            have hb2 := hbw2.alloc hsk (.cells #[.int .i64 ((f k).1 - (f k).1 * t.off / 10000), .int .i64 (f k).2] 108)
            clear hdue ho1 hb1
            go_wp2_with (first
              | (at_lookup; refine wpList_look_bill _ rfl _ _ rfl w5.heap.size l.length f rfl hblk k hk64 rfl ?_)
              | (at_builtin; refine wpList_push_at int_elem rfl (.tmp 140) (.tmp 146) rfl rfl ho2 _ _ rfl (by simp) rfl (by simp [Value.oneCell']) (by simp only [maxLen]; omega) (by omega) (by simp; omega) ?_; intro v9 w9 hown9 hg9 _))
            go_roundw
            case rel =>
              refine ⟨k + 1, by omega, by go_num, ?_, Below.push hb2 ho2 hg9 (Nat.le_refl _) (by simp; omega)⟩
              rw [Hds.out, Hdue.out, min_if]
              simpa [ints] using hown9
            case measure => simp [intOf]; omega
          · rw [if_neg hp] at hdue
            have Hdue := Lib.hid hdue
            clear hdue
            go_wp2_with (first
              | (at_lookup; refine wpList_look_bill _ rfl _ _ rfl w5.heap.size l.length f rfl hblk k hk64 rfl ?_)
              | (at_builtin; refine wpList_push_at int_elem rfl (.tmp 140) (.tmp 146) rfl rfl ho1 _ _ rfl (by simp) rfl (by simp [Value.oneCell']) (by simp only [maxLen]; omega) (by omega) (by simp; omega) ?_; intro v9 w9 hown9 hg9 _))
            go_roundw
            case rel =>
              refine ⟨k + 1, by omega, by go_num, ?_, Below.push hb1 ho1 hg9 (Nat.le_refl _) (by simp; omega)⟩
              rw [Hds.out, Hdue.out, min_if]
              simpa [ints] using hown9
            case measure => simp [intOf]; omega
        · obtain rfl : k = N := by omega
          go_wp2_with fail
          go_ret3
          rw [Hfin.out]
          refine ⟨_, rfl, ?_, (hc5.trans (hbw.mono hsz5)).trans (hbw2.mono (Nat.le_trans hsz5 hszw))⟩
          simp only [duesTo_len]
          exact own_less hown (Nat.le_trans hsz5 hszw)
end Go.Proofs.Ytkbfdgacnoadlaa
