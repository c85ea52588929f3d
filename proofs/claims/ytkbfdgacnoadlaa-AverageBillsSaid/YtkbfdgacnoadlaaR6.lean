/- The reference's Dues: its errors, and what it returns. -/
import Derived.Test.YtkbfdgacnoadlaaR4
import Derived.Test.YtkbfdgacnoadlaaA6
namespace Go.Proofs.Ytkbfdgacnoadlaa
open Go.RowKit

set_option maxHeartbeats 8000000 in
set_option maxRecDepth 100000 in
theorem rdues_early (t : Tf) (n : Int) (l : List Ps) (v : Value) (w : World) (B : Nat) (hr : Rd w B 3 v l.length (passesV l)) (hlen : l.length ≤ 1048576) (hbad : tfErr t ≠ 0 ∨ inB 1 40 n = false ∨ 300 < l.length) :
    Calls Try.prog 22 #[.agg (tfV t), .int .i64 n, v] w (DuesPost w (duesSpec t n l)) := by
  obtain ⟨A, cl, rfl, hnc⟩ := hr.shape
  have hbel : Below w.heap.size w ((w.alloc (.cells (tfV t) 41)).alloc (.cells #[.int .i64 t.base, .int .i64 t.tons, .int .i64 t.length] 3)) := ((Below.refl _ _).alloc (Nat.le_refl _) _).alloc (by simp) _
  unfold tfV at hbel ⊢
  rcases Bool.eq_false_or_eq_true ([t.base, t.tons, t.length].all (inB 0 1000000)) with h1 | h1
  · rcases Bool.eq_false_or_eq_true (inB 0 300 t.passes) with h2 | h2
    · rcases Bool.eq_false_or_eq_true (inB 0 10000 t.off) with h3 | h3
      · rcases Bool.eq_false_or_eq_true (inB 0 100000000000000 t.most) with h4 | h4
        · rcases Bool.eq_false_or_eq_true (inB 1 40 n) with h5 | h5
          · have h6 : 300 < l.length := by
              rcases hbad with h | h | h
              · exact absurd (by simp [tfErr, h1, h2, h3, h4]) h
              · simp [h5] at h
              · exact h
            have hs : duesSpec t n l = ([], 0, 5) := by simp [duesSpec, duesErr, tfErr, h1, h2, h3, h4, h5, h6]
            rw [hs]
            obtain ⟨tb, tt, tl, tp, tof, tm⟩ := t
            simp only at h1 h2 h3 h4 h5 hbel ⊢
            clear hs hbad
            go_enter Try.func22, Try.ntmps22
            go_wp2_with (first
              | (go_at_call 49; refine (all_any [tb, tt, tl] _ _ _ 3 _ (w.heap.size + 2) (Rd.made_at (w.alloc _) (w.heap.size + 1) (by simp) 3 1 3 #[.int .i64 tb, .int .i64 tt, .int .i64 tl] rfl) (by omega)).mono ?_; rintro e w' ⟨rfl, rfl⟩; rw [h1])
              | (go_at_call 48; refine (in_any _ _ _ _).mono ?_; rintro e w' ⟨rfl, rfl⟩))
            go_ret3
            exact DuesPost.none (x := 0) (y := 5) hbel
          · have hs : duesSpec t n l = ([], 0, 3) := by simp [duesSpec, duesErr, tfErr, h1, h2, h3, h4, h5]
            rw [hs]
            obtain ⟨tb, tt, tl, tp, tof, tm⟩ := t
            simp only at h1 h2 h3 h4 h5 hbel ⊢
            clear hs hbad
            go_enter Try.func22, Try.ntmps22
            go_wp2_with (first
              | (go_at_call 49; refine (all_any [tb, tt, tl] _ _ _ 3 _ (w.heap.size + 2) (Rd.made_at (w.alloc _) (w.heap.size + 1) (by simp) 3 1 3 #[.int .i64 tb, .int .i64 tt, .int .i64 tl] rfl) (by omega)).mono ?_; rintro e w' ⟨rfl, rfl⟩; rw [h1])
              | (go_at_call 48; refine (in_any _ _ _ _).mono ?_; rintro e w' ⟨rfl, rfl⟩))
            go_ret3
            exact DuesPost.none (x := 0) (y := 3) hbel
        · have hs : duesSpec t n l = ([], 0, 2) := by simp [duesSpec, duesErr, tfErr, h1, h2, h3, h4]
          rw [hs]
          obtain ⟨tb, tt, tl, tp, tof, tm⟩ := t
          simp only at h1 h2 h3 h4 hbel ⊢
          clear hs hbad
          go_enter Try.func22, Try.ntmps22
          go_wp2_with (first
            | (go_at_call 49; refine (all_any [tb, tt, tl] _ _ _ 3 _ (w.heap.size + 2) (Rd.made_at (w.alloc _) (w.heap.size + 1) (by simp) 3 1 3 #[.int .i64 tb, .int .i64 tt, .int .i64 tl] rfl) (by omega)).mono ?_; rintro e w' ⟨rfl, rfl⟩; rw [h1])
            | (go_at_call 48; refine (in_any _ _ _ _).mono ?_; rintro e w' ⟨rfl, rfl⟩))
          go_ret3
          exact DuesPost.none (x := 0) (y := 2) hbel
      · have hs : duesSpec t n l = ([], 0, 2) := by simp [duesSpec, duesErr, tfErr, h1, h2, h3]
        rw [hs]
        obtain ⟨tb, tt, tl, tp, tof, tm⟩ := t
        simp only at h1 h2 h3 hbel ⊢
        clear hs hbad
        go_enter Try.func22, Try.ntmps22
        go_wp2_with (first
          | (go_at_call 49; refine (all_any [tb, tt, tl] _ _ _ 3 _ (w.heap.size + 2) (Rd.made_at (w.alloc _) (w.heap.size + 1) (by simp) 3 1 3 #[.int .i64 tb, .int .i64 tt, .int .i64 tl] rfl) (by omega)).mono ?_; rintro e w' ⟨rfl, rfl⟩; rw [h1])
          | (go_at_call 48; refine (in_any _ _ _ _).mono ?_; rintro e w' ⟨rfl, rfl⟩))
        go_ret3
        exact DuesPost.none (x := 0) (y := 2) hbel
    · have hs : duesSpec t n l = ([], 0, 2) := by simp [duesSpec, duesErr, tfErr, h1, h2]
      rw [hs]
      obtain ⟨tb, tt, tl, tp, tof, tm⟩ := t
      simp only at h1 h2 hbel ⊢
      clear hs hbad
      go_enter Try.func22, Try.ntmps22
      go_wp2_with (first
        | (go_at_call 49; refine (all_any [tb, tt, tl] _ _ _ 3 _ (w.heap.size + 2) (Rd.made_at (w.alloc _) (w.heap.size + 1) (by simp) 3 1 3 #[.int .i64 tb, .int .i64 tt, .int .i64 tl] rfl) (by omega)).mono ?_; rintro e w' ⟨rfl, rfl⟩; rw [h1])
        | (go_at_call 48; refine (in_any _ _ _ _).mono ?_; rintro e w' ⟨rfl, rfl⟩))
      go_ret3
      exact DuesPost.none (x := 0) (y := 2) hbel
  · have hs : duesSpec t n l = ([], 0, 2) := by simp [duesSpec, duesErr, tfErr, h1]
    rw [hs]
    obtain ⟨tb, tt, tl, tp, tof, tm⟩ := t
    simp only at h1 hbel ⊢
    clear hs hbad
    go_enter Try.func22, Try.ntmps22
    go_wp2_with (first
      | (go_at_call 49; refine (all_any [tb, tt, tl] _ _ _ 3 _ (w.heap.size + 2) (Rd.made_at (w.alloc _) (w.heap.size + 1) (by simp) 3 1 3 #[.int .i64 tb, .int .i64 tt, .int .i64 tl] rfl) (by omega)).mono ?_; rintro e w' ⟨rfl, rfl⟩; rw [h1])
      | (go_at_call 48; refine (in_any _ _ _ _).mono ?_; rintro e w' ⟨rfl, rfl⟩))
    go_ret3
    exact DuesPost.none (x := 0) (y := 2) hbel

/-- a loop's world keeps what lies below the row that it makes -/
structure DRel (t : Tf) (l : List Ps) (w wr : World) (v : Value) (k : Nat) : Prop where
  own : wr.ownsRow (w.heap.size + 1) 3 1 v k (ints (duesTo t l k))
  tf : Blk wr w.heap.size 41 (tfV t)
  below : Below w.heap.size w wr

set_option maxHeartbeats 8000000 in
set_option maxRecDepth 100000 in
theorem rdues_late (t : Tf) (N : Nat) (l : List Ps) (v : Value) (w : World) (B : Nat) (hr : Rd w B 3 v l.length (passesV l)) (hB : B ≤ w.heap.size) (ht : tfErr t = 0) (h5 : inB 1 40 (N : Int) = true) (hlen : l.length ≤ 300) :
    Calls Try.prog 22 #[.agg (tfV t), .int .i64 N, v] w (DuesPost w (duesSpec t N l)) := by
  obtain ⟨A, cl, rfl, hnc⟩ := hr.shape
  obtain ⟨⟨ta, tb'⟩, ⟨tc, td⟩, ⟨te, tf⟩, ⟨tg, th⟩, ⟨ti, tj⟩, tk, tl'⟩ := tf_ok ht
  have h1 : [t.base, t.tons, t.length].all (inB 0 1000000) = true := by simp [inB]; omega
  have h2 : inB 0 300 t.passes = true := inB_iff.2 ⟨by omega, by omega⟩
  have h3 : inB 0 10000 t.off = true := inB_iff.2 ⟨by omega, by omega⟩
  have h4 : inB 0 100000000000000 t.most = true := inB_iff.2 ⟨by omega, by omega⟩
  obtain ⟨n0, n1⟩ := inB_iff.1 h5
  have hde : duesErr t N l = firstBad (passErr N) l 0 := by rw [duesErr, if_pos ht, if_neg (by simp [h5]), if_neg (by omega)]
  have hs : duesSpec t N l = if (firstBad (passErr N) l 0).2 = 0 then (duesTo t l N, 0, 0) else ([], (firstBad (passErr N) l 0).1, (firstBad (passErr N) l 0).2) := by
    unfold duesSpec
    rw [hde, Int.toNat_natCast]
  obtain ⟨S, eS⟩ : ∃ S, S = duesSpec t N l := ⟨_, rfl⟩
  rw [← eS] at hs ⊢
  have Hs := Lib.hid hs
  have Ht := Lib.hid ht
  clear hs hde eS ht
  obtain ⟨T, eT⟩ : ∃ T, T = t := ⟨_, rfl⟩
  have hcost := fun (x : Ps) (W : World) (hx : passErr N x = 0) => costs_any t x N W Ht.out hx
  have hbl := fun (k j : Nat) (h : ∀ x ∈ l.take k, passErr N x = 0) => bill_bd (l := l.take k) Ht.out h j
  have hbs := fun (k j : Nat) (h : k < l.length) => (List.take_succ_eq_append_getElem h) ▸ billOf_snoc t (l.take k) l[k] j
  have hcb := fun (x : Ps) (hx : passErr N x = 0) => cost_bd Ht.out hx
  have hdu := fun (V : Int × Int) => (rfl : dueOf t V = min (if t.passes ≤ V.2 then V.1 - V.1 * t.off / 10000 else V.1) t.most)
  rw [← eT] at hbl hbs Hs hcb
  have hcost' : ∀ (x : Ps) (W : World), passErr N x = 0 → Calls Try.prog 50 #[.agg (tfV t), .agg (passV x).toArray] W fun e w' => e = .returned (.int .i64 (cost T x)) ∧ Below W.heap.size W w' := by
    rw [eT]
    exact hcost
  have hdu' : ∀ V : Int × Int, dueOf T V = min (if t.passes ≤ V.2 then V.1 - V.1 * t.off / 10000 else V.1) t.most := by
    rw [eT]
    exact hdu
  clear hcost hdu
  obtain ⟨tb, tt, tl, tp, tof, tm⟩ := t
  simp only at h1 h2 h3 h4 ta tb' tc td te tf tg th ti tj tk tl'
  have hq0 : Blk (w.alloc (.cells #[.int .i64 tb, .int .i64 tt, .int .i64 tl, .int .i64 tp, .int .i64 tof, .int .i64 tm] 41)) w.heap.size 41 #[.int .i64 tb, .int .i64 tt, .int .i64 tl, .int .i64 tp, .int .i64 tof, .int .i64 tm] := Blk.new w _ _
  have hbel : Below w.heap.size w ((w.alloc (.cells #[.int .i64 tb, .int .i64 tt, .int .i64 tl, .int .i64 tp, .int .i64 tof, .int .i64 tm] 41)).alloc (.cells #[.int .i64 tb, .int .i64 tt, .int .i64 tl] 3)) := ((Below.refl _ _).alloc (Nat.le_refl _) _).alloc (by simp) _
  have hq1 := hq0.alloc (.cells #[.int .i64 tb, .int .i64 tt, .int .i64 tl] 3)
  have hr1 := (hr.alloc hB (.cells #[.int .i64 tb, .int .i64 tt, .int .i64 tl, .int .i64 tp, .int .i64 tof, .int .i64 tm] 41)).alloc (by simp; omega) (.cells #[.int .i64 tb, .int .i64 tt, .int .i64 tl] 3)
  have HC := Lib.hid hcost'
  have HCB := Lib.hid hcb
  have HDu := Lib.hid hdu'
  have HBl := Lib.hid hbl
  have HBs := Lib.hid hbs
  have ET := Lib.hid eT
  clear hcost' hbl hbs eT hq0 hcb hdu'
  have hn1 : IntKind.i64.wrap ((N : Int) - 1) = (N : Int) - 1 := IntWalk.i64_in _ ⟨by omega, by omega⟩
  unfold tfV
  simp only
  go_enter Try.func22, Try.ntmps22
  go_wp2_with (first
    | (go_at_call 49; refine (all_any [tb, tt, tl] _ _ _ 3 _ (w.heap.size + 2) (Rd.made_at (w.alloc _) (w.heap.size + 1) (by simp) 3 1 3 #[.int .i64 tb, .int .i64 tt, .int .i64 tl] rfl) (by omega)).mono ?_; rintro e w' ⟨rfl, rfl⟩; rw [h1])
    | (go_at_call 48; refine (in_any _ _ _ _).mono ?_; rintro e w' ⟨rfl, rfl⟩))
  clear h1 h2 h3 h4 h5
  generalize hw1 : (w.alloc (.cells #[.int .i64 tb, .int .i64 tt, .int .i64 tl, .int .i64 tp, .int .i64 tof, .int .i64 tm] 41)).alloc (.cells #[.int .i64 tb, .int .i64 tt, .int .i64 tl] 3) = w1 at hbel hq1 hr1 ⊢
  clear hw1
  go_loop [9] (fun i => ∃ k : Nat, k ≤ l.length ∧ i = .int .i64 k ∧ Hid (∀ x ∈ l.take k, passErr N x = 0)) (fun i => l.length - (intOf i).toNat)
  case atStart => exact ⟨0, Nat.zero_le _, rfl, Lib.hid (by simp)⟩
  case round =>
    obtain ⟨k, hk, rfl, Hok⟩ := hrel
    by_cases hlt : k < l.length
    · obtain ⟨b, off, rfl, hb, c0, c1, c2⟩ := passes_cells l k hlt _ B _ _ _ hr1
      have hat := fun h => firstBad_at (f := passErr N) l 0 k hlt Hok.out h
      have htk := List.take_succ_eq_append_getElem hlt
      obtain ⟨x, hx⟩ : ∃ x, x = l[k] := ⟨_, rfl⟩
      rw [← hx] at c0 c1 c2 hat htk
      clear hx
      obtain ⟨xp, xt, xl⟩ := x
      simp only at c0 c1 c2
      have Hat := Lib.hid hat
      have Htk := Lib.hid htk
      clear hat htk
      have fin : ∀ E, passErr N ⟨xp, xt, xl⟩ = E → E ≠ 0 → S = ([], k, E) := by
        intro E h0 h1
        rw [Hs.out, Hat.out (by rw [h0]; exact h1), h0, if_neg (by exact h1), Nat.zero_add]
      have Fin := Lib.hid fin
      clear fin
      rcases Bool.eq_false_or_eq_true (inB 0 ((N : Int) - 1) xp) with g1 | g1
      · rcases Bool.eq_false_or_eq_true (inB 0 400000 xt) with g2 | g2
        · rcases Bool.eq_false_or_eq_true (inB 0 3000 xl) with g3 | g3
          · have e0 : Hid (∀ x ∈ l.take (k + 1), passErr N x = 0) := Lib.hid (by
              rw [Htk.out]
              intro x hx
              rcases List.mem_append.1 hx with h | h
              · exact Hok.out x h
              · rw [List.mem_singleton.1 h]
                simp [passErr, g1, g2, g3])
            go_wp2_with (go_at_call 48; refine (in_any _ _ _ _).mono ?_; rintro e w' ⟨rfl, rfl⟩)
            go_round
            case rel => exact ⟨k + 1, by omega, by go_num, e0⟩
            case measure => simp [intOf]; omega
          · have e0 : Hid (S = ([], k, 2)) := Lib.hid (Fin.out 2 (by simp [passErr, g1, g2, g3]) (by decide))
            go_wp2_with (go_at_call 48; refine (in_any _ _ _ _).mono ?_; rintro e w' ⟨rfl, rfl⟩)
            go_ret3
            rw [e0.out]
            exact DuesPost.none (x := k) (y := 2) hbel
        · have e0 : Hid (S = ([], k, 2)) := Lib.hid (Fin.out 2 (by simp [passErr, g1, g2]) (by decide))
          go_wp2_with (go_at_call 48; refine (in_any _ _ _ _).mono ?_; rintro e w' ⟨rfl, rfl⟩)
          go_ret3
          rw [e0.out]
          exact DuesPost.none (x := k) (y := 2) hbel
      · have e0 : Hid (S = ([], k, 7)) := Lib.hid (Fin.out 7 (by simp [passErr, g1]) (by decide))
        go_wp2_with (go_at_call 48; refine (in_any _ _ _ _).mono ?_; rintro e w' ⟨rfl, rfl⟩)
        go_ret3
        rw [e0.out]
        exact DuesPost.none (x := k) (y := 7) hbel
    · obtain rfl : k = l.length := by omega
      have hall : ∀ x ∈ l, passErr N x = 0 := by have := Hok.out; rwa [List.take_length] at this
      have hS : S = (duesTo T l N, 0, 0) := by rw [Hs.out, firstBad_ok l 0 hall, if_pos rfl]
      have HS := Lib.hid hS
      have Hall := Lib.hid hall
      clear hS hall Hs Hok
      have hr2 := hr1.alloc (by have := hbel.size; omega) (.cells #[] 3)
      have hq2 := hq1.alloc (.cells #[] 3)
      have hb2 := hbel.alloc hbel.size (.cells #[] 3)
      have how := own_new w1 (w.heap.size + 1) 3 1 0 #[] (by have := hq1.lt; omega) rfl (Nat.zero_le _)
      clear hr1 hq1 hbel
      go_wp2_with fail
      go_loopw [10, 11] (fun v i wr => ∃ k : Nat, k ≤ N ∧ i = .int .i64 k ∧ wr.ownsRow (w.heap.size + 1) 3 1 v k (ints (duesTo T l k)) ∧ Blk wr w.heap.size 41 #[.int .i64 tb, .int .i64 tt, .int .i64 tl, .int .i64 tp, .int .i64 tof, .int .i64 tm] ∧ Below w.heap.size w wr) (fun _ i _ => N - (intOf i).toNat)
      case atStart => exact ⟨0, Nat.zero_le _, rfl, how, hq2, hb2⟩
      case round =>
        clear hr2 hq2 hb2 how
        obtain ⟨k, hk, rfl, hown, hq, hbw⟩ := hrel
        obtain ⟨wo, rfl⟩ : ∃ wo : World, wo = wr := ⟨_, rfl⟩
        have hsz := hbw.size
        have hql := hq.lt
        by_cases hlt : k < N
        · go_wp2_with fail
          go_loopw [12, 13, 14] (fun n m i wi => ∃ j : Nat, j ≤ l.length ∧ i = .int .i64 j ∧ n = .int .i64 (billOf T (l.take j) k).1 ∧ m = .int .i64 (billOf T (l.take j) k).2 ∧ Below wo.heap.size wo wi) (fun _ _ i _ => l.length - (intOf i).toNat)
          case atStart => exact ⟨0, Nat.zero_le _, rfl, by simp [billOf], by simp [billOf], Below.refl _ _⟩
          case round =>
            obtain ⟨j, hj, rfl, rfl, rfl, hbi⟩ := hrel
            have hqi := hq.below hbi hq.lt
            have hszi := hbi.size
            by_cases hjl : j < l.length
            · obtain ⟨b, off, rfl, hbB, c0, c1, c2⟩ := passes_cells l j hjl _ B _ _ _ (hr.below ((hbw.trans (hbi.mono hsz)).mono hB))
              obtain ⟨q0, q1, q2, q3⟩ := HBl.out j k (fun x hx => Hall.out x (List.mem_of_mem_take hx))
              rw [List.length_take] at q1 q3
              have hsn := HBs.out j k hjl
              have hxe := Hall.out l[j] (List.getElem_mem hjl)
              obtain ⟨y0, y1⟩ := HCB.out l[j] hxe
              have hcl := fun W => HC.out l[j] W hxe
              obtain ⟨x, hx⟩ : ∃ x, x = l[j] := ⟨_, rfl⟩
              obtain ⟨C, eC⟩ : ∃ C, C = cost T x := ⟨_, rfl⟩
              obtain ⟨V, eV⟩ : ∃ V, V = billOf T (l.take j) k := ⟨_, rfl⟩
              rw [← hx] at c0 c1 c2 hsn y0 y1 hcl
              rw [← eC] at hsn y0 y1 hcl
              rw [← eV] at hsn q0 q1 q2 q3 ⊢
              clear hx hxe eC eV
              obtain ⟨xp, xt, xl⟩ := x
              obtain ⟨bn, bm⟩ := V
              simp only at c0 c1 c2 q0 q1 q2 q3 hsn
              unfold tfV passV at hcl
              simp only at hcl
              have Hcl := Lib.hid hcl
              clear hcl
              obtain ⟨k0, k1, k2, k3, k4, k5⟩ := (⟨hqi.cell 0, hqi.cell 1, hqi.cell 2, hqi.cell 3, hqi.cell 4, hqi.cell 5⟩ : _ ∧ _ ∧ _ ∧ _ ∧ _ ∧ _)
              simp only [List.getElem?_toArray, List.getElem?_cons_zero, List.getElem?_cons_succ] at k0 k1 k2 k3 k4 k5
              have l1 : w.heap.size < wr.heap.size := hqi.lt
              have l2 : b < wr.heap.size := by omega
              by_cases hp : xp = (k : Int)
              · rw [if_pos hp] at hsn
                have Hsn := Lib.hid hsn
                clear hsn
                subst hp
                have i0 : (0 : Int) ≤ (j : Int) := Int.natCast_nonneg _
                have i1 : (j : Int) < (l.length : Int) := by omega
                have i3 : IntKind.i64.wrap (bn + C) = bn + C := IntWalk.i64_in _ ⟨by omega, by omega⟩
                have i4 : IntKind.i64.wrap (bm + 1) = bm + 1 := IntWalk.i64_in _ ⟨by omega, by omega⟩
                go_wp2_with fail
                go_region_held3 (fun w' => w'.cell? ⟨w.heap.size, 0, none⟩ = some (.int .i64 tb) ∧ w'.cell? ⟨w.heap.size, 1, none⟩ = some (.int .i64 tt) ∧ w'.cell? ⟨w.heap.size, 2, none⟩ = some (.int .i64 tl) ∧ w'.cell? ⟨w.heap.size, 3, none⟩ = some (.int .i64 tp) ∧ w'.cell? ⟨w.heap.size, 4, none⟩ = some (.int .i64 tof) ∧ w'.cell? ⟨w.heap.size, 5, none⟩ = some (.int .i64 tm) ∧
                    w'.cell? ⟨b, off + j * 3, none⟩ = some (.int .i64 k) ∧ w'.cell? ⟨b, off + j * 3 + 1, none⟩ = some (.int .i64 xt) ∧ w'.cell? ⟨b, off + j * 3 + 2, none⟩ = some (.int .i64 xl))
                  (first
                    | go_keep
                    | (go_split_ands
                       refine ⟨?_, ?_, ?_, ?_, ?_, ?_, ?_, ?_, ?_⟩ <;> first | (rw [hb.cell (by simpa using l1)]; assumption) | (rw [hb.cell (by simpa using l2)]; assumption)))
                  (first
                    | (go_at_call 50; refine (Hcl.out _).mono ?_; rintro e w' ⟨rfl, hb⟩))
                go_wp2_with fail
                go_roundw
                case rel => exact ⟨j + 1, by omega, by go_num, by rw [Hsn.out], by rw [Hsn.out], hbi.drew.trans (hb.mono hszi)⟩
                case measure => simp [intOf]; omega
              · rw [if_neg hp] at hsn
                have Hsn := Lib.hid hsn
                have hp' : (xp == (k : Int)) = false := by simpa using hp
                clear hsn
                go_wp2_with fail
                go_roundw
                case rel => exact ⟨j + 1, by omega, by go_num, by rw [Hsn.out], by rw [Hsn.out], hbi⟩
                case measure => simp [intOf]; omega
            · obtain rfl : j = l.length := by omega
              rw [List.take_length]
              obtain ⟨q0, q1, q2, q3⟩ := HBl.out l.length k (fun x hx => Hall.out x (List.mem_of_mem_take hx))
              rw [List.take_length] at q0 q1 q2 q3
              have hds := duesTo_succ T l k
              have hdue := HDu.out (billOf T l k)
              obtain ⟨V, eV⟩ : ∃ V, V = billOf T l k := ⟨_, rfl⟩
              rw [← eV] at hds hdue q0 q1 q2 q3 ⊢
              clear eV
              obtain ⟨bn, bm⟩ := V
              simp only at q0 q1 q2 q3 hdue
              obtain ⟨m0, m1⟩ := prod_bd (x := bn) (y := tof) (a := 1500000000000) ⟨q0, by omega⟩ ⟨ti, tj⟩
              obtain ⟨k0, k1, k2, k3, k4, k5⟩ := (⟨hqi.cell 0, hqi.cell 1, hqi.cell 2, hqi.cell 3, hqi.cell 4, hqi.cell 5⟩ : _ ∧ _ ∧ _ ∧ _ ∧ _ ∧ _)
              simp only [List.getElem?_toArray, List.getElem?_cons_zero, List.getElem?_cons_succ] at k0 k1 k2 k3 k4 k5
              have howi := own_below hown hbi (Nat.le_refl _)
              have hbwi := hbw.trans (hbi.mono hsz)
              have l1 : w.heap.size < wr.heap.size := hqi.lt
              have Hds := Lib.hid hds
              clear hds
              by_cases hp : tp ≤ bm
              · rw [if_pos hp] at hdue
                have Hdue := Lib.hid hdue
                clear hdue
                go_wp2_with (at_builtin; refine wpList_push int_elem rfl (.tmp 121) (.tmp 126) rfl rfl howi _ rfl rfl (by simp [Value.oneCell']) (by simp only [maxLen]; omega) (by omega) (by omega) ?_; intro v9 w9 hown9 hg9 _)
                go_roundw
                case rel =>
                  refine ⟨k + 1, by omega, by go_num, ?_, hqi.push howi hg9 (by omega), Below.push hbwi howi hg9 (by omega) hbwi.size⟩
                  rw [Hds.out, Hdue.out, min_if]
                  simpa [ints] using hown9
                case measure => simp [intOf]; omega
              · rw [if_neg hp] at hdue
                have Hdue := Lib.hid hdue
                clear hdue
                go_wp2_with (at_builtin; refine wpList_push int_elem rfl (.tmp 121) (.tmp 126) rfl rfl howi _ rfl rfl (by simp [Value.oneCell']) (by simp only [maxLen]; omega) (by omega) (by omega) ?_; intro v9 w9 hown9 hg9 _)
                go_roundw
                case rel =>
                  refine ⟨k + 1, by omega, by go_num, ?_, hqi.push howi hg9 (by omega), Below.push hbwi howi hg9 (by omega) hbwi.size⟩
                  rw [Hds.out, Hdue.out, min_if]
                  simpa [ints] using hown9
                case measure => simp [intOf]; omega
        · obtain rfl : k = N := by omega
          go_wp2_with fail
          go_ret3
          rw [HS.out]
          refine ⟨_, rfl, ?_, hbw⟩
          simp only [duesTo_len]
          exact own_less hown (by omega)
end Go.Proofs.Ytkbfdgacnoadlaa
