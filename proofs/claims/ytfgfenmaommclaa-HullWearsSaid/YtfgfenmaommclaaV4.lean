/- River: how many places; whether a river is valid, by the program. -/
import Derived.Test.YtfgfenmaommclaaV3
namespace Go.Proofs.Ytfgfenmaommclaa
open Go.RowKit

theorem RdReaches.shape {w : World} {B : Nat} {v : Value} {l : List Reach} {vs : List Value} (h : RdReaches w B v l vs) : ∃ A c, v = .slice A l.length c ∧ l.length ≤ c := h.rd.shape
theorem take_len {α : Type} {l : List α} {f : α → Bool} {d : α} {k : Nat} (hk : k < l.length) (h : (l.take k).all f = true) (hx : f (l.getD k d) = true) : (l.take (k + 1)).all f = true := by
  rw [List.take_succ_eq_append_getElem hk, List.all_append, h]
  simp at hx ⊢
  simpa [hk] using hx
theorem all_not {α : Type} {l : List α} {f : α → Bool} {d : α} {k : Nat} (hk : k < l.length) (hx : f (l.getD k d) = false) : l.all f = false := by
  refine all_false_at hk ?_
  simpa [hk] using hx
/-- a bound for the sum of all lengths -/
def lensB (l : List Reach) : Prop := ∀ k, k ≤ l.length → -4611686018427387904 ≤ placesOf (l.take k) ∧ placesOf (l.take k) ≤ 4611686018427387904
theorem lens_ok {l : List Reach} (hl : l.length ≤ 1048576) (h : ∀ x ∈ l, 0 ≤ x.len ∧ x.len ≤ 5000) : lensB l := fun k hk => by
  have h1 := places_nonneg (l.take k) fun x hx => (h x (List.mem_of_mem_take hx)).1
  have h2 := places_le (l.take k) (m := 5000) fun x hx => (h x (List.mem_of_mem_take hx)).2
  rw [List.length_take] at h2
  omega
theorem lens_reach {l : List Reach} (hl : l.length ≤ 1048576) (h : l.all reachB = true) : lensB l := lens_ok hl fun x hx => by have := (reachB_ok (List.all_eq_true.1 h x hx)).len; omega

set_option maxHeartbeats 1000000 in
set_option maxRecDepth 100000 in
theorem length_any (r : River) (v u : Value) (vs : List Value) (w : World) (B : Nat) (hr : RdRiver w B v u r vs) (hB : B ≤ w.heap.size) (hl : r.reaches.length ≤ 1048576) (hb : lensB r.reaches) :
    Calls Try.prog 88 #[.agg #[v, u]] w fun e w' => e = .returned (.int .i64 (placesOf r.reaches)) ∧ Below w.heap.size w w' := by
  obtain ⟨hr, _⟩ := hr
  obtain ⟨A, c, rfl, hnc⟩ := hr.shape
  obtain ⟨l, el⟩ : ∃ l, l = r.reaches := ⟨_, rfl⟩
  rw [← el] at hr hl hb hnc ⊢
  clear el
  have Hb := Lib.hid hb
  clear hb
  have b0 : Below w.heap.size w (w.alloc (.cells #[.slice A l.length c, u] 49)) := (Below.refl _ _).alloc (Nat.le_refl _) _
  go_enter Try.func88, Try.ntmps88
  go_wp2_with fail
  go_loopw [2, 4, 8] (fun s _ i wr => ∃ k : Nat, k ≤ l.length ∧ i = .int .i64 k ∧ s = .int .i64 (placesOf (l.take k)) ∧ Below w.heap.size w wr) (fun _ _ i _ => l.length - (intOf i).toNat)
  case atStart => exact ⟨0, Nat.zero_le _, rfl, rfl, b0⟩
  case round =>
    clear b0
    obtain ⟨k, hk, rfl, rfl, hbw⟩ := hrel
    obtain ⟨p1, p2⟩ := Hb.out k hk
    by_cases hlt : k < l.length
    · obtain ⟨b, off, rfl, hb, ⟨c0, c1, c2, c3, c4, c5, c6, c7, c8⟩⟩ := reaches_cells (hr.below (hbw.mono hB)) k hlt
      obtain ⟨Ak, ck, ek, _⟩ := (hr.curve k hlt).shape
      rw [ek] at c4
      obtain ⟨p3, p4⟩ := Hb.out (k + 1) (by omega)
      have hsc := placesOf_succ hlt
      obtain ⟨x, ex⟩ : ∃ x, x = l.getD k reach0 := ⟨_, rfl⟩
      rw [← ex] at c0 c1 c2 c3 c4 c5 c6 c7 c8 hsc
      rw [hsc] at p3 p4
      have Hsc := Lib.hid hsc
      clear hsc ek ex
      obtain ⟨S, eS⟩ : ∃ S, S = placesOf (l.take k) := ⟨_, rfl⟩
      rw [← eS] at p1 p2 p3 p4 ⊢
      have HS := Lib.hid eS
      clear eS
      have hsz := hbw.size
      go_wp2_with fail
      go_roundw
      case rel => exact ⟨k + 1, by omega, by go_num, by rw [Hsc.out, ← HS.out], hbw.alloc hsz _⟩
      case measure => simp [intOf]; omega
    · obtain rfl : k = l.length := by omega
      rw [List.take_length] at p1 p2 ⊢
      go_wp2_with fail
      go_ret
      exact ⟨rfl, hbw⟩

set_option maxHeartbeats 1000000 in
set_option maxRecDepth 100000 in
theorem bad_any (x : Reach) (v : Value) (w : World) (B : Nat) (hr : Rd w B 2 v x.curve.length (rowsC x.curve)) (hB : B ≤ w.heap.size) (hl : x.curve.length ≤ 1048576) :
    Calls Try.prog 85 #[.agg (reachV x v)] w fun e w' => e = .returned (.bool (!reachB x)) ∧ Below w.heap.size w w' := by
  obtain ⟨A, c, rfl, hnc⟩ := hr.shape
  have hc := fun W (h : Rd W B 2 (.slice A x.curve.length c) x.curve.length (rowsC x.curve)) (hB : B ≤ W.heap.size) => checkReach_any x _ W B h hB hl
  unfold reachV at hc ⊢
  have Hc := Lib.hid hc
  clear hc
  have b0 : Below w.heap.size w (w.alloc (.cells (reachV x (.slice A x.curve.length c)) 98)) := (Below.refl _ _).alloc (Nat.le_refl _) _
  have h0 := hr.alloc hB (.cells (reachV x (.slice A x.curve.length c)) 98)
  unfold reachV at h0 b0
  rcases Bool.eq_false_or_eq_true (reachB x) with hx | hx
  all_goals
    rw [hx]
    go_enter Try.func85, Try.ntmps85
    go_wp2_with fail
    refine (Hc.out _ h0 (by simp; omega)).mono ?_
    rintro e w1 ⟨rfl, hb1⟩
    rw [hx]
    unfold errB
    go_wp2_with fail
    go_ret
    exact ⟨rfl, b0.trans (hb1.mono (by simp))⟩
/-- all curves are short -/
def CurvesB (l : List Reach) : Prop := ∀ i, i < l.length → (l.getD i reach0).curve.length ≤ 1048576

set_option maxHeartbeats 1000000 in
set_option maxRecDepth 100000 in
theorem index_reaches (l : List Reach) (v : Value) (vs : List Value) (w : World) (B : Nat) (hr : RdReaches w B v l vs) (hB : B ≤ w.heap.size) (hn : l.length ≤ 1048576) (hcv : CurvesB l) :
    Calls Try.prog 97 #[v, .func (.func 85) #[] #[]] w fun e w' => (∃ r : Int, e = .returned (.int .i64 r) ∧ decide (0 ≤ r) = !l.all reachB) ∧ Below w.heap.size w w' := by
  obtain ⟨A, c, rfl, hnc⟩ := hr.shape
  have Hcv := Lib.hid hcv
  clear hcv
  go_enter Try.func97, Try.ntmps97
  go_wp2
  go_loopw [5, 8] (fun _ i wr => ∃ k : Nat, k ≤ l.length ∧ i = .int .i64 k ∧ Hid ((l.take k).all reachB = true) ∧ Below w.heap.size w wr) (fun _ i _ => l.length - (intOf i).toNat)
  case atStart => exact ⟨0, Nat.zero_le _, rfl, rfl, Below.refl _ _⟩
  case round =>
    obtain ⟨k, hk, rfl, Hal, hbw⟩ := hrel
    by_cases hlt : k < l.length
    · obtain ⟨b, off, rfl, hb, ⟨c0, c1, c2, c3, c4, c5, c6, c7, c8⟩⟩ := reaches_cells (hr.below (hbw.mono hB)) k hlt
      have hcur := (hr.below (hbw.mono hB)).curve k hlt
      have hcall := bad_any (l.getD k reach0) _ wr B hcur (by have := hbw.size; omega) (Hcv.out k hlt)
      obtain ⟨Ak, ck, ek, _⟩ := hcur.shape
      rw [ek] at c4 hcall
      have htk := fun h => take_len (f := reachB) (d := reach0) hlt Hal.out h
      have hfl := fun h => all_not (f := reachB) (d := reach0) hlt h
      obtain ⟨x, hx⟩ : ∃ x, x = l.getD k reach0 := ⟨_, rfl⟩
      rw [← hx] at c0 c1 c2 c3 c4 c5 c6 c7 c8 hcall htk hfl
      unfold reachV at hcall
      have Htk := Lib.hid htk
      have Hcall := Lib.hid hcall
      have Hfl := Lib.hid hfl
      clear htk hcall hx hfl ek hcur
      rcases Bool.eq_false_or_eq_true (reachB x) with hx | hx
      · go_wp2_with fail
        refine Hcall.out.mono ?_
        rintro e w1 ⟨rfl, hb1⟩
        rw [hx]
        go_wp2_with fail
        go_roundw
        case rel => exact ⟨k + 1, by omega, by go_num, Lib.hid (Htk.out hx), hbw.trans (hb1.mono hbw.size)⟩
        case measure => simp [intOf]; omega
      · go_wp2_with fail
        refine Hcall.out.mono ?_
        rintro e w1 ⟨rfl, hb1⟩
        rw [hx]
        go_wp2_with fail
        go_ret
        exact ⟨⟨_, rfl, by rw [Hfl.out hx]; simp⟩, hbw.trans (hb1.mono hbw.size)⟩
    · go_wp2_with fail
      go_ret
      have h := Hal.out
      rw [List.take_of_length_le (by omega)] at h
      exact ⟨⟨_, rfl, by rw [h]; rfl⟩, hbw⟩

set_option maxHeartbeats 1000000 in
theorem contains_reaches (l : List Reach) (v : Value) (vs : List Value) (w : World) (B : Nat) (hr : RdReaches w B v l vs) (hB : B ≤ w.heap.size) (hn : l.length ≤ 1048576) (hcv : CurvesB l) :
    Calls Try.prog 87 #[v, .func (.func 85) #[] #[]] w fun e w' => e = .returned (.bool (!l.all reachB)) ∧ Below w.heap.size w w' := by
  have Hcv := Lib.hid hcv
  clear hcv
  go_enter Try.func87, Try.ntmps87
  go_wp2_with (go_at_call 97; refine (index_reaches l _ _ _ B hr hB hn Hcv.out).mono ?_; rintro e w' ⟨⟨r, rfl, hr'⟩, hb⟩)
  go_ret
  exact ⟨ret_bool (by simp), hb⟩
end Go.Proofs.Ytfgfenmaommclaa
