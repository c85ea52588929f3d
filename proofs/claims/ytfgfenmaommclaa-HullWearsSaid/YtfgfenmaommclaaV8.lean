/- River: rows of rows that the call itself makes; what open asks of the sides; the flow of a reach in an hour. -/
import Derived.Test.YtfgfenmaommclaaV5
import Derived.Test.YtfgfenmaommclaaPush2
namespace Go.Proofs.Ytfgfenmaommclaa
open Go.RowKit

/-- a row of the call's own whose elements hold rows of the call's own -/
structure Rows (w : World) (base e osize : Nat) (vf : Value) (n : Nat) (outer : List Value) (tb size : Nat) (fs : List Value) (F : List (Nat × List Value)) : Prop where
  own : w.ownsRow base e osize vf n outer
  len : fs.length = F.length
  each : ∀ i, i < F.length → w.ownsRow base tb size (fs.getD i undef) (F.getD i (0, [])).1 (F.getD i (0, [])).2
  apart : ∀ i, i < F.length → Apart vf (fs.getD i undef)
section
variable {w w' W : World} {base e osize n tb size : Nat} {vf v' l : Value} {outer outer' : List Value} {fs : List Value} {F : List (Nat × List Value)}
theorem Rows.start (h : w.ownsRow base e osize vf 0 []) : Rows w base e osize vf 0 [] tb size [] [] := ⟨h, rfl, fun i hi => absurd hi (by simp), fun i hi => absurd hi (by simp)⟩
theorem Rows.below (h : Rows w base e osize vf n outer tb size fs F) (hb : Below w.heap.size w w') : Rows w' base e osize vf n outer tb size fs F :=
  ⟨own_below h.own hb (Nat.le_refl _), h.len, fun i hi => own_below (h.each i hi) hb (Nat.le_refl _), h.apart⟩
theorem Rows.alloc (h : Rows w base e osize vf n outer tb size fs F) (o : Obj) : Rows (w.alloc o) base e osize vf n outer tb size fs F :=
  ⟨h.own.alloc o, h.len, fun i hi => (h.each i hi).alloc o, h.apart⟩
theorem Rows.drewN (h : Rows w base e osize vf n outer tb size fs F) (k : Nat) : Rows (w.drewN k) base e osize vf n outer tb size fs F := ⟨h.own, h.len, h.each, h.apart⟩
theorem Rows.far (h : Rows w base e osize vf n outer tb size fs F) {g : Nat} (hg : w.grownBy w' (some g)) (hlt : g < base) : Rows w' base e osize vf n outer tb size fs F :=
  ⟨own_far h.own hg hlt, h.len, fun i hi => own_far (h.each i hi) hg hlt, h.apart⟩
theorem getD_snoc {α : Type} {l : List α} {x d : α} {i : Nat} : (l ++ [x]).getD i d = if i < l.length then l.getD i d else if i = l.length then x else d := by
  simp only [List.getD_eq_getElem?_getD, List.getElem?_append]
  by_cases h : i < l.length
  · simp [h]
  · by_cases h2 : i = l.length
    · subst h2; simp
    · have : 1 ≤ i - l.length := by omega
      simp [h, h2, List.getElem?_eq_none, this]
/-- a row that has come into a new element -/
theorem Rows.push (h : Rows W base e osize vf n outer tb size fs F) {m : Nat} {cells : List Value} (hl : W.ownsRow base tb size l m cells) (ha : Apart vf l)
    (hown : w'.ownsRow base e osize v' (n + 1) outer') (hg : W.grownBy w' vf.ownBlock) (hat : v'.ownBlock = vf.ownBlock ∨ v'.ownBlock = some (W.heap.size + 1)) :
    Rows w' base e osize v' (n + 1) outer' tb size (fs ++ [l]) (F ++ [(m, cells)]) := by
  refine ⟨hown, by simp [h.len], fun i hi => ?_, fun i hi => ?_⟩
  · rw [getD_snoc, getD_snoc, h.len]
    by_cases h1 : i < F.length
    · rw [if_pos h1, if_pos h1]
      exact own_apart (h.each i h1) hg (h.apart i h1)
    · have h2 : i = F.length := by simp at hi; omega
      rw [if_neg h1, if_neg h1, if_pos h2, if_pos h2]
      exact own_apart hl hg ha
  · rw [getD_snoc, h.len]
    by_cases h1 : i < F.length
    · rw [if_pos h1]
      exact (h.apart i h1).push (h.each i h1) hat
    · have h2 : i = F.length := by simp at hi; omega
      rw [if_neg h1, if_pos h2]
      exact ha.push hl hat
end
/-- lists of bounds as rows -/
def rowsB (l : List (List Bd)) : List (Nat × List Value) := l.map fun x => (x.length, bdsC x)
theorem rowsB_len (l : List (List Bd)) : (rowsB l).length = l.length := by simp [rowsB]
theorem rowsB_at (l : List (List Bd)) (i : Nat) (hi : i < l.length) : (rowsB l).getD i (0, []) = ((l.getD i []).length, bdsC (l.getD i [])) := by
  simp [rowsB, hi]
theorem Rows.sides {w : World} {base e n tb : Nat} {vf : Value} {fs : List Value} {l : List (List Bd)} (h : Rows w base e 1 vf n fs tb 2 fs (rowsB l)) : RdSides w w.heap.size vf l fs := by
  have hl : fs.length = l.length := by rw [h.len, rowsB_len]
  have hn : n = l.length := by have := h.own.1; omega
  subst hn
  refine ⟨hl, Rd.of_own h.own, fun i hi => ?_⟩
  have := Rd.of_own (h.each i (by rw [rowsB_len]; exact hi))
  rw [rowsB_at l i hi] at this
  exact this

set_option maxHeartbeats 1000000 in
theorem other_any (A A0 : Option Addr) (b off n c N C m c0 : Nat) (p : Addr) (w : World) (hp : w.cell? p = some (.slice (some ⟨b, off, none⟩) N C)) (hN : 0 < N) (h0 : w.cell? ⟨b, off, none⟩ = some (.slice A0 m c0)) :
    Calls Try.prog 66 #[.slice A n c, .pointer (some p)] w fun e w' => e = .returned (.bool (!decide (n = m))) ∧ w = w' := by
  have e1 : ((n : Int) != (m : Int)) = !decide (n = m) := by
    rw [Bool.eq_iff_iff]; simp; omega
  go_enter Try.func66, Try.ntmps66
  go_wp2
  go_ret
  exact ⟨ret_bool (by first | exact e1 | (simp; done) | rfl), rfl⟩
set_option maxHeartbeats 1000000 in
theorem sideBad_any (l : List Bd) (v : Value) (w : World) (B : Nat) (hr : Rd w B 2 v l.length (bdsC l)) (hB : B ≤ w.heap.size) (hl : l.length ≤ 1048576) :
    Calls Try.prog 68 #[v] w fun e w' => e = .returned (.bool (!l.all (bdOk 0 10000000000))) ∧ Below w.heap.size w w' := by
  go_enter Try.func68, Try.ntmps68
  go_wp2_with (go_at_call 69; refine (isValid_any l _ _ _ _ B hr hB hl).mono ?_; rintro e w' ⟨rfl, hb⟩)
  go_ret
  exact ⟨rfl, hb⟩
/-- all lists are short -/
def SidesB (l : List (List Bd)) : Prop := ∀ i, i < l.length → (l.getD i []).length ≤ 1048576

set_option maxHeartbeats 2000000 in
theorem index_bad (l : List (List Bd)) (v : Value) (vs : List Value) (w : World) (B : Nat) (hr : RdSides w B v l vs) (hB : B ≤ w.heap.size) (hn : l.length ≤ 1048576) (hsb : SidesB l)  :
    Calls Try.prog 89 #[v, .func (.func 68) #[] #[]] w fun e w' => (∃ r : Int, e = .returned (.int .i64 r) ∧ decide (0 ≤ r) = !l.all (fun x => x.all (bdOk 0 10000000000))) ∧ Below w.heap.size w w' := by
  obtain ⟨A, c, rfl, hnc⟩ := hr.rd.shape
  have Hsb := Lib.hid hsb
  clear hsb
  go_enter Try.func89, Try.ntmps89
  go_wp2
  go_loopw [5, 8] (fun _ i wr => ∃ k : Nat, k ≤ l.length ∧ i = .int .i64 k ∧ Hid ((l.take k).all (fun x => x.all (bdOk 0 10000000000)) = true) ∧ Below w.heap.size w wr) (fun _ i _ => l.length - (intOf i).toNat)
  case atStart => exact ⟨0, Nat.zero_le _, rfl, rfl, Below.refl _ _⟩
  case round =>
    obtain ⟨k, hk, rfl, Hal, hbw⟩ := hrel
    by_cases hlt : k < l.length
    · obtain ⟨b, off, rfl, hb, c0⟩ := sides_cell (hr.below (hbw.mono hB)) k hlt
      have hcur := (hr.below (hbw.mono hB)).side k hlt
      have hsz := hbw.size
      have hcall := sideBad_any (l.getD k []) _ wr B hcur (by omega) (Hsb.out k hlt)
      obtain ⟨Ak, ck, ek, _⟩ := hcur.shape
      rw [ek] at c0 hcall
      have htk := fun h => take_len (f := (fun x => x.all (bdOk 0 10000000000))) (d := []) hlt Hal.out h
      have hfl := fun h => all_not (f := (fun x => x.all (bdOk 0 10000000000))) (d := []) hlt h
      obtain ⟨x, hx⟩ : ∃ x, x = l.getD k [] := ⟨_, rfl⟩
      rw [← hx] at c0 hcall htk hfl
      have Htk := Lib.hid htk
      have Hcall := Lib.hid hcall
      have Hfl := Lib.hid hfl
      clear htk hcall hx hfl ek hcur
      rcases Bool.eq_false_or_eq_true ((fun x => x.all (bdOk 0 10000000000)) x) with hx | hx
      · go_wp2_with fail
        refine Hcall.out.mono ?_
        rintro e w1 ⟨rfl, hb1⟩
        rw [hx]
        go_wp2_with fail
        go_roundw
        case rel => exact ⟨k + 1, by omega, by go_num, Lib.hid (Htk.out hx), hbw.trans (hb1.mono hbw.size)⟩
        case measure => simp [intOf]; omega
      · go_wp2_with fail
        refine Hcall.out.mono ?_
        rintro e w1 ⟨rfl, hb1⟩
        rw [hx]
        go_wp2_with fail
        go_ret
        exact ⟨⟨_, rfl, by rw [Hfl.out hx]; simp⟩, hbw.trans (hb1.mono hbw.size)⟩
    · go_wp2_with fail
      go_ret
      have h := Hal.out
      rw [List.take_of_length_le (by omega)] at h
      exact ⟨⟨_, rfl, by rw [h]; rfl⟩, hbw⟩

set_option maxHeartbeats 1000000 in
theorem contains_bad (l : List (List Bd)) (v : Value) (vs : List Value) (w : World) (B : Nat) (hr : RdSides w B v l vs) (hB : B ≤ w.heap.size) (hn : l.length ≤ 1048576) (hsb : SidesB l)  :
    Calls Try.prog 67 #[v, .func (.func 68) #[] #[]] w fun e w' => e = .returned (.bool (!l.all (fun x => x.all (bdOk 0 10000000000)))) ∧ Below w.heap.size w w' := by
  have Hsb := Lib.hid hsb
  clear hsb
  go_enter Try.func67, Try.ntmps67
  go_wp2_with (go_at_call 89; refine (index_bad l _ _ _ B hr hB hn Hsb.out).mono ?_; rintro e w' ⟨⟨r, rfl, hr'⟩, hb⟩)
  go_ret
  exact ⟨ret_bool (by simp), hb⟩

set_option maxHeartbeats 2000000 in
theorem index_other (l : List (List Bd)) (v : Value) (vs : List Value) (w : World) (B : Nat) (hr : RdSides w B v l vs) (hB : B ≤ w.heap.size) (hn : l.length ≤ 1048576) (hsb : SidesB l) (p : Addr) (hp : w.cell? p = some v) (hpb : p.block < w.heap.size) (h0 : 0 < l.length) :
    Calls Try.prog 89 #[v, .func (.func 66) #[] #[.pointer (some p)]] w fun e w' => (∃ r : Int, e = .returned (.int .i64 r) ∧ decide (0 ≤ r) = !l.all (fun x => decide (x.length = (l.getD 0 []).length))) ∧ Below w.heap.size w w' := by
  obtain ⟨A, c, rfl, hnc⟩ := hr.rd.shape
  have Hsb := Lib.hid hsb
  clear hsb
  go_enter Try.func89, Try.ntmps89
  go_wp2
  go_loopw [5, 8] (fun _ i wr => ∃ k : Nat, k ≤ l.length ∧ i = .int .i64 k ∧ Hid ((l.take k).all (fun x => decide (x.length = (l.getD 0 []).length)) = true) ∧ Below w.heap.size w wr) (fun _ i _ => l.length - (intOf i).toNat)
  case atStart => exact ⟨0, Nat.zero_le _, rfl, rfl, Below.refl _ _⟩
  case round =>
    obtain ⟨k, hk, rfl, Hal, hbw⟩ := hrel
    by_cases hlt : k < l.length
    · obtain ⟨b, off, rfl, hb, c0⟩ := sides_cell (hr.below (hbw.mono hB)) k hlt
      have hcur := (hr.below (hbw.mono hB)).side k hlt
      have hsz := hbw.size
      obtain ⟨_, _, e1, _, d0⟩ := sides_cell (hr.below (hbw.mono hB)) 0 h0
      injection e1 with e1
      injection e1 with e1 e2
      subst e1 e2
      obtain ⟨A0, k0, e0, _⟩ := ((hr.below (hbw.mono hB)).side 0 h0).shape
      rw [e0, Nat.add_zero] at d0
      have hcall := fun A c => below_of_same (other_any A A0 b off (l.getD k []).length c l.length _ (l.getD 0 []).length k0 p wr ((hbw.cell hpb).trans hp) h0 d0)
      obtain ⟨Ak, ck, ek, _⟩ := hcur.shape
      rw [ek] at c0
      replace hcall := hcall Ak ck
      have htk := fun h => take_len (f := (fun x => decide (x.length = (l.getD 0 []).length))) (d := []) hlt Hal.out h
      have hfl := fun h => all_not (f := (fun x => decide (x.length = (l.getD 0 []).length))) (d := []) hlt h
      obtain ⟨x, hx⟩ : ∃ x, x = l.getD k [] := ⟨_, rfl⟩
      rw [← hx] at c0 hcall htk hfl
      have Htk := Lib.hid htk
      have Hcall := Lib.hid hcall
      have Hfl := Lib.hid hfl
      clear htk hcall hx hfl ek hcur
      rcases Bool.eq_false_or_eq_true ((fun x => decide (x.length = (l.getD 0 []).length)) x) with hx | hx
      · go_wp2_with fail
        refine Hcall.out.mono ?_
        rintro e w1 ⟨rfl, hb1⟩
        rw [hx]
        go_wp2_with fail
        go_roundw
        case rel => exact ⟨k + 1, by omega, by go_num, Lib.hid (Htk.out hx), hbw.trans (hb1.mono hbw.size)⟩
        case measure => simp [intOf]; omega
      · go_wp2_with fail
        refine Hcall.out.mono ?_
        rintro e w1 ⟨rfl, hb1⟩
        rw [hx]
        go_wp2_with fail
        go_ret
        exact ⟨⟨_, rfl, by rw [Hfl.out hx]; simp⟩, hbw.trans (hb1.mono hbw.size)⟩
    · go_wp2_with fail
      go_ret
      have h := Hal.out
      rw [List.take_of_length_le (by omega)] at h
      exact ⟨⟨_, rfl, by rw [h]; rfl⟩, hbw⟩

set_option maxHeartbeats 1000000 in
theorem contains_other (l : List (List Bd)) (v : Value) (vs : List Value) (w : World) (B : Nat) (hr : RdSides w B v l vs) (hB : B ≤ w.heap.size) (hn : l.length ≤ 1048576) (hsb : SidesB l) (p : Addr) (hp : w.cell? p = some v) (hpb : p.block < w.heap.size) (h0 : 0 < l.length) :
    Calls Try.prog 67 #[v, .func (.func 66) #[] #[.pointer (some p)]] w fun e w' => e = .returned (.bool (!l.all (fun x => decide (x.length = (l.getD 0 []).length)))) ∧ Below w.heap.size w w' := by
  have Hsb := Lib.hid hsb
  clear hsb
  go_enter Try.func67, Try.ntmps67
  go_wp2_with (go_at_call 89; refine (index_other l _ _ _ B hr hB hn Hsb.out p hp hpb h0).mono ?_; rintro e w' ⟨⟨r, rfl, hr'⟩, hb⟩)
  go_ret
  exact ⟨ret_bool (by simp [List.getElem?_eq_getElem h0]), hb⟩

set_option maxHeartbeats 2000000 in
set_option maxRecDepth 100000 in
/-- the flow of a reach before the first hour -/
theorem flow_early (g i : Nat) (h : Int) (r : List Reach) (v u vf : Value) (vs : List Value) (w : World) (B : Nat) (hq : Blk w g 165 #[v, u, vf]) (hr : RdReaches w B v r vs) (hi : i < r.length) (hh : h < 0) :
    Calls Try.prog 70 #[.pointer (some ⟨g, 0, none⟩), .int .i64 i, .int .i64 h] w fun e w' => e = .returned (.agg #[.int .i64 (r.getD i reach0).base.lo, .int .i64 (r.getD i reach0).base.hi]) ∧ Below w.heap.size w w' := by
  obtain ⟨A, c, rfl, hnc⟩ := hr.shape
  obtain ⟨b, off, rfl, hb, ⟨_, _, c2, c3, _, _, _, _, _⟩⟩ := reaches_cells hr i hi
  obtain ⟨x, hx⟩ : ∃ x, x = (r.getD i reach0).base.lo := ⟨_, rfl⟩
  obtain ⟨y, hy⟩ : ∃ x, x = (r.getD i reach0).base.hi := ⟨_, rfl⟩
  rw [← hx] at c2 ⊢
  rw [← hy] at c3 ⊢
  clear hx hy
  have z0 := World.block_lt_of_cell? w ⟨b, off + i * 9 + 2, none⟩ c2
  have hql := hq.lt
  have y0 := hq.cell 0
  simp only [List.getElem?_toArray, List.getElem?_cons_zero] at y0
  have hh' : decide (h < 0) = true := decide_eq_true hh
  have hi' : (i : Int) < (r.length : Int) := by omega
  have hbB : b < w.heap.size := z0
  go_enter Try.func70, Try.ntmps70
  go_wp2_with fail
  refine bodyPost_ret (v := .agg #[.int .i64 x, .int .i64 y]) (by simp [results, Try.results70, go_sem]) rfl ⟨rfl, (Below.refl _ _).alloc (Nat.le_refl _) _⟩

set_option maxHeartbeats 2000000 in
set_option maxRecDepth 100000 in
/-- the flow of a reach in an hour -/
theorem flow_late (g i t : Nat) (F : List (List Bd)) (v u vf : Value) (fs : List Value) (w : World) (B : Nat) (hq : Blk w g 165 #[v, u, vf]) (hr : RdSides w B vf F fs) (hi : i < F.length) (ht : t < (F.getD i []).length) :
    Calls Try.prog 70 #[.pointer (some ⟨g, 0, none⟩), .int .i64 i, .int .i64 t] w fun e w' => e = .returned (.agg #[.int .i64 ((F.getD i []).getD t bd0).lo, .int .i64 ((F.getD i []).getD t bd0).hi]) ∧ Below w.heap.size w w' := by
  obtain ⟨A, c, rfl, hnc⟩ := hr.rd.shape
  obtain ⟨b, off, rfl, hb, c0⟩ := sides_cell hr i hi
  have hs := hr.side i hi
  obtain ⟨A2, k2, e2, _⟩ := hs.shape
  rw [e2] at hs c0
  obtain ⟨b2, off2, rfl, hb2, d0, d1⟩ := bds_cells _ t ht _ _ _ _ _ hs
  obtain ⟨n, hn⟩ : ∃ n, n = (F.getD i []).length := ⟨_, rfl⟩
  rw [← hn] at c0 ht
  obtain ⟨x, hx⟩ : ∃ x, x = ((F.getD i []).getD t bd0).lo := ⟨_, rfl⟩
  obtain ⟨y, hy⟩ : ∃ x, x = ((F.getD i []).getD t bd0).hi := ⟨_, rfl⟩
  rw [← hx] at d0 ⊢
  rw [← hy] at d1 ⊢
  clear hx hy hn hs e2
  have z0 := World.block_lt_of_cell? w ⟨b, off + i, none⟩ c0
  have z1 := World.block_lt_of_cell? w ⟨b2, off2 + t * 2, none⟩ d0
  have hbB : b < w.heap.size := z0
  have hbB2 : b2 < w.heap.size := z1
  have hql := hq.lt
  have y0 := hq.cell 2
  simp only [List.getElem?_toArray, List.getElem?_cons_zero, List.getElem?_cons_succ] at y0
  have hh' : decide ((t : Int) < 0) = false := by simp
  have hi' : (i : Int) < (F.length : Int) := by omega
  have hi2 : (t : Int) < (n : Int) := by omega
  go_enter Try.func70, Try.ntmps70
  go_wp2_with fail
  refine bodyPost_ret (v := .agg #[.int .i64 x, .int .i64 y]) (by simp [results, Try.results70, go_sem]) rfl ⟨rfl, (Below.refl _ _).alloc (Nat.le_refl _) _⟩
end Go.Proofs.Ytfgfenmaommclaa
