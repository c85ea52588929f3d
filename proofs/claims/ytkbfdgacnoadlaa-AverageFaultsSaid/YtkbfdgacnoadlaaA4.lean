/- The program's Blame: its checks, what it collects, what each party pays or gets. -/
import Derived.Test.YtkbfdgacnoadlaaA3
import Derived.StillTailTactics
namespace Go.Proofs.Ytkbfdgacnoadlaa
open Go.RowKit

/-- the error of a collision -/
def blameErr (a b c : List Int) : Int :=
  if inB 1 12 a.length = false then 4 else if b.length ≠ a.length then 4 else if c.length ≠ a.length then 4
  else if a.all (inB 0 100000000000) = false then 3 else if b.all (inB 0 10000) = false then 3 else if c.all (inB 0 100000000000000) = false then 3
  else if (wrap64 b.sum == 0) = true then 2 else 0

/-- an element, or 0 -/
def at0 (l : List Int) (i : Nat) : Int := l.getD i 0
theorem at0_get {l : List Int} {i : Nat} (h : i < l.length) : l[i] = at0 l i := by simp [at0, h]
theorem ints_cell (l : List Int) (k : Nat) (hlt : k < l.length) (w : World) (B : Nat) (A : Option Addr) (c : Nat) (n : Nat) (hr : Rd w B 1 (.slice A n c) n (ints l)) :
    ∃ b off, A = some ⟨b, off, none⟩ ∧ b < B ∧ w.cell? ⟨b, off + k, none⟩ = some (.int .i64 (at0 l k)) := by
  have hl : n = l.length := by have := hr.len; simp [ints] at this; omega
  subst hl
  rw [← at0_get hlt]
  exact ints_at l k hlt w B A c hr

/-- what a party pays by the bears -/
def pay (bs a c : List Int) (i : Nat) : Int := min (at0 c i) (max 0 (at0 bs i - at0 a i))
/-- what it has lost too much -/
def claim (bs a : List Int) (i : Nat) : Int := at0 a i - at0 bs i
def paysTo (bs a c : List Int) (k : Nat) : List Int := (List.range k).map (pay bs a c)
def whoTo (bs a : List Int) (k : Nat) : List Nat := (List.range k).filter fun i => decide (0 < claim bs a i)
def claimsTo (bs a : List Int) (k : Nat) : List Int := (whoTo bs a k).map (claim bs a)
def nats (l : List Nat) : List Int := l.map fun i : Nat => (i : Int)
/-- the list with what some parties get -/
def getsTo (l : List Int) (who : List Nat) (gs : List Int) : Nat → List Int
  | 0 => l
  | k + 1 => (getsTo l who gs k).set (who.getD k 0) (-(at0 gs k))
/-- what Blame returns -/
def blameL (a b c : List Int) : List Int :=
  let bs := splitL a.sum b
  let who := whoTo bs a a.length
  getsTo (paysTo bs a c a.length) who (splitL (paysTo bs a c a.length).sum (claimsTo bs a a.length)) who.length
def blameSpec (a b c : List Int) : List Int := if blameErr a b c = 0 then blameL a b c else []

theorem blame_one {r : Bool} (x : Int) (h : inB 1 12 x = r) : ([x].all (inB 1 12)) = r := by simpa using h

set_option maxHeartbeats 2000000 in
theorem blame_bad (a b c : List Int) (va vb vc : Value) (w : World) (B : Nat) (hra : Rd w B 1 va a.length (ints a)) (hrb : Rd w B 1 vb b.length (ints b)) (hrc : Rd w B 1 vc c.length (ints c)) (hB : B ≤ w.heap.size)
    (hla : a.length ≤ 1048576) (hlb : b.length ≤ 1048576) (hlc : c.length ≤ 1048576) (hbad : blameErr a b c ≠ 0) :
    Calls Try.prog 18 #[va, vb, vc] w fun e w' => ∃ v', e = .returned (.tuple #[v', .int .i64 (blameErr a b c)]) ∧ w'.ownsRow w.heap.size 3 1 v' (blameSpec a b c).length (ints (blameSpec a b c)) ∧ Below w.heap.size w w' := by
  obtain ⟨A, ca, rfl, hna⟩ := hra.shape
  obtain ⟨A', cb, rfl, hnb⟩ := hrb.shape
  obtain ⟨A'', cc, rfl, hnc⟩ := hrc.shape
  rcases Bool.eq_false_or_eq_true (inB 1 12 a.length) with g1 | g1
  · have hk := blame_one _ g1
    by_cases g2 : b.length = a.length
    · have g2' : ((b.length : Int) != (a.length : Int)) = false := by simp [g2]
      have Hg2 := Lib.hid g2
      clear g2
      by_cases g3 : c.length = a.length
      · have g3' : ((c.length : Int) != (a.length : Int)) = false := by simp [g3]
        have Hg3 := Lib.hid g3
        clear g3
        rcases Bool.eq_false_or_eq_true (a.all (inB 0 100000000000)) with g4 | g4
        · skip
          rcases Bool.eq_false_or_eq_true (b.all (inB 0 10000)) with g5 | g5
          · skip
            rcases Bool.eq_false_or_eq_true (c.all (inB 0 100000000000000)) with g6 | g6
            · skip
              rcases Bool.eq_false_or_eq_true (wrap64 b.sum == 0) with g7 | g7
              · have e0 : blameErr a b c = 2 := by simp [blameErr, g1, Hg2.out, Hg3.out, g4, g5, g6, g7]
                have e1 : blameSpec a b c = [] := by simp [blameSpec, e0]
                rw [e0, e1]
                clear e0 e1
                go_enter Try.func18, Try.ntmps18
                go_wp2_with fail
                refine (within_any [(a.length : Int)] _ _ _ 1 _ (w.heap.size + 1) (Rd.made w _ 1 1 #[.int .i64 a.length] rfl) (by simp) (by omega)).mono ?_
                rintro e w1 ⟨rfl, hb1⟩
                rw [hk]
                have hc1 : Below w.heap.size w w1 := ((Below.refl _ _).alloc (Nat.le_refl _) _).trans (hb1.mono (by simp))
                clear hb1
                go_wp2_with fail
                refine (within_any a _ _ _ a.length _ B (hra.below (hc1.mono hB)) (by have := hc1.size; omega) (by omega)).mono ?_
                rintro e w2 ⟨rfl, hb2⟩
                rw [g4]
                have hc2 : Below w.heap.size w w2 := hc1.trans (hb2.mono hc1.size)
                clear hb2
                go_wp2_with fail
                refine (within_any b _ _ _ b.length _ B (hrb.below (hc2.mono hB)) (by have := hc2.size; omega) (by omega)).mono ?_
                rintro e w3 ⟨rfl, hb3⟩
                rw [g5]
                have hc3 : Below w.heap.size w w3 := hc2.trans (hb3.mono hc2.size)
                clear hb3
                go_wp2_with fail
                refine (within_any c _ _ _ c.length _ B (hrc.below (hc3.mono hB)) (by have := hc3.size; omega) (by omega)).mono ?_
                rintro e w4 ⟨rfl, hb4⟩
                rw [g6]
                have hc4 : Below w.heap.size w w4 := hc3.trans (hb4.mono hc3.size)
                clear hb4
                go_wp2_with fail
                refine (sum_any b _ b.length _ B (hrb.below (hc4.mono hB)) (by omega)).mono ?_
                rintro e w5 ⟨rfl, rfl⟩
                go_wp2_with fail
                go_ret2
                exact ⟨_, rfl, own_nil _ _ _ _, hc4⟩
              · exact absurd (by simp [blameErr, g1, Hg2.out, Hg3.out, g4, g5, g6, g7]) hbad
            · have e0 : blameErr a b c = 3 := by simp [blameErr, g1, Hg2.out, Hg3.out, g4, g5, g6]
              have e1 : blameSpec a b c = [] := by simp [blameSpec, e0]
              rw [e0, e1]
              clear e0 e1
              go_enter Try.func18, Try.ntmps18
              go_wp2_with fail
              refine (within_any [(a.length : Int)] _ _ _ 1 _ (w.heap.size + 1) (Rd.made w _ 1 1 #[.int .i64 a.length] rfl) (by simp) (by omega)).mono ?_
              rintro e w1 ⟨rfl, hb1⟩
              rw [hk]
              have hc1 : Below w.heap.size w w1 := ((Below.refl _ _).alloc (Nat.le_refl _) _).trans (hb1.mono (by simp))
              clear hb1
              go_wp2_with fail
              refine (within_any a _ _ _ a.length _ B (hra.below (hc1.mono hB)) (by have := hc1.size; omega) (by omega)).mono ?_
              rintro e w2 ⟨rfl, hb2⟩
              rw [g4]
              have hc2 : Below w.heap.size w w2 := hc1.trans (hb2.mono hc1.size)
              clear hb2
              go_wp2_with fail
              refine (within_any b _ _ _ b.length _ B (hrb.below (hc2.mono hB)) (by have := hc2.size; omega) (by omega)).mono ?_
              rintro e w3 ⟨rfl, hb3⟩
              rw [g5]
              have hc3 : Below w.heap.size w w3 := hc2.trans (hb3.mono hc2.size)
              clear hb3
              go_wp2_with fail
              refine (within_any c _ _ _ c.length _ B (hrc.below (hc3.mono hB)) (by have := hc3.size; omega) (by omega)).mono ?_
              rintro e w4 ⟨rfl, hb4⟩
              rw [g6]
              have hc4 : Below w.heap.size w w4 := hc3.trans (hb4.mono hc3.size)
              clear hb4
              go_wp2_with fail
              go_ret2
              exact ⟨_, rfl, own_nil _ _ _ _, hc4⟩
          · have e0 : blameErr a b c = 3 := by simp [blameErr, g1, Hg2.out, Hg3.out, g4, g5]
            have e1 : blameSpec a b c = [] := by simp [blameSpec, e0]
            rw [e0, e1]
            clear e0 e1
            go_enter Try.func18, Try.ntmps18
            go_wp2_with fail
            refine (within_any [(a.length : Int)] _ _ _ 1 _ (w.heap.size + 1) (Rd.made w _ 1 1 #[.int .i64 a.length] rfl) (by simp) (by omega)).mono ?_
            rintro e w1 ⟨rfl, hb1⟩
            rw [hk]
            have hc1 : Below w.heap.size w w1 := ((Below.refl _ _).alloc (Nat.le_refl _) _).trans (hb1.mono (by simp))
            clear hb1
            go_wp2_with fail
            refine (within_any a _ _ _ a.length _ B (hra.below (hc1.mono hB)) (by have := hc1.size; omega) (by omega)).mono ?_
            rintro e w2 ⟨rfl, hb2⟩
            rw [g4]
            have hc2 : Below w.heap.size w w2 := hc1.trans (hb2.mono hc1.size)
            clear hb2
            go_wp2_with fail
            refine (within_any b _ _ _ b.length _ B (hrb.below (hc2.mono hB)) (by have := hc2.size; omega) (by omega)).mono ?_
            rintro e w3 ⟨rfl, hb3⟩
            rw [g5]
            have hc3 : Below w.heap.size w w3 := hc2.trans (hb3.mono hc2.size)
            clear hb3
            go_wp2_with fail
            go_ret2
            exact ⟨_, rfl, own_nil _ _ _ _, hc3⟩
        · have e0 : blameErr a b c = 3 := by simp [blameErr, g1, Hg2.out, Hg3.out, g4]
          have e1 : blameSpec a b c = [] := by simp [blameSpec, e0]
          rw [e0, e1]
          clear e0 e1
          go_enter Try.func18, Try.ntmps18
          go_wp2_with fail
          refine (within_any [(a.length : Int)] _ _ _ 1 _ (w.heap.size + 1) (Rd.made w _ 1 1 #[.int .i64 a.length] rfl) (by simp) (by omega)).mono ?_
          rintro e w1 ⟨rfl, hb1⟩
          rw [hk]
          have hc1 : Below w.heap.size w w1 := ((Below.refl _ _).alloc (Nat.le_refl _) _).trans (hb1.mono (by simp))
          clear hb1
          go_wp2_with fail
          refine (within_any a _ _ _ a.length _ B (hra.below (hc1.mono hB)) (by have := hc1.size; omega) (by omega)).mono ?_
          rintro e w2 ⟨rfl, hb2⟩
          rw [g4]
          have hc2 : Below w.heap.size w w2 := hc1.trans (hb2.mono hc1.size)
          clear hb2
          go_wp2_with fail
          go_ret2
          exact ⟨_, rfl, own_nil _ _ _ _, hc2⟩
      · have g3' : ((c.length : Int) != (a.length : Int)) = true := by simp; omega
        have Hg3 := Lib.hid g3
        clear g3
        have e0 : blameErr a b c = 4 := by simp [blameErr, g1, Hg2.out, Hg3.out]
        have e1 : blameSpec a b c = [] := by simp [blameSpec, e0]
        rw [e0, e1]
        clear e0 e1
        go_enter Try.func18, Try.ntmps18
        go_wp2_with fail
        refine (within_any [(a.length : Int)] _ _ _ 1 _ (w.heap.size + 1) (Rd.made w _ 1 1 #[.int .i64 a.length] rfl) (by simp) (by omega)).mono ?_
        rintro e w1 ⟨rfl, hb1⟩
        rw [hk]
        have hc1 : Below w.heap.size w w1 := ((Below.refl _ _).alloc (Nat.le_refl _) _).trans (hb1.mono (by simp))
        clear hb1
        go_wp2_with fail
        go_ret2
        exact ⟨_, rfl, own_nil _ _ _ _, hc1⟩
    · have g2' : ((b.length : Int) != (a.length : Int)) = true := by simp; omega
      have Hg2 := Lib.hid g2
      clear g2
      have e0 : blameErr a b c = 4 := by simp [blameErr, g1, Hg2.out]
      have e1 : blameSpec a b c = [] := by simp [blameSpec, e0]
      rw [e0, e1]
      clear e0 e1
      go_enter Try.func18, Try.ntmps18
      go_wp2_with fail
      refine (within_any [(a.length : Int)] _ _ _ 1 _ (w.heap.size + 1) (Rd.made w _ 1 1 #[.int .i64 a.length] rfl) (by simp) (by omega)).mono ?_
      rintro e w1 ⟨rfl, hb1⟩
      rw [hk]
      have hc1 : Below w.heap.size w w1 := ((Below.refl _ _).alloc (Nat.le_refl _) _).trans (hb1.mono (by simp))
      clear hb1
      go_wp2_with fail
      go_ret2
      exact ⟨_, rfl, own_nil _ _ _ _, hc1⟩
  · have hk := blame_one _ g1
    have e0 : blameErr a b c = 4 := by simp [blameErr, g1]
    have e1 : blameSpec a b c = [] := by simp [blameSpec, e0]
    rw [e0, e1]
    clear e0 e1
    go_enter Try.func18, Try.ntmps18
    go_wp2_with fail
    refine (within_any [(a.length : Int)] _ _ _ 1 _ (w.heap.size + 1) (Rd.made w _ 1 1 #[.int .i64 a.length] rfl) (by simp) (by omega)).mono ?_
    rintro e w1 ⟨rfl, hb1⟩
    rw [hk]
    have hc1 : Below w.heap.size w w1 := ((Below.refl _ _).alloc (Nat.le_refl _) _).trans (hb1.mono (by simp))
    clear hb1
    go_wp2_with fail
    go_ret2
    exact ⟨_, rfl, own_nil _ _ _ _, hc1⟩
end Go.Proofs.Ytkbfdgacnoadlaa
