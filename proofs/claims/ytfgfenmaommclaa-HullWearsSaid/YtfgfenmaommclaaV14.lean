/- River: the beds of a place in an hour, one after the other: the iterator. -/
import Derived.Test.YtfgfenmaommclaaRangeC
import Derived.Test.YtfgfenmaommclaaTail
import Derived.Test.YtfgfenmaommclaaV13
import Derived.RangeFuncCalls
import Derived.RangeFuncLeaves
import Derived.Shelf.Abstract
import Derived.Shelf.RegionOpen
import Derived.WalkKit
import Derived.OwnWalkIn
import Derived.TacticsInMore
import Derived.LoopNIn
import Derived.LoopIn
import Derived.Sort.BigQuietIn
namespace Go.Proofs.Ytfgfenmaommclaa
open Go Go.RowKit Go.Shelf Go.Sort
attribute [local go_sem] Oper.semAt_some

theorem wide_fn (f : FuncId) : Fence.wide.fn f = True := by simp [Fence.wide]
attribute [local go_sem, local simp] wide_fn
/-- what the iterator reads lies there still -/
def Kb (n0 g : Nat) (W W' : World) : Prop := W.heap.size ≤ W'.heap.size ∧ ∀ p : Addr, p.block < n0 → p.block ≠ g → W'.cell? p = W.cell? p
theorem Kb.rd {n0 g B size n : Nat} {W W' : World} {v : Value} {xs : List Value} (h : Kb n0 g W W') (hr : Rd W B size v n xs) (hB : B ≤ n0) (hg : B ≤ g) : Rd W' B size v n xs := hr.keep fun p hp => h.2 p (by omega) (by omega)
theorem Kb.cell {n0 g b o : Nat} {W W' : World} {v : Value} (h : Kb n0 g W W') (hc : W.cell? ⟨b, o, none⟩ = some v) (hb : b < n0) (hg : b ≠ g) : W'.cell? ⟨b, o, none⟩ = some v := (h.2 ⟨b, o, none⟩ hb hg).trans hc
def bedsTo (bottom : Bd) (l : List Shoal) (hour : Int) (k : Nat) : List Bd := bottom :: (l.take k).map fun s => bedOf s hour
theorem bedsTo_succ (bottom : Bd) (l : List Shoal) (hour : Int) {k : Nat} (hk : k < l.length) : bedsTo bottom l hour (k + 1) = bedsTo bottom l hour k ++ [bedOf (l.getD k shoal0) hour] := by
  have e : l.getD k shoal0 = l[k] := by simp [hk]
  rw [bedsTo, List.take_succ_eq_append_getElem hk, List.map_append, e]
  rfl

set_option maxRecDepth 100000 in
set_option maxHeartbeats 8000000 in
theorem beds_gives (n : Nat) (hn : 3 ≤ n) (gp gh n0 gt : Nat) (hour N : Int) (x : Reach) (v : Value) (y : Int) (A : Option Addr) (c B : Nat) (l : List Shoal) (w : World)
    (hp : ∀ j u, (placeV x v y (.slice A l.length c))[j]? = some u → w.cell? ⟨gp, j, none⟩ = some u) (hh : w.cell? ⟨gh, 0, none⟩ = some (.int .i64 hour)) (hl : Rd w B 6 (.slice A l.length c) l.length (shoalsC l)) (hB : B ≤ n0) (hBg : B ≤ gt) (hgp : gp < n0 ∧ gp ≠ gt) (hgh : gh < n0 ∧ gh ≠ gt)
    (hs : ∀ i, i < l.length → shoalB N (l.getD i shoal0) = true) (ht : -400 ≤ hour ∧ hour ≤ 400) (hll : l.length ≤ 1048576) (hn0w : n0 ≤ w.heap.size) :
    GivesC Fence.wide n Try.prog 102 (.pointer (some ⟨gp, 0, none⟩)) (.pointer (some ⟨gh, 0, none⟩)) (fun b : Bd => #[Value.agg #[.int .i64 b.lo, .int .i64 b.hi]]) (fun _ => True) (Kb n0 gt) (fun xs => xs = bedsTo x.bottom l hour l.length) w := fun lp J W hW hA hY h0 => by
  have hn1 : 1 ≤ n := by omega
  have hn2 : 1 ≤ n - 1 := by omega
  have p6 : W.cell? ⟨gp, 6, none⟩ = some (.int .i64 x.bottom.lo) := hW.cell (hp 6 _ rfl) hgp.1 hgp.2
  have p7 : W.cell? ⟨gp, 7, none⟩ = some (.int .i64 x.bottom.hi) := hW.cell (hp 7 _ rfl) hgp.1 hgp.2
  have p10 : W.cell? ⟨gp, 10, none⟩ = some (.slice A l.length c) := hW.cell (hp 10 _ rfl) hgp.1 hgp.2
  have h1 := hW.cell hh hgh.1 hgh.2
  have hl1 := hW.rd hl hB hBg
  refine callsIn_of_wp Try.func102 rfl trivial ?_ rfl
  simp only [Try.ntmps102, List.size_toArray, List.length_cons, List.length_nil, Nat.reduceAdd, Nat.reduceSub, Array.replicate_succ, Array.replicate_zero, List.push_toArray, List.append_toArray, List.nil_append, List.cons_append]
  have hY0 := hY [] x.bottom W trivial h0
  obtain ⟨fn, tmps, assign, body, hy, hR⟩ := hY0
  dsimp only at hy
  gi_wp2
  refine hR.mono ?_
  rintro e W3 ⟨rfl, hJ3, hk3⟩
  have p10 := hk3.cell p10 hgp.1 hgp.2
  have h1 := hk3.cell h1 hgh.1 hgh.2
  have hl3 := hk3.rd hl1 hB hBg
  clear hl1 p6 p7
  gi_wp2
  gi_loopw [5, 6, 16] (fun _ _ i wr => ∃ k : Nat, k ≤ l.length ∧ i = .int .i64 k ∧ J (bedsTo x.bottom l hour k) wr ∧ wr.cell? ⟨gh, 0, none⟩ = some (.int .i64 hour) ∧ Rd wr B 6 (.slice A l.length c) l.length (shoalsC l) ∧ n0 ≤ wr.heap.size) (fun _ _ i _ => l.length - (intOf i).toNat)
  case atStart => exact ⟨0, Nat.zero_le _, rfl, hJ3, h1, hl3, Nat.le_trans hn0w (Nat.le_trans hW.1 hk3.1)⟩
  case round =>
    clear hJ3 h1 hl3 p10
    obtain ⟨k, hk, rfl, hJ, h1, hlr, hn0⟩ := hrel
    by_cases hlt : k < l.length
    · obtain ⟨b, off, rfl, hb, ⟨s0, s1, s2, s3, s4, s5⟩⟩ := shoals_cells l k hlt _ B _ _ _ hlr
      have hbd := bedOf_bd (hs k hlt) ht.1 ht.2
      have hbs := bedsTo_succ x.bottom l hour hlt
      have hdn := fun W => down_any ((l.getD k shoal0).grow.lo * max 0 (hour - (l.getD k shoal0).sounded)) 24 W (by omega) (by omega) (by omega) (by omega)
      have hup := fun W => up_any ((l.getD k shoal0).grow.hi * max 0 (hour - (l.getD k shoal0).sounded)) 24 W (by omega) (by omega) (by omega) (by omega)
      have hsb := hs k hlt
      obtain ⟨s, es⟩ : ∃ s, s = l.getD k shoal0 := ⟨_, rfl⟩
      rw [← es] at s0 s1 s2 s3 s4 s5 hbd hbs hdn hup hsb
      clear es
      simp only [shoalB, Bool.and_eq_true, inB_iff, bdOk_iff] at hsb
      obtain ⟨D, eD⟩ : ∃ D, D = max 0 (hour - s.sounded) := ⟨_, rfl⟩
      unfold bedOf at hbd hbs
      rw [← eD] at hbd hbs hdn hup
      obtain ⟨X1, e1⟩ : ∃ X, X = s.grow.lo * D := ⟨_, rfl⟩
      obtain ⟨X2, e2⟩ : ∃ X, X = s.grow.hi * D := ⟨_, rfl⟩
      rw [← e1] at hbd hbs hdn
      rw [← e2] at hbd hbs hup
      obtain ⟨F1, e3⟩ : ∃ X, X = floorD X1 24 := ⟨_, rfl⟩
      obtain ⟨F2, e4⟩ : ∃ X, X = ceilD X2 24 := ⟨_, rfl⟩
      rw [← e3] at hbd hbs hdn
      rw [← e4] at hbd hbs hup
      simp only at hbd
      have m1 : (if 0 < hour - s.sounded then hour - s.sounded else 0) = D := by rw [eD]; omega
      have m2 : (if s.sounded < hour then hour - s.sounded else 0) = D := by rw [eD]; omega
      have v1 : wrap64 (hour - s.sounded) = hour - s.sounded := IntWalk.wrap64_in _ ⟨by omega, by omega⟩
      have w1 : IntKind.i64.wrap (s.grow.lo * D) = X1 := by rw [e1]; exact IntWalk.i64_in _ ⟨by omega, by omega⟩
      have w2 : IntKind.i64.wrap (s.grow.hi * D) = X2 := by rw [e2]; exact IntWalk.i64_in _ ⟨by omega, by omega⟩
      have w3 : IntKind.i64.wrap (s.bed.lo + F1) = s.bed.lo + F1 := IntWalk.i64_in _ ⟨by omega, by omega⟩
      have w4 : IntKind.i64.wrap (s.bed.hi + F2) = s.bed.hi + F2 := IntWalk.i64_in _ ⟨by omega, by omega⟩
      have hghl : gh < wr.heap.size := by omega
      have Hbs := Lib.hid hbs
      have Hdn := Lib.hid hdn
      have Hup := Lib.hid hup
      clear hbs hdn hup eD e1 e2 e3 e4
      obtain ⟨W4, eW4⟩ : ∃ W, W = wr.alloc (.cells #[.int .i64 s.place, .int .i64 s.bed.lo, .int .i64 s.bed.hi, .int .i64 s.sounded, .int .i64 s.grow.lo, .int .i64 s.grow.hi] 100) := ⟨_, rfl⟩
      have b4 : Below wr.heap.size wr W4 := by rw [eW4]; exact (Below.refl _ _).alloc (Nat.le_refl _) _
      have x4 : Blk W4 wr.heap.size 100 #[.int .i64 s.place, .int .i64 s.bed.lo, .int .i64 s.bed.hi, .int .i64 s.sounded, .int .i64 s.grow.lo, .int .i64 s.grow.hi] := by rw [eW4]; exact Blk.new wr _ _
      have EW4 := Lib.hid eW4
      clear eW4
      gi_wp2
      rw [← EW4.out]
      have y1 := x4.cell 1
      have y2 := x4.cell 2
      have y4 := x4.cell 4
      have y5 := x4.cell 5
      simp only [List.getElem?_toArray, List.getElem?_cons_zero, List.getElem?_cons_succ] at y1 y2 y4 y5
      have r1 := cell_regrown y1
      have r2 := cell_regrown y2
      have r4 := cell_regrown y4
      have r5 := cell_regrown y5
      clear y1 y2 y4 y5
      refine wpIn_region_tail_below rfl 22 (by kernel_rfl) (by kernel_rfl) ?_
      simp only [List.take_succ_cons, List.take_zero, List.drop_succ_cons, List.drop_zero]
      repeat (gi_big_quiet_step (first | (gi_at_call 100; exact CallsIn.regrown_of (callsIn_wide.2 (Hdn.out _))) | (gi_at_call 101; exact CallsIn.regrown_of (callsIn_wide.2 (Hup.out _)))))
      refine wpQuietIn_nil ?_
      intro _ hw'
      obtain ⟨⟨dq, osq⟩, hw''⟩ := hw'
      subst hw''
      have b5 : Below wr.heap.size wr (grow (redrawn W4 dq) osq) := b4.trans ((below_regrown W4 dq osq).mono b4.size)
      obtain ⟨W5, eW5⟩ : ∃ W, W = grow (redrawn W4 dq) osq := ⟨_, rfl⟩
      rw [← eW5] at b5 ⊢
      clear eW5 r1 r2 r4 r5 x4 b4 EW4
      have hJ5 : J (bedsTo x.bottom l hour k) W5 := hA _ _ _ none hJ ⟨b5.os, b5.tape, b5.output, b5.size, fun i hi _ => b5.block i hi⟩ (by intro r h; cases h)
      have h5 := (b5.cell (p := ⟨gh, 0, none⟩) hghl).trans h1
      have hl5 := hlr.below (b5.mono (by omega))
      have hs5 := b5.size
      obtain ⟨fn, tmps, assign, body, hy, hR⟩ := hY _ ⟨s.bed.lo + F1, s.bed.hi + F2⟩ W5 trivial hJ5
      dsimp only at hy
      clear hJ h1 hlr s0 s1 s2 s3 s4 s5
      gi_wp2
      refine hR.mono ?_
      rintro e W3 ⟨rfl, hJ3, hk3⟩
      have h7 := hk3.cell h5 hgh.1 hgh.2
      have hl7 := hk3.rd hl5 hB hBg
      have hs7 := hk3.1
      gi_wp2
      go_roundw
      case rel => exact ⟨k + 1, by omega, by simp, by rw [Hbs.out]; exact hJ3, h7, hl7, by omega⟩
      case measure => simp [intOf]; omega
    · obtain rfl : k = l.length := by omega
      gi_wp2
      go_end0
      exact ⟨⟨_, rfl⟩, _, rfl, hJ⟩
end Go.Proofs.Ytfgfenmaommclaa
