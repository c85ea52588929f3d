/- The program's Adjust: its accounts and their sum, or the error. -/
import Derived.Test.YtkbfdgacnoadlaaA8
import Derived.Test.YtkbfdgacnoadlaaA5
namespace Go.Proofs.Ytkbfdgacnoadlaa
open Go.RowKit

theorem results_tmp4 {fn : Func} {t u v x : Tmp} (h : fn.results = #[.tmp t, .tmp u, .tmp v, .tmp x]) (tmps : Array Value) (P : Program) (w : World) :
    (results fn tmps).run P w = .ok (.tuple #[tmps.getD t undef, tmps.getD u undef, tmps.getD v undef, tmps.getD x undef]) w := by simp [results, h]

theorem min_any (l : List Int) (v : Value) (n : Nat) (w : World) (B : Nat) (hr : Rd w B 1 v n (ints l)) (h0 : 0 < n) (hn : n ≤ 1048576) :
    Calls Try.prog 42 #[v] w fun e w' => e = .returned (.int .i64 (Lib.minOf l)) ∧ w = w' := by
  obtain ⟨A, c, rfl, hnc⟩ := hr.shape
  have hl : n = l.length := by have := hr.len; simp [ints] at this; omega
  subst hl
  obtain ⟨b, off, rfl, hb, hc⟩ := hr.at_ h0
  refine (Try.slices_Min_int b off l.length c l w h0 (Nat.le_refl _) (by omega) (fun j hj => ?_)).mono ?_
  · rw [hc j _ (ints_get l j hj)]
    simp [hj]
  · rintro e w' ⟨rfl, rfl⟩
    exact ⟨by rw [List.take_length], rfl⟩

structure Acc where
  value : Int
  good : Int
  due : Int
  bal : Int
def accV (x : Acc) : List Value := [.int .i64 x.value, .int .i64 x.good, .int .i64 x.due, .int .i64 x.bal]
def accsV (l : List Acc) : List Value := l.flatMap accV

def earlyErr (n c : Int) (l : List Nt) : Nat × Int := if inB 1 40 n = false then (0, 3) else if inB 0 10000 c = false then (0, 3) else if 300 < l.length then (0, 5) else firstErr n l 0
def lateErr (c : Int) (l : List Nt) (N : Nat) : Int :=
  if Lib.minOf (listI savedI l N) < 0 then 9 else if (wrap64 (listI savedI l N).sum == 0) = true then 9 else if wrap64 (listI worthI l N).sum < wrap64 (listI (goodI c) l N).sum then 80 else 0
def accAt (c : Int) (l : List Nt) (due : List Int) (i : Nat) : Acc := ⟨worthI (sums l i), goodI c (sums l i), at0 due i, at0 due i - goodI c (sums l i)⟩
def accsTo (c : Int) (l : List Nt) (due : List Int) (k : Nat) : List Acc := (List.range k).map (accAt c l due)
def adjTotal (c : Int) (l : List Nt) (N : Nat) : Int := (listI (goodI c) l N).sum
def adjSpec (n c : Int) (l : List Nt) : List Acc × Int × Nat × Int :=
  if (earlyErr n c l).2 = 0 then (if lateErr c l n.toNat = 0 then (accsTo c l (splitL (adjTotal c l n.toNat) (listI worthI l n.toNat)) n.toNat, adjTotal c l n.toNat, 0, 0) else ([], 0, 0, lateErr c l n.toNat))
  else ([], 0, (earlyErr n c l).1, (earlyErr n c l).2)
end Go.Proofs.Ytkbfdgacnoadlaa
