/-
  The law RiverNarrows of package thalweglaw01 returns true for every forecast, truth and every three integers of 16 bits, and leaves them as they were; no condition.
  The frame's lines are those that the kit's proof-skeleton.mjs wrote for AverageSplits, turned by a program; the walks are in the texts that it imports.
-/
import Derived.Test.YtncnlhkmdljgpaaRows
import Derived.Test.YtncnlhkmdljgpaaNarrowsT3
import Derived.WalkKit
import Derived.ProofKit
import Derived.OpenShut
import Derived.ShutString
import Derived.ChangeOld
import Derived.Below
namespace Go.Proofs.Ytncnlhkmdljgpaa.riverNarrows
open Go.ChangeShapes Go.WideShapes Go.ChangeAt Go.RowKit Go.Joins
open Go.ChangeMaps (open_string shut_string)
set_option linter.unusedVariables false

theorem own : ownKnob Try.prog.godebug = none := by kernel_rfl
theorem laidOut : laidOutB Try.prog = true := by kernel_rfl

set_option maxRecDepth 100000 in
theorem lifted (os : Os) (started : os.Started) (H : Type) (enc : TypeId × Value → H) :
    ReturnsInHanded {} Try.checked os 12 .any (Rows.riverNarrowsSpec.pre6 enc Try.prog Try.f12 Rows.riverNarrowsRow.domain false) (Rows.riverNarrowsSpec.post enc Try.prog Try.f12 false true false false) := by
  refine returnsInHanded_of_change (C := Try.checked) own started (by kernel_rfl) Try.func12
    (ChangeSpec.witness6 (enc := enc) (C := Try.checked) false ⟨#[], #[.agg #[.slice none 0 0, .slice none 0 0, .slice none 0 0], .agg #[.slice none 0 0, .slice none 0 0, .slice none 0 0, .slice none 0 0, .int .u8 0], .agg #[.int .u16 0, .int .u16 0, .int .u16 0]], []⟩ 8 (by kernel_rfl) (by kernel_rfl) (by kernel_rfl) (by kernel_rfl)) ?_
  intro W base args ds gs before hval0 hW hcnd _
  have hval : ∀ (j : Nat) t v, Try.f12.params[j]? = some t → args[j]? = some v → Value.okWide Try.prog W .any base t v := hval0
  have hW' := hW
  obtain ⟨p, q, hA0, hV, rfl, hfz, hnd⟩ := hW
  have hA : DataW.TrodAll enc Try.prog W 0 (fun _ => true) true Try.f12.params.toList args.toList ds p := hA0
  rw [Try.params12] at hA hval
  obtain ⟨v0, vs0, d0, ds0, p0, q0, hargs, rfl, rfl, h0, r0⟩ := trodAll_cons hA
  obtain ⟨v1, vs1, d1, ds1, p1, q1, rfl, rfl, rfl, h1, r1⟩ := trodAll_cons r0
  obtain ⟨v2, vs2, d2, ds2, p2, q2, rfl, rfl, rfl, h2, r2⟩ := trodAll_cons r1
  obtain ⟨rfl, rfl, rfl⟩ := trodAll_nil r2
  obtain rfl : args = #[v0, v1, v2] := by cases args; simp_all
  obtain ⟨rfl, rfl⟩ := trodVars_none hV
  have k0 := h0
  have lt0 : ∀ x ∈ p0, x.block < W.heap.size := by obtain ⟨m, hm⟩ := k0; exact DataW.trod_lt m _ _ _ hm
  obtain ⟨rv0, sd0, a0, b0, s0, vs0, ss0, rfl, hr0, hs0, hm0, hn0, hq0⟩ := forecast_of h0
  have k1 := h1
  have lt1 : ∀ x ∈ p1, x.block < W.heap.size := by obtain ⟨m, hm⟩ := k1; exact DataW.trod_lt m _ _ _ hm
  obtain ⟨tb1, ts1, te1, tg1, ub1, us1, ue1, ug1, tx1, rfl, pb1, ps1, pe1, pg1, ⟨bb1, bs1, be1, bg1⟩, bx1, mb1, ms1, me1, mg1⟩ := truth_of h1
  have oe1 : ue1.oneCell' = true := by obtain ⟨_, _, rfl, _⟩ := pe1.shape; rfl
  have og1 : ug1.oneCell' = true := by obtain ⟨_, _, rfl, _⟩ := pg1.shape; rfl
  have k2 := h2
  have lt2 : ∀ x ∈ p2, x.block < W.heap.size := by obtain ⟨m, hm⟩ := k2; exact DataW.trod_lt m _ _ _ hm
  obtain ⟨x2, y2, z2, rfl, wx2, wy2, wz2⟩ := open_three Try.underlying84 co_84 co_83 Try.underlying83 h2
  replace wx2 := wf_u16 wx2
  replace wy2 := wf_u16 wy2
  replace wz2 := wf_u16 wz2
  obtain ⟨m0, rfl⟩ : ∃ k : Nat, x2 = k := ⟨x2.toNat, by omega⟩
  obtain ⟨m1, rfl⟩ : ∃ k : Nat, y2 = k := ⟨y2.toNat, by omega⟩
  obtain ⟨m2, rfl⟩ : ∃ k : Nat, z2 = k := ⟨z2.toNat, by omega⟩
  clear hA0 hval0
  refine (narrows_law rv0 sd0 _ _ _ vs0 ss0 tb1 ts1 te1 tg1 _ _ _ _ tx1 m0 m1 m2 (by omega) (by omega) (by omega) W W.heap.size hr0 hs0 (Nat.le_refl _) pb1 ps1 pe1 pg1 bb1 bs1 be1 bg1 (by unfold maxLen at mb1; omega) (by unfold maxLen at ms1; omega) (by unfold maxLen at me1; omega) (by unfold maxLen at mg1; omega)).mono fun e W' ⟨he, bel⟩ => ?_
  subst he
  exact ⟨_, rfl, _, _, _, [], _, [], hW', trodAll_mk1 (shut_bool Try.underlying4 _), (trodAll_cons_mk (Below.trod laidOut (by kernel_rfl) (of_decide_eq_true (by kernel_rfl)) k0 bel lt0) (trodAll_cons_mk (Below.trod laidOut (by kernel_rfl) (of_decide_eq_true (by kernel_rfl)) k1 bel lt1) (trodAll_cons_mk (Below.trod laidOut (by kernel_rfl) (of_decide_eq_true (by kernel_rfl)) k2 bel lt2) trodAll_mk0))), rfl, bel.frame _, fun h => by cases h⟩

theorem over : Rows.riverNarrowsRow.holds Try.pinned (OpenSpec.ofChange Rows.riverNarrowsSpec) :=
  OpenClaim.holds_of_wide 12 Try.f12 rfl rfl rfl rfl rfl rfl rfl ⟨rfl, rfl, rfl, rfl, rfl⟩ rfl rfl rfl rfl rfl (by kernel_rfl) Try.func12 (by kernel_rfl)
    (of_decide_eq_true (by kernel_rfl)) (by unfold Func.isWrapper; first | (rw [if_pos (by decide +kernel)]; kernel_rfl) | (rw [if_neg (by decide +kernel)]; exact ⟨rfl, rfl⟩))
    (fun os started H enc _ => lifted os started H enc)

/-- THE STATEMENT -/
theorem proved : Rows.RiverNarrowsSaid := over
end Go.Proofs.Ytncnlhkmdljgpaa.riverNarrows
