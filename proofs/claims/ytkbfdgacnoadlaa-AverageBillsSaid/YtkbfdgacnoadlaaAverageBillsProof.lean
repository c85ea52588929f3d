/-
  The law AverageBills of package thalweglaw08 returns true for every tariff, slice of passes and slice of bytes; no condition.
  The frame's lines are those that the kit's proof-skeleton.mjs wrote for AverageSplits, turned by a program; the walks are in the texts that it imports.
-/
import Derived.Test.YtkbfdgacnoadlaaRows
import Derived.Test.YtkbfdgacnoadlaaLift2
import Derived.Test.YtkbfdgacnoadlaaAgg
import Derived.Test.YtkbfdgacnoadlaaL8
import Derived.WalkKit
import Derived.ProofKit
import Derived.OpenShut
import Derived.ShutString
import Derived.ChangeOld
import Derived.Below
namespace Go.Proofs.Ytkbfdgacnoadlaa.averageBills
open Go.ChangeShapes Go.WideShapes Go.ChangeAt Go.RowKit Go.Joins
open Go.ChangeMaps (open_string shut_string)
set_option linter.unusedVariables false

theorem own : ownKnob Try.prog.godebug = none := by kernel_rfl
theorem laidOut : laidOutB Try.prog = true := by kernel_rfl

set_option maxRecDepth 100000 in
theorem lifted (os : Os) (started : os.Started) (H : Type) (enc : TypeId × Value → H) :
    ReturnsInHanded {} Try.checked os 8 .any (Rows.averageBillsSpec.pre6 enc Try.prog Try.f8 Rows.averageBillsRow.domain false) (Rows.averageBillsSpec.post enc Try.prog Try.f8 false true false false) := by
  refine returnsInHanded_of_change (C := Try.checked) own started (by kernel_rfl) Try.func8
    (ChangeSpec.witness6 (enc := enc) (C := Try.checked) false ⟨#[], #[.agg #[.int .i64 0, .int .i64 0, .int .i64 0, .int .i64 0, .int .i64 0, .int .i64 0], .slice none 0 0, .slice none 0 0], []⟩ 8 (by kernel_rfl) (by kernel_rfl) (by kernel_rfl) (by kernel_rfl)) ?_
  intro W base args ds gs before hval0 hW hcnd _
  have hval : ∀ (j : Nat) t v, Try.f8.params[j]? = some t → args[j]? = some v → Value.okWide Try.prog W .any base t v := hval0
  have hW' := hW
  obtain ⟨p, q, hA0, hV, rfl, hfz, hnd⟩ := hW
  have hA : DataW.TrodAll enc Try.prog W 0 (fun _ => true) true Try.f8.params.toList args.toList ds p := hA0
  rw [Try.params8] at hA hval
  obtain ⟨v0, vs0, d0, ds0, p0, q0, hargs, rfl, rfl, h0, r0⟩ := trodAll_cons hA
  obtain ⟨v1, vs1, d1, ds1, p1, q1, rfl, rfl, rfl, h1, r1⟩ := trodAll_cons r0
  obtain ⟨v2, vs2, d2, ds2, p2, q2, rfl, rfl, rfl, h2, r2⟩ := trodAll_cons r1
  obtain ⟨rfl, rfl, rfl⟩ := trodAll_nil r2
  obtain rfl : args = #[v0, v1, v2] := by cases args; simp_all
  obtain ⟨rfl, rfl⟩ := trodVars_none hV
  have k0 := h0
  have lt0 : ∀ x ∈ p0, x.block < W.heap.size := by obtain ⟨m, hm⟩ := k0; exact DataW.trod_lt m _ _ _ hm
  obtain ⟨s0, s1, s2, s3, s4, s5, e0, e1, e2, e3, e4, e5, ne, rfl, _, _, t0, t1, t2, t3, t4, t5⟩ := open_agg6 Try.underlying41 (by kernel_rfl) (by kernel_rfl) (hval 0 41 v0 rfl rfl) h0
  obtain ⟨y0, g0, _, _⟩ := DataW.trod_int Try.underlying3 t0
  injection g0 with g0
  subst g0
  obtain ⟨y1, g1, _, _⟩ := DataW.trod_int Try.underlying3 t1
  injection g1 with g1
  subst g1
  obtain ⟨y2, g2, _, _⟩ := DataW.trod_int Try.underlying3 t2
  injection g2 with g2
  subst g2
  obtain ⟨y3, g3, _, _⟩ := DataW.trod_int Try.underlying3 t3
  injection g3 with g3
  subst g3
  obtain ⟨y4, g4, _, _⟩ := DataW.trod_int Try.underlying3 t4
  injection g4 with g4
  subst g4
  obtain ⟨y5, g5, _, _⟩ := DataW.trod_int Try.underlying3 t5
  injection g5 with g5
  subst g5
  obtain ⟨A1, len1, cap1, rfl⟩ := okWide_slice Try.underlying42 (hval 1 42 v1 rfl rfl)
  have k1 := h1
  have lt1 : ∀ x ∈ p1, x.block < W.heap.size := by obtain ⟨m, hm⟩ := k1; exact DataW.trod_lt m _ _ _ hm
  obtain ⟨l1, rfl, hr1⟩ := rd_passes Try.underlying42 Try.underlying46 (by kernel_rfl) (by kernel_rfl) Try.underlying3 Try.underlying3 Try.underlying3 h1
  obtain ⟨A2, len2, cap2, rfl⟩ := okWide_slice Try.underlying51 (hval 2 51 v2 rfl rfl)
  have k2 := h2
  have lt2 : ∀ x ∈ p2, x.block < W.heap.size := by obtain ⟨m, hm⟩ := k2; exact DataW.trod_lt m _ _ _ hm
  obtain ⟨l2, rfl, hr2, hw2, hm2⟩ := rd_of_ints Try.underlying51 Try.underlying5 (by kernel_rfl) h2
  clear hA0 hval0
  refine (bills_law ⟨y0, y1, y2, y3, y4, y5⟩ l1 l2 _ _ W W.heap.size hr1 hr2 (Nat.le_refl _) (fun x hx => wf_bd8 (hw2 x hx)) (by have := hm2; unfold maxLen at this; omega)).mono fun e W' ⟨he, bel⟩ => ?_
  subst he
  exact ⟨_, rfl, _, _, _, [], _, [], hW', trodAll_mk1 (shut_bool Try.underlying4 _), (trodAll_cons_mk (Below.trod laidOut (by kernel_rfl) (of_decide_eq_true (by kernel_rfl)) k0 bel lt0) (trodAll_cons_mk (Below.trod laidOut (by kernel_rfl) (of_decide_eq_true (by kernel_rfl)) k1 bel lt1) (trodAll_cons_mk (Below.trod laidOut (by kernel_rfl) (of_decide_eq_true (by kernel_rfl)) k2 bel lt2) trodAll_mk0))), rfl, bel.frame _, fun h => by cases h⟩

theorem over : Rows.averageBillsRow.holds Try.pinned (OpenSpec.ofChange Rows.averageBillsSpec) :=
  OpenClaim.holds_of_wide 8 Try.f8 rfl rfl rfl rfl rfl rfl rfl ⟨rfl, rfl, rfl, rfl, rfl⟩ rfl rfl rfl rfl rfl (by kernel_rfl) Try.func8 (by kernel_rfl)
    (of_decide_eq_true (by kernel_rfl)) (by unfold Func.isWrapper; first | (rw [if_pos (by decide +kernel)]; kernel_rfl) | (rw [if_neg (by decide +kernel)]; exact ⟨rfl, rfl⟩))
    (fun os started H enc _ => lifted os started H enc)

/-- THE STATEMENT -/
theorem proved : Rows.AverageBillsSaid := over
end Go.Proofs.Ytkbfdgacnoadlaa.averageBills
