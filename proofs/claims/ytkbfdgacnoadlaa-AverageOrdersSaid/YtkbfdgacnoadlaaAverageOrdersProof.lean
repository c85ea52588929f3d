/-
  The law AverageOrders of package thalweglaw08 returns true for every lot and slice of bytes; no condition.
  The frame's lines are those that the kit's proof-skeleton.mjs wrote for AverageSplits, turned by a program; the walks are in the texts that it imports.
-/
import Derived.Test.YtkbfdgacnoadlaaRows
import Derived.Test.YtkbfdgacnoadlaaLift2
import Derived.Test.YtkbfdgacnoadlaaLift3
import Derived.Test.YtkbfdgacnoadlaaL6
import Derived.WalkKit
import Derived.ProofKit
import Derived.OpenShut
import Derived.ShutString
import Derived.ChangeOld
import Derived.Below
namespace Go.Proofs.Ytkbfdgacnoadlaa.averageOrders
open Go.ChangeShapes Go.WideShapes Go.ChangeAt Go.RowKit Go.Joins
open Go.ChangeMaps (open_string shut_string)
set_option linter.unusedVariables false

theorem own : ownKnob Try.prog.godebug = none := by kernel_rfl
theorem laidOut : laidOutB Try.prog = true := by kernel_rfl

set_option maxRecDepth 100000 in
theorem lifted (os : Os) (started : os.Started) (H : Type) (enc : TypeId × Value → H) :
    ReturnsInHanded {} Try.checked os 6 .any (Rows.averageOrdersSpec.pre6 enc Try.prog Try.f6 Rows.averageOrdersRow.domain false) (Rows.averageOrdersSpec.post enc Try.prog Try.f6 false true false false) := by
  refine returnsInHanded_of_change (C := Try.checked) own started (by kernel_rfl) Try.func6
    (ChangeSpec.witness6 (enc := enc) (C := Try.checked) false ⟨#[], #[.agg #[.int .u8 0, .int .u16 0, .slice none 0 0], .slice none 0 0], []⟩ 8 (by kernel_rfl) (by kernel_rfl) (by kernel_rfl) (by kernel_rfl)) ?_
  intro W base args ds gs before hval0 hW hcnd _
  have hval : ∀ (j : Nat) t v, Try.f6.params[j]? = some t → args[j]? = some v → Value.okWide Try.prog W .any base t v := hval0
  have hW' := hW
  obtain ⟨p, q, hA0, hV, rfl, hfz, hnd⟩ := hW
  have hA : DataW.TrodAll enc Try.prog W 0 (fun _ => true) true Try.f6.params.toList args.toList ds p := hA0
  rw [Try.params6] at hA hval
  obtain ⟨v0, vs0, d0, ds0, p0, q0, hargs, rfl, rfl, h0, r0⟩ := trodAll_cons hA
  obtain ⟨v1, vs1, d1, ds1, p1, q1, rfl, rfl, rfl, h1, r1⟩ := trodAll_cons r0
  obtain ⟨rfl, rfl, rfl⟩ := trodAll_nil r1
  obtain rfl : args = #[v0, v1] := by cases args; simp_all
  obtain ⟨rfl, rfl⟩ := trodVars_none hV
  have k0 := h0
  have lt0 : ∀ x ∈ p0, x.block < W.heap.size := by obtain ⟨m, hm⟩ := k0; exact DataW.trod_lt m _ _ _ hm
  obtain ⟨s0, s1, s2, e0, e1, e2, ne, rfl, _, _, t0, t1, t2⟩ := open_agg3 Try.underlying50 (by kernel_rfl) (by kernel_rfl) (hval 0 50 v0 rfl rfl) h0
  obtain ⟨y0, g0, _, g0w⟩ := DataW.trod_int Try.underlying5 t0
  injection g0 with g0
  subst g0
  obtain ⟨y1, g1, _, g1w⟩ := DataW.trod_int Try.underlying48 t1
  injection g1 with g1
  subst g1
  obtain ⟨l0, hr0⟩ := rd_notes_f Try.underlying22 Try.underlying30 (by kernel_rfl) (by kernel_rfl) Try.underlying28 Try.underlying3 Try.underlying3 t2
  obtain ⟨A1, len1, cap1, rfl⟩ := okWide_slice Try.underlying51 (hval 1 51 v1 rfl rfl)
  have k1 := h1
  have lt1 : ∀ x ∈ p1, x.block < W.heap.size := by obtain ⟨m, hm⟩ := k1; exact DataW.trod_lt m _ _ _ hm
  obtain ⟨l1, rfl, hr1, hw1, hm1⟩ := rd_of_ints Try.underlying51 Try.underlying5 (by kernel_rfl) h1
  clear hA0 hval0
  refine (orders_law y0 y1 l0 l1 _ _ W W.heap.size hr0 hr1 (Nat.le_refl _) (wf_bd8 g0w).1 (wf_bd8 g0w).2 (wf_bd16 g1w).1 (wf_bd16 g1w).2 (fun x hx => wf_bd8 (hw1 x hx)) (by have := hm1; unfold maxLen at this; omega)).mono fun e W' ⟨he, bel⟩ => ?_
  subst he
  exact ⟨_, rfl, _, _, _, [], _, [], hW', trodAll_mk1 (shut_bool Try.underlying4 _), (trodAll_cons_mk (Below.trod laidOut (by kernel_rfl) (of_decide_eq_true (by kernel_rfl)) k0 bel lt0) (trodAll_cons_mk (Below.trod laidOut (by kernel_rfl) (of_decide_eq_true (by kernel_rfl)) k1 bel lt1) trodAll_mk0)), rfl, bel.frame _, fun h => by cases h⟩

theorem over : Rows.averageOrdersRow.holds Try.pinned (OpenSpec.ofChange Rows.averageOrdersSpec) :=
  OpenClaim.holds_of_wide 6 Try.f6 rfl rfl rfl rfl rfl rfl rfl ⟨rfl, rfl, rfl, rfl, rfl⟩ rfl rfl rfl rfl rfl (by kernel_rfl) Try.func6 (by kernel_rfl)
    (of_decide_eq_true (by kernel_rfl)) (by unfold Func.isWrapper; first | (rw [if_pos (by decide +kernel)]; kernel_rfl) | (rw [if_neg (by decide +kernel)]; exact ⟨rfl, rfl⟩))
    (fun os started H enc _ => lifted os started H enc)

/-- THE STATEMENT -/
theorem proved : Rows.AverageOrdersSaid := over
end Go.Proofs.Ytkbfdgacnoadlaa.averageOrders
