/- The reference's Costs: what a pass costs. -/
import Derived.Test.YtkbfdgacnoadlaaA12
namespace Go.Proofs.Ytkbfdgacnoadlaa
open Go.RowKit

set_option maxHeartbeats 1000000 in
theorem costs_any (t : Tf) (x : Ps) (N : Int) (w : World) (ht : tfErr t = 0) (hx : passErr N x = 0) :
    Calls Try.prog 50 #[.agg (tfV t), .agg (passV x).toArray] w fun e w' => e = .returned (.int .i64 (cost t x)) ∧ Below w.heap.size w w' := by
  have hc := cost_bd ht hx
  obtain ⟨h1, h2, h3, _⟩ := tf_ok ht
  obtain ⟨_, h4, h5⟩ := pass_ok hx
  clear ht hx
  obtain ⟨tb, tt, tl, tp, tofs, tm⟩ := t
  obtain ⟨xp, xt, xl⟩ := x
  simp only at h1 h2 h3 h4 h5
  simp only [tfV, passV, cost] at hc ⊢
  have m1 := prod_bd h4 h2
  have m2 := prod_bd h5 h3
  have w0 : tb + (xt * tt + xl * tl + 99) / 100 = tb + (xt * tt + xl * tl + 99).tdiv 100 := by rw [Int.tdiv_eq_ediv_of_nonneg (by omega)]
  have w1 : IntKind.i64.wrap (xt * tt) = xt * tt := IntWalk.i64_in _ ⟨by omega, by omega⟩
  have w2 : IntKind.i64.wrap (xl * tl) = xl * tl := IntWalk.i64_in _ ⟨by omega, by omega⟩
  have w3 : IntKind.i64.wrap (xt * tt + xl * tl) = xt * tt + xl * tl := IntWalk.i64_in _ ⟨by omega, by omega⟩
  have w4 : IntKind.i64.wrap (xt * tt + xl * tl + 99) = xt * tt + xl * tl + 99 := IntWalk.i64_in _ ⟨by omega, by omega⟩
  go_enter Try.func50, Try.ntmps50
  go_wp2
  go_ret
  exact ⟨rfl, ((Below.refl _ _).alloc (Nat.le_refl _) _).alloc (by simp) _⟩
end Go.Proofs.Ytkbfdgacnoadlaa
