/- River: same, of equal lists (printed by gen_w5.py). -/
import Derived.Test.YtncnlhkmdljgpaaX0
import Derived.Test.YtncnlhkmdljgpaaV16
namespace Go.Proofs.Ytncnlhkmdljgpaa
open Go Go.RowKit

theorem same_eq (l : List Bd) (u v : Value) (w : World) (B C : Nat) (hr : Rd w B 2 u l.length (bdsC l)) (hs : Rd w C 2 v l.length (bdsC l)) (hl : l.length ≤ 1048576) :
    Calls Try.prog 19 #[u, v] w fun e w' => e = .returned (.bool true) ∧ Below w.heap.size w w' := by
  obtain ⟨A, cu, rfl, _⟩ := hr.shape
  obtain ⟨A', cv, rfl, _⟩ := hs.shape
  have hbw := Below.refl w.heap.size w
  refine EC.enter 26 Try.func19 rfl rfl rfl ?_
  refine EC.seq ?_
  refine EC.region ?_
  refine EL.val (x_assign rfl) rfl ?_
  refine EL.nil ?_
  refine EX.seq ?_
  refine EC.seq ?_
  refine EC.seq ?_
  refine EC.region ?_
  refine EL.val (x_move rfl) rfl ?_
  refine EL.val (ln_28 rfl) rfl ?_
  refine EL.val (x_move rfl) rfl ?_
  refine EL.val (ln_28 rfl) rfl ?_
  refine EL.val (x_neq rfl rfl (by first | assumption | exact decide_eq_false (by omega))) rfl ?_
  refine EL.nil ?_
  refine EX.seq ?_
  refine EC.no rfl ?_
  refine EC.skip ?_
  refine EX.seq ?_
  refine EC.seq ?_
  refine EC.seq ?_
  refine EC.region ?_
  refine EL.val (x_assign rfl) rfl ?_
  refine EL.nil ?_
  refine EX.seq ?_
  refine EC.block ?_
  refine EC.loopD [4, 5, 11, 12, 13, 14, 15, 16, 17, 18, 19, 20, 21, 22, 23, 24, 25] (fun x : Nat => [(5, .int .i64 (x : Nat))]) (fun x W => x ≤ l.length ∧ Below w.heap.size w W) (fun x => l.length - x) 0 ⟨Nat.zero_le _, hbw⟩ ⟨rfl, trivial⟩ ?_
  rintro i wr ⟨hi, hbw⟩
  by_cases hlt : i < l.length
  ·
    obtain ⟨b, o, rfl, _, c0, c1⟩ := bds_cells l i hlt _ _ _ _ _ hr
    obtain ⟨b2, o2, rfl, _, d0, d1⟩ := bds_cells l i hlt _ _ _ _ _ hs
    refine EC.seq ?_
    refine EC.seq ?_
    refine EC.region ?_
    refine EL.val (x_move rfl) rfl ?_
    refine EL.val (x_move rfl) rfl ?_
    refine EL.val (ln_28 rfl) rfl ?_
    refine EL.val (x_lss rfl rfl (by first | assumption | exact decide_eq_true (by omega))) rfl ?_
    refine EL.nil ?_
    refine EX.seq ?_
    refine EC.yes rfl ?_
    refine EC.skip ?_
    refine EX.seq ?_
    refine EC.seq ?_
    refine EC.block ?_
    refine EC.seq ?_
    refine EC.regionQ (by kernel_rfl) (by kernel_rfl) ?_
    refine EQ.val (fun _ hw => (x_move rfl)) rfl ?_
    refine EQ.val (fun _ hw => (x_move rfl)) rfl ?_
    refine EQ.val (fun _ hw => (ix_28 rfl rfl hlt)) rfl ?_
    refine EQ.val (fun _ hw => (ld_23 rfl (below_load hw (below_load hbw c0)) (below_load hw (below_load hbw c1)))) rfl ?_
    refine EQ.val (fun _ hw => (x_move rfl)) rfl ?_
    refine EQ.val (fun _ hw => (x_move rfl)) rfl ?_
    refine EQ.val (fun _ hw => (ix_28 rfl rfl hlt)) rfl ?_
    refine EQ.val (fun _ hw => (ld_23 rfl (below_load hw (below_load hbw d0)) (below_load hw (below_load hbw d1)))) rfl ?_
    refine EQ.val (fun _ hw => (neq_23 (r := false) rfl rfl (by simp))) rfl ?_
    refine EQ.fin (fun w_ hw_ => ?_)
    replace hbw := Below.on hbw hw_ hbw.size
    refine EX.seq ?_
    refine EC.no rfl ?_
    refine EC.skip ?_
    refine EX.blk ?_
    refine EX.seq ?_
    refine EC.region ?_
    refine EL.val (x_move rfl) rfl ?_
    refine EL.val (x_add rfl rfl (by first | assumption | exact IntWalk.i64_in _ ⟨by omega, by omega⟩)) rfl ?_
    refine EL.val (x_assign rfl) rfl ?_
    refine EL.nil ?_
    refine EX.roundD (i + 1) ⟨rfl, trivial⟩ (by repeat first | exact Sub.refl _ | refine sub_past rfl ?_ | refine sub_del rfl ?_ | refine sub_insL_nil ?_) ⟨hlt, hbw⟩ (by omega)
  ·
    obtain rfl : i = l.length := by omega
    refine EC.seq ?_
    refine EC.seq ?_
    refine EC.region ?_
    refine EL.val (x_move rfl) rfl ?_
    refine EL.val (x_move rfl) rfl ?_
    refine EL.val (ln_28 rfl) rfl ?_
    refine EL.val (x_lss rfl rfl (by first | assumption | exact decide_eq_false (by omega))) rfl ?_
    refine EL.nil ?_
    refine EX.seq ?_
    refine EC.no rfl ?_
    refine EC.exit ?_
    refine EX.seq_exit ?_
    refine EX.seq_exit ?_
    refine EX.blk_here ?_
    refine EX.seq ?_
    refine EC.seq ?_
    refine EC.region ?_
    refine EL.val (x_assign rfl) rfl ?_
    refine EL.nil ?_
    refine EX.seq ?_
    refine EC.ret ?_
    exact EX.done (res1 rfl rfl) ⟨rfl, hbw⟩
end Go.Proofs.Ytncnlhkmdljgpaa
