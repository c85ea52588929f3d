/- AverageFaults: the last loop, walked by what is known of the slots. -/
import Derived.Test.YtkbfdgacnoadlaaEAvg
import Derived.Test.YtkbfdgacnoadlaaA4
namespace Go.Proofs.Ytkbfdgacnoadlaa
open Go Go.RowKit

def firstLoopW (n : Nat) : Code → Option Code
  | .loop c => if hasR n c then some c else firstLoopW n c
  | .seq a b => match firstLoopW n a with
    | some c => some c
    | none => firstLoopW n b
  | .block _ c => firstLoopW n c
  | .scope c => firstLoopW n c
  | .cond _ a b => match firstLoopW n a with
    | some c => some c
    | none => firstLoopW n b
  | _ => none
where
  hasR (n : Nat) : Code → Bool
  | .region id _ _ => id == n
  | .seq a b => hasR n a || hasR n b
  | .block _ c => hasR n c
  | .scope c => hasR n c
  | .loop c => hasR n c
  | .cond _ a b => hasR n a || hasR n b
  | _ => false
noncomputable def floop : Code := ((Try.f11.body.bind (firstLoopW 20)).getD .skip)
def fS (v0 v1 v2 v6 v10 v12 : Value) (t i : Int) : Sg := argsS [v0, v1, v2] 7 |> fun σ => ins (ins (ins (ins (ins σ 14 v6) 16 v10) 18 v12) 20 (.int .i64 t)) 21 (.int .i64 i)
section
variable {Q : Exit → Act → World → Prop} {w wr : World} {M k p1 o1 e1 p2 o2 e2 p3 o3 e3 p4 o4 e4 p5 o5 e5 p6 o6 e6 : Nat} {la_ b_ c_ l_ m_ s_ S : Int}
set_option maxRecDepth 100000 in
theorem floop_z1 (K : Act → World → Prop) (hlt : k < M) (hM : M ≤ 12) (hbk : Below w.heap.size w wr)
    (c1 : w.cell? ⟨p1, o1 + k, none⟩ = some (.int .i64 la_)) (c2 : w.cell? ⟨p2, o2 + k, none⟩ = some (.int .i64 b_)) (c3 : w.cell? ⟨p3, o3 + k, none⟩ = some (.int .i64 c_)) (c4 : w.cell? ⟨p4, o4 + k, none⟩ = some (.int .i64 l_)) (c5 : w.cell? ⟨p5, o5 + k, none⟩ = some (.int .i64 m_)) (c6 : w.cell? ⟨p6, o6 + k, none⟩ = some (.int .i64 s_))
    (q1 : l_ ≤ c_) (q2 : -l_ ≤ la_) (q3 : m_ + la_ = s_) (w1 : IntKind.i64.wrap (-l_) = -l_) (w2 : IntKind.i64.wrap (m_ + la_) = m_ + la_) (w3 : IntKind.i64.wrap (S + l_) = S + l_) (j1 : b_ = 0) (j2 : l_ = 0)
    (hK : ∀ a w', Env 277 (fS (.slice (some ⟨p1, o1, none⟩) M e1) (.slice (some ⟨p2, o2, none⟩) M e2) (.slice (some ⟨p3, o3, none⟩) M e3) (.slice (some ⟨p4, o4, none⟩) M e4) (.slice (some ⟨p5, o5, none⟩) M e5) (.slice (some ⟨p6, o6, none⟩) M e6) (S + l_) ((k : Int) + 1)) a → Below w.heap.size w w' → K a w') : EC Try.prog 277 floop (Exit.then K Q) (fS (.slice (some ⟨p1, o1, none⟩) M e1) (.slice (some ⟨p2, o2, none⟩) M e2) (.slice (some ⟨p3, o3, none⟩) M e3) (.slice (some ⟨p4, o4, none⟩) M e4) (.slice (some ⟨p5, o5, none⟩) M e5) (.slice (some ⟨p6, o6, none⟩) M e6) S k) wr := by
  conv => arg 3; whnf
  refine EC.seq ?_
  refine EC.seq ?_
  refine EC.region ?_
  refine EL.val (x_move rfl) rfl ?_
  refine EL.val (x_move rfl) rfl ?_
  refine EL.val (ln_ints rfl) rfl ?_
  refine EL.val (x_lss rfl rfl (by first | assumption | exact decide_eq_true (by omega))) rfl ?_
  refine EL.nil ?_
  refine EX.seq ?_
  refine EC.yes rfl ?_
  refine EC.skip ?_
  refine EX.seq ?_
  refine EC.seq ?_
  refine EC.block ?_
  refine EC.seq ?_
  refine EC.seq ?_
  refine EC.regionQ (by kernel_rfl) (by kernel_rfl) ?_
  refine EQ.val (fun _ hw => (x_move rfl)) rfl ?_
  refine EQ.val (fun _ hw => (x_move rfl)) rfl ?_
  refine EQ.val (fun _ hw => (ix_ints rfl rfl hlt)) rfl ?_
  refine EQ.val (fun _ hw => (ld_int rfl (below_load hw (below_load hbk c4)))) rfl ?_
  refine EQ.val (fun _ hw => (x_move rfl)) rfl ?_
  refine EQ.val (fun _ hw => (x_move rfl)) rfl ?_
  refine EQ.val (fun _ hw => (ix_ints rfl rfl hlt)) rfl ?_
  refine EQ.val (fun _ hw => (ld_int rfl (below_load hw (below_load hbk c3)))) rfl ?_
  refine EQ.val (fun _ hw => (x_gtr rfl rfl (by first | assumption | exact decide_eq_false (by omega)))) rfl ?_
  refine EQ.val (fun _ hw => (x_move rfl)) rfl ?_
  refine EQ.valg rfl rfl (fun _ hw => (x_move rfl)) rfl ?_
  refine EQ.valg rfl rfl (fun _ hw => (x_move rfl)) rfl ?_
  refine EQ.valg rfl rfl (fun _ hw => (ix_ints rfl rfl hlt)) rfl ?_
  refine EQ.valg rfl rfl (fun _ hw => (ld_int rfl (below_load hw (below_load hbk c4)))) rfl ?_
  refine EQ.valg rfl rfl (fun _ hw => (x_neg rfl w1)) rfl ?_
  refine EQ.valg rfl rfl (fun _ hw => (x_move rfl)) rfl ?_
  refine EQ.valg rfl rfl (fun _ hw => (x_move rfl)) rfl ?_
  refine EQ.valg rfl rfl (fun _ hw => (ix_ints rfl rfl hlt)) rfl ?_
  refine EQ.valg rfl rfl (fun _ hw => (ld_int rfl (below_load hw (below_load hbk c1)))) rfl ?_
  refine EQ.valg rfl rfl (fun _ hw => (x_gtr rfl rfl (by first | assumption | exact decide_eq_false (by omega)))) rfl ?_
  refine EQ.val (fun _ hw => (x_pick_f rfl rfl)) rfl ?_
  refine EQ.val (fun _ hw => (x_move rfl)) rfl ?_
  refine EQ.valg rfl rfl (fun _ hw => (x_move rfl)) rfl ?_
  refine EQ.valg rfl rfl (fun _ hw => (x_move rfl)) rfl ?_
  refine EQ.valg rfl rfl (fun _ hw => (ix_ints rfl rfl hlt)) rfl ?_
  refine EQ.valg rfl rfl (fun _ hw => (ld_int rfl (below_load hw (below_load hbk c5)))) rfl ?_
  refine EQ.valg rfl rfl (fun _ hw => (x_move rfl)) rfl ?_
  refine EQ.valg rfl rfl (fun _ hw => (x_move rfl)) rfl ?_
  refine EQ.valg rfl rfl (fun _ hw => (ix_ints rfl rfl hlt)) rfl ?_
  refine EQ.valg rfl rfl (fun _ hw => (ld_int rfl (below_load hw (below_load hbk c1)))) rfl ?_
  refine EQ.valg rfl rfl (fun _ hw => (x_add rfl rfl w2)) rfl ?_
  refine EQ.valg rfl rfl (fun _ hw => (x_move rfl)) rfl ?_
  refine EQ.valg rfl rfl (fun _ hw => (x_move rfl)) rfl ?_
  refine EQ.valg rfl rfl (fun _ hw => (ix_ints rfl rfl hlt)) rfl ?_
  refine EQ.valg rfl rfl (fun _ hw => (ld_int rfl (below_load hw (below_load hbk c6)))) rfl ?_
  refine EQ.valg rfl rfl (fun _ hw => (x_neq rfl rfl (by first | assumption | exact decide_eq_false (by omega)))) rfl ?_
  refine EQ.val (fun _ hw => (x_pick_f rfl rfl)) rfl ?_
  refine EQ.val (fun _ hw => (x_move rfl)) rfl ?_
  refine EQ.valg rfl rfl (fun _ hw => (x_move rfl)) rfl ?_
  refine EQ.valg rfl rfl (fun _ hw => (x_move rfl)) rfl ?_
  refine EQ.valg rfl rfl (fun _ hw => (ix_ints rfl rfl hlt)) rfl ?_
  refine EQ.valg rfl rfl (fun _ hw => (ld_int rfl (below_load hw (below_load hbk c2)))) rfl ?_
  refine EQ.valg rfl rfl (fun _ hw => (x_eql rfl rfl (by first | assumption | exact decide_eq_true (by omega)))) rfl ?_
  refine EQ.valg rfl rfl (fun _ hw => (x_move rfl)) rfl ?_
  refine EQ.valg rfl rfl (fun _ hw => (x_move rfl)) rfl ?_
  refine EQ.valg rfl rfl (fun _ hw => (x_move rfl)) rfl ?_
  refine EQ.valg rfl rfl (fun _ hw => (ix_ints rfl rfl hlt)) rfl ?_
  refine EQ.valg rfl rfl (fun _ hw => (ld_int rfl (below_load hw (below_load hbk c4)))) rfl ?_
  refine EQ.valg rfl rfl (fun _ hw => (x_gtr rfl rfl (by first | assumption | exact decide_eq_false (by omega)))) rfl ?_
  refine EQ.valg rfl rfl (fun _ hw => (x_pick_t rfl rfl)) rfl ?_
  refine EQ.val (fun _ hw => (x_pick_f rfl rfl)) rfl ?_
  refine EQ.val (fun _ hw => (x_move rfl)) rfl ?_
  refine EQ.valg rfl rfl (fun _ hw => (x_move rfl)) rfl ?_
  refine EQ.valg rfl rfl (fun _ hw => (x_move rfl)) rfl ?_
  refine EQ.valg rfl rfl (fun _ hw => (ix_ints rfl rfl hlt)) rfl ?_
  refine EQ.valg rfl rfl (fun _ hw => (ld_int rfl (below_load hw (below_load hbk c4)))) rfl ?_
  refine EQ.valg rfl rfl (fun _ hw => (x_gtr rfl rfl (by first | assumption | exact decide_eq_false (by omega)))) rfl ?_
  refine EQ.valg rfl rfl (fun _ hw => (x_move rfl)) rfl ?_
  refine EQ.skip rfl rfl rfl rfl ?_
  refine EQ.skip rfl rfl rfl rfl ?_
  refine EQ.skip rfl rfl rfl rfl ?_
  refine EQ.skip rfl rfl rfl rfl ?_
  refine EQ.skip rfl rfl rfl rfl ?_
  refine EQ.skip rfl rfl rfl rfl ?_
  refine EQ.skip rfl rfl rfl rfl ?_
  refine EQ.skip rfl rfl rfl rfl ?_
  refine EQ.skip rfl rfl rfl rfl ?_
  refine EQ.valg rfl rfl (fun _ hw => (x_pick_f rfl rfl)) rfl ?_
  refine EQ.val (fun _ hw => (x_pick_f rfl rfl)) rfl ?_
  refine EQ.val (fun _ hw => (x_move rfl)) rfl ?_
  refine EQ.valg rfl rfl (fun _ hw => (x_move rfl)) rfl ?_
  refine EQ.valg rfl rfl (fun _ hw => (x_move rfl)) rfl ?_
  refine EQ.valg rfl rfl (fun _ hw => (ix_ints rfl rfl hlt)) rfl ?_
  refine EQ.valg rfl rfl (fun _ hw => (ld_int rfl (below_load hw (below_load hbk c4)))) rfl ?_
  refine EQ.valg rfl rfl (fun _ hw => (x_lss rfl rfl (by first | assumption | exact decide_eq_false (by omega)))) rfl ?_
  refine EQ.valg rfl rfl (fun _ hw => (x_move rfl)) rfl ?_
  refine EQ.skip rfl rfl rfl rfl ?_
  refine EQ.skip rfl rfl rfl rfl ?_
  refine EQ.skip rfl rfl rfl rfl ?_
  refine EQ.skip rfl rfl rfl rfl ?_
  refine EQ.skip rfl rfl rfl rfl ?_
  refine EQ.skip rfl rfl rfl rfl ?_
  refine EQ.skip rfl rfl rfl rfl ?_
  refine EQ.skip rfl rfl rfl rfl ?_
  refine EQ.skip rfl rfl rfl rfl ?_
  refine EQ.valg rfl rfl (fun _ hw => (x_pick_f rfl rfl)) rfl ?_
  refine EQ.val (fun _ hw => (x_pick_f rfl rfl)) rfl ?_
  refine EQ.fin (fun w_ hw_ => ?_)
  have hbk2 := Below.on hbk hw_ hbk.size
  refine EX.seq ?_
  refine EC.no rfl ?_
  refine EC.skip ?_
  refine EX.seq ?_
  refine EC.region ?_
  refine EL.val (x_move rfl) rfl ?_
  refine EL.val (x_move rfl) rfl ?_
  refine EL.val (x_move rfl) rfl ?_
  refine EL.val (ix_ints rfl rfl hlt) rfl ?_
  refine EL.val (ld_int rfl (below_load hbk2 c4)) rfl ?_
  refine EL.val (x_add rfl rfl w3) rfl ?_
  refine EL.val (x_assign rfl) rfl ?_
  refine EL.nil ?_
  refine EX.blk ?_
  refine EX.seq ?_
  refine EC.region ?_
  refine EL.val (x_move rfl) rfl ?_
  refine EL.val (x_add rfl rfl (by first | assumption | exact IntWalk.i64_in _ ⟨by omega, by omega⟩)) rfl ?_
  refine EL.val (x_assign rfl) rfl ?_
  refine EL.nil ?_
  intro a ha
  refine hK a _ (ha.sub ?_) hbk2
  unfold fS
  repeat refine Sub.ins ?_ rfl
  exact sub_args0
set_option maxRecDepth 100000 in
theorem floop_z2 (K : Act → World → Prop) (hlt : k < M) (hM : M ≤ 12) (hbk : Below w.heap.size w wr)
    (c1 : w.cell? ⟨p1, o1 + k, none⟩ = some (.int .i64 la_)) (c2 : w.cell? ⟨p2, o2 + k, none⟩ = some (.int .i64 b_)) (c3 : w.cell? ⟨p3, o3 + k, none⟩ = some (.int .i64 c_)) (c4 : w.cell? ⟨p4, o4 + k, none⟩ = some (.int .i64 l_)) (c5 : w.cell? ⟨p5, o5 + k, none⟩ = some (.int .i64 m_)) (c6 : w.cell? ⟨p6, o6 + k, none⟩ = some (.int .i64 s_))
    (q1 : l_ ≤ c_) (q2 : -l_ ≤ la_) (q3 : m_ + la_ = s_) (w1 : IntKind.i64.wrap (-l_) = -l_) (w2 : IntKind.i64.wrap (m_ + la_) = m_ + la_) (w3 : IntKind.i64.wrap (S + l_) = S + l_) (j1 : b_ = 0) (j2 : l_ < 0) (j4 : m_ ≤ l_)
    (hK : ∀ a w', Env 277 (fS (.slice (some ⟨p1, o1, none⟩) M e1) (.slice (some ⟨p2, o2, none⟩) M e2) (.slice (some ⟨p3, o3, none⟩) M e3) (.slice (some ⟨p4, o4, none⟩) M e4) (.slice (some ⟨p5, o5, none⟩) M e5) (.slice (some ⟨p6, o6, none⟩) M e6) (S + l_) ((k : Int) + 1)) a → Below w.heap.size w w' → K a w') : EC Try.prog 277 floop (Exit.then K Q) (fS (.slice (some ⟨p1, o1, none⟩) M e1) (.slice (some ⟨p2, o2, none⟩) M e2) (.slice (some ⟨p3, o3, none⟩) M e3) (.slice (some ⟨p4, o4, none⟩) M e4) (.slice (some ⟨p5, o5, none⟩) M e5) (.slice (some ⟨p6, o6, none⟩) M e6) S k) wr := by
  conv => arg 3; whnf
  refine EC.seq ?_
  refine EC.seq ?_
  refine EC.region ?_
  refine EL.val (x_move rfl) rfl ?_
  refine EL.val (x_move rfl) rfl ?_
  refine EL.val (ln_ints rfl) rfl ?_
  refine EL.val (x_lss rfl rfl (by first | assumption | exact decide_eq_true (by omega))) rfl ?_
  refine EL.nil ?_
  refine EX.seq ?_
  refine EC.yes rfl ?_
  refine EC.skip ?_
  refine EX.seq ?_
  refine EC.seq ?_
  refine EC.block ?_
  refine EC.seq ?_
  refine EC.seq ?_
  refine EC.regionQ (by kernel_rfl) (by kernel_rfl) ?_
  refine EQ.val (fun _ hw => (x_move rfl)) rfl ?_
  refine EQ.val (fun _ hw => (x_move rfl)) rfl ?_
  refine EQ.val (fun _ hw => (ix_ints rfl rfl hlt)) rfl ?_
  refine EQ.val (fun _ hw => (ld_int rfl (below_load hw (below_load hbk c4)))) rfl ?_
  refine EQ.val (fun _ hw => (x_move rfl)) rfl ?_
  refine EQ.val (fun _ hw => (x_move rfl)) rfl ?_
  refine EQ.val (fun _ hw => (ix_ints rfl rfl hlt)) rfl ?_
  refine EQ.val (fun _ hw => (ld_int rfl (below_load hw (below_load hbk c3)))) rfl ?_
  refine EQ.val (fun _ hw => (x_gtr rfl rfl (by first | assumption | exact decide_eq_false (by omega)))) rfl ?_
  refine EQ.val (fun _ hw => (x_move rfl)) rfl ?_
  refine EQ.valg rfl rfl (fun _ hw => (x_move rfl)) rfl ?_
  refine EQ.valg rfl rfl (fun _ hw => (x_move rfl)) rfl ?_
  refine EQ.valg rfl rfl (fun _ hw => (ix_ints rfl rfl hlt)) rfl ?_
  refine EQ.valg rfl rfl (fun _ hw => (ld_int rfl (below_load hw (below_load hbk c4)))) rfl ?_
  refine EQ.valg rfl rfl (fun _ hw => (x_neg rfl w1)) rfl ?_
  refine EQ.valg rfl rfl (fun _ hw => (x_move rfl)) rfl ?_
  refine EQ.valg rfl rfl (fun _ hw => (x_move rfl)) rfl ?_
  refine EQ.valg rfl rfl (fun _ hw => (ix_ints rfl rfl hlt)) rfl ?_
  refine EQ.valg rfl rfl (fun _ hw => (ld_int rfl (below_load hw (below_load hbk c1)))) rfl ?_
  refine EQ.valg rfl rfl (fun _ hw => (x_gtr rfl rfl (by first | assumption | exact decide_eq_false (by omega)))) rfl ?_
  refine EQ.val (fun _ hw => (x_pick_f rfl rfl)) rfl ?_
  refine EQ.val (fun _ hw => (x_move rfl)) rfl ?_
  refine EQ.valg rfl rfl (fun _ hw => (x_move rfl)) rfl ?_
  refine EQ.valg rfl rfl (fun _ hw => (x_move rfl)) rfl ?_
  refine EQ.valg rfl rfl (fun _ hw => (ix_ints rfl rfl hlt)) rfl ?_
  refine EQ.valg rfl rfl (fun _ hw => (ld_int rfl (below_load hw (below_load hbk c5)))) rfl ?_
  refine EQ.valg rfl rfl (fun _ hw => (x_move rfl)) rfl ?_
  refine EQ.valg rfl rfl (fun _ hw => (x_move rfl)) rfl ?_
  refine EQ.valg rfl rfl (fun _ hw => (ix_ints rfl rfl hlt)) rfl ?_
  refine EQ.valg rfl rfl (fun _ hw => (ld_int rfl (below_load hw (below_load hbk c1)))) rfl ?_
  refine EQ.valg rfl rfl (fun _ hw => (x_add rfl rfl w2)) rfl ?_
  refine EQ.valg rfl rfl (fun _ hw => (x_move rfl)) rfl ?_
  refine EQ.valg rfl rfl (fun _ hw => (x_move rfl)) rfl ?_
  refine EQ.valg rfl rfl (fun _ hw => (ix_ints rfl rfl hlt)) rfl ?_
  refine EQ.valg rfl rfl (fun _ hw => (ld_int rfl (below_load hw (below_load hbk c6)))) rfl ?_
  refine EQ.valg rfl rfl (fun _ hw => (x_neq rfl rfl (by first | assumption | exact decide_eq_false (by omega)))) rfl ?_
  refine EQ.val (fun _ hw => (x_pick_f rfl rfl)) rfl ?_
  refine EQ.val (fun _ hw => (x_move rfl)) rfl ?_
  refine EQ.valg rfl rfl (fun _ hw => (x_move rfl)) rfl ?_
  refine EQ.valg rfl rfl (fun _ hw => (x_move rfl)) rfl ?_
  refine EQ.valg rfl rfl (fun _ hw => (ix_ints rfl rfl hlt)) rfl ?_
  refine EQ.valg rfl rfl (fun _ hw => (ld_int rfl (below_load hw (below_load hbk c2)))) rfl ?_
  refine EQ.valg rfl rfl (fun _ hw => (x_eql rfl rfl (by first | assumption | exact decide_eq_true (by omega)))) rfl ?_
  refine EQ.valg rfl rfl (fun _ hw => (x_move rfl)) rfl ?_
  refine EQ.valg rfl rfl (fun _ hw => (x_move rfl)) rfl ?_
  refine EQ.valg rfl rfl (fun _ hw => (x_move rfl)) rfl ?_
  refine EQ.valg rfl rfl (fun _ hw => (ix_ints rfl rfl hlt)) rfl ?_
  refine EQ.valg rfl rfl (fun _ hw => (ld_int rfl (below_load hw (below_load hbk c4)))) rfl ?_
  refine EQ.valg rfl rfl (fun _ hw => (x_gtr rfl rfl (by first | assumption | exact decide_eq_false (by omega)))) rfl ?_
  refine EQ.valg rfl rfl (fun _ hw => (x_pick_t rfl rfl)) rfl ?_
  refine EQ.val (fun _ hw => (x_pick_f rfl rfl)) rfl ?_
  refine EQ.val (fun _ hw => (x_move rfl)) rfl ?_
  refine EQ.valg rfl rfl (fun _ hw => (x_move rfl)) rfl ?_
  refine EQ.valg rfl rfl (fun _ hw => (x_move rfl)) rfl ?_
  refine EQ.valg rfl rfl (fun _ hw => (ix_ints rfl rfl hlt)) rfl ?_
  refine EQ.valg rfl rfl (fun _ hw => (ld_int rfl (below_load hw (below_load hbk c4)))) rfl ?_
  refine EQ.valg rfl rfl (fun _ hw => (x_gtr rfl rfl (by first | assumption | exact decide_eq_false (by omega)))) rfl ?_
  refine EQ.valg rfl rfl (fun _ hw => (x_move rfl)) rfl ?_
  refine EQ.skip rfl rfl rfl rfl ?_
  refine EQ.skip rfl rfl rfl rfl ?_
  refine EQ.skip rfl rfl rfl rfl ?_
  refine EQ.skip rfl rfl rfl rfl ?_
  refine EQ.skip rfl rfl rfl rfl ?_
  refine EQ.skip rfl rfl rfl rfl ?_
  refine EQ.skip rfl rfl rfl rfl ?_
  refine EQ.skip rfl rfl rfl rfl ?_
  refine EQ.skip rfl rfl rfl rfl ?_
  refine EQ.valg rfl rfl (fun _ hw => (x_pick_f rfl rfl)) rfl ?_
  refine EQ.val (fun _ hw => (x_pick_f rfl rfl)) rfl ?_
  refine EQ.val (fun _ hw => (x_move rfl)) rfl ?_
  refine EQ.valg rfl rfl (fun _ hw => (x_move rfl)) rfl ?_
  refine EQ.valg rfl rfl (fun _ hw => (x_move rfl)) rfl ?_
  refine EQ.valg rfl rfl (fun _ hw => (ix_ints rfl rfl hlt)) rfl ?_
  refine EQ.valg rfl rfl (fun _ hw => (ld_int rfl (below_load hw (below_load hbk c4)))) rfl ?_
  refine EQ.valg rfl rfl (fun _ hw => (x_lss rfl rfl (by first | assumption | exact decide_eq_true (by omega)))) rfl ?_
  refine EQ.valg rfl rfl (fun _ hw => (x_move rfl)) rfl ?_
  refine EQ.valg rfl rfl (fun _ hw => (x_move rfl)) rfl ?_
  refine EQ.valg rfl rfl (fun _ hw => (x_move rfl)) rfl ?_
  refine EQ.valg rfl rfl (fun _ hw => (ix_ints rfl rfl hlt)) rfl ?_
  refine EQ.valg rfl rfl (fun _ hw => (ld_int rfl (below_load hw (below_load hbk c5)))) rfl ?_
  refine EQ.valg rfl rfl (fun _ hw => (x_move rfl)) rfl ?_
  refine EQ.valg rfl rfl (fun _ hw => (x_move rfl)) rfl ?_
  refine EQ.valg rfl rfl (fun _ hw => (ix_ints rfl rfl hlt)) rfl ?_
  refine EQ.valg rfl rfl (fun _ hw => (ld_int rfl (below_load hw (below_load hbk c4)))) rfl ?_
  refine EQ.valg rfl rfl (fun _ hw => (x_gtr rfl rfl (by first | assumption | exact decide_eq_false (by omega)))) rfl ?_
  refine EQ.valg rfl rfl (fun _ hw => (x_pick_t rfl rfl)) rfl ?_
  refine EQ.val (fun _ hw => (x_pick_f rfl rfl)) rfl ?_
  refine EQ.fin (fun w_ hw_ => ?_)
  have hbk2 := Below.on hbk hw_ hbk.size
  refine EX.seq ?_
  refine EC.no rfl ?_
  refine EC.skip ?_
  refine EX.seq ?_
  refine EC.region ?_
  refine EL.val (x_move rfl) rfl ?_
  refine EL.val (x_move rfl) rfl ?_
  refine EL.val (x_move rfl) rfl ?_
  refine EL.val (ix_ints rfl rfl hlt) rfl ?_
  refine EL.val (ld_int rfl (below_load hbk2 c4)) rfl ?_
  refine EL.val (x_add rfl rfl w3) rfl ?_
  refine EL.val (x_assign rfl) rfl ?_
  refine EL.nil ?_
  refine EX.blk ?_
  refine EX.seq ?_
  refine EC.region ?_
  refine EL.val (x_move rfl) rfl ?_
  refine EL.val (x_add rfl rfl (by first | assumption | exact IntWalk.i64_in _ ⟨by omega, by omega⟩)) rfl ?_
  refine EL.val (x_assign rfl) rfl ?_
  refine EL.nil ?_
  intro a ha
  refine hK a _ (ha.sub ?_) hbk2
  unfold fS
  repeat refine Sub.ins ?_ rfl
  exact sub_args0
set_option maxRecDepth 100000 in
theorem floop_p1 (K : Act → World → Prop) (hlt : k < M) (hM : M ≤ 12) (hbk : Below w.heap.size w wr)
    (c1 : w.cell? ⟨p1, o1 + k, none⟩ = some (.int .i64 la_)) (c2 : w.cell? ⟨p2, o2 + k, none⟩ = some (.int .i64 b_)) (c3 : w.cell? ⟨p3, o3 + k, none⟩ = some (.int .i64 c_)) (c4 : w.cell? ⟨p4, o4 + k, none⟩ = some (.int .i64 l_)) (c5 : w.cell? ⟨p5, o5 + k, none⟩ = some (.int .i64 m_)) (c6 : w.cell? ⟨p6, o6 + k, none⟩ = some (.int .i64 s_))
    (q1 : l_ ≤ c_) (q2 : -l_ ≤ la_) (q3 : m_ + la_ = s_) (w1 : IntKind.i64.wrap (-l_) = -l_) (w2 : IntKind.i64.wrap (m_ + la_) = m_ + la_) (w3 : IntKind.i64.wrap (S + l_) = S + l_) (j1 : b_ ≠ 0) (j2 : 0 < l_) (j4 : l_ ≤ m_)
    (hK : ∀ a w', Env 277 (fS (.slice (some ⟨p1, o1, none⟩) M e1) (.slice (some ⟨p2, o2, none⟩) M e2) (.slice (some ⟨p3, o3, none⟩) M e3) (.slice (some ⟨p4, o4, none⟩) M e4) (.slice (some ⟨p5, o5, none⟩) M e5) (.slice (some ⟨p6, o6, none⟩) M e6) (S + l_) ((k : Int) + 1)) a → Below w.heap.size w w' → K a w') : EC Try.prog 277 floop (Exit.then K Q) (fS (.slice (some ⟨p1, o1, none⟩) M e1) (.slice (some ⟨p2, o2, none⟩) M e2) (.slice (some ⟨p3, o3, none⟩) M e3) (.slice (some ⟨p4, o4, none⟩) M e4) (.slice (some ⟨p5, o5, none⟩) M e5) (.slice (some ⟨p6, o6, none⟩) M e6) S k) wr := by
  conv => arg 3; whnf
  refine EC.seq ?_
  refine EC.seq ?_
  refine EC.region ?_
  refine EL.val (x_move rfl) rfl ?_
  refine EL.val (x_move rfl) rfl ?_
  refine EL.val (ln_ints rfl) rfl ?_
  refine EL.val (x_lss rfl rfl (by first | assumption | exact decide_eq_true (by omega))) rfl ?_
  refine EL.nil ?_
  refine EX.seq ?_
  refine EC.yes rfl ?_
  refine EC.skip ?_
  refine EX.seq ?_
  refine EC.seq ?_
  refine EC.block ?_
  refine EC.seq ?_
  refine EC.seq ?_
  refine EC.regionQ (by kernel_rfl) (by kernel_rfl) ?_
  refine EQ.val (fun _ hw => (x_move rfl)) rfl ?_
  refine EQ.val (fun _ hw => (x_move rfl)) rfl ?_
  refine EQ.val (fun _ hw => (ix_ints rfl rfl hlt)) rfl ?_
  refine EQ.val (fun _ hw => (ld_int rfl (below_load hw (below_load hbk c4)))) rfl ?_
  refine EQ.val (fun _ hw => (x_move rfl)) rfl ?_
  refine EQ.val (fun _ hw => (x_move rfl)) rfl ?_
  refine EQ.val (fun _ hw => (ix_ints rfl rfl hlt)) rfl ?_
  refine EQ.val (fun _ hw => (ld_int rfl (below_load hw (below_load hbk c3)))) rfl ?_
  refine EQ.val (fun _ hw => (x_gtr rfl rfl (by first | assumption | exact decide_eq_false (by omega)))) rfl ?_
  refine EQ.val (fun _ hw => (x_move rfl)) rfl ?_
  refine EQ.valg rfl rfl (fun _ hw => (x_move rfl)) rfl ?_
  refine EQ.valg rfl rfl (fun _ hw => (x_move rfl)) rfl ?_
  refine EQ.valg rfl rfl (fun _ hw => (ix_ints rfl rfl hlt)) rfl ?_
  refine EQ.valg rfl rfl (fun _ hw => (ld_int rfl (below_load hw (below_load hbk c4)))) rfl ?_
  refine EQ.valg rfl rfl (fun _ hw => (x_neg rfl w1)) rfl ?_
  refine EQ.valg rfl rfl (fun _ hw => (x_move rfl)) rfl ?_
  refine EQ.valg rfl rfl (fun _ hw => (x_move rfl)) rfl ?_
  refine EQ.valg rfl rfl (fun _ hw => (ix_ints rfl rfl hlt)) rfl ?_
  refine EQ.valg rfl rfl (fun _ hw => (ld_int rfl (below_load hw (below_load hbk c1)))) rfl ?_
  refine EQ.valg rfl rfl (fun _ hw => (x_gtr rfl rfl (by first | assumption | exact decide_eq_false (by omega)))) rfl ?_
  refine EQ.val (fun _ hw => (x_pick_f rfl rfl)) rfl ?_
  refine EQ.val (fun _ hw => (x_move rfl)) rfl ?_
  refine EQ.valg rfl rfl (fun _ hw => (x_move rfl)) rfl ?_
  refine EQ.valg rfl rfl (fun _ hw => (x_move rfl)) rfl ?_
  refine EQ.valg rfl rfl (fun _ hw => (ix_ints rfl rfl hlt)) rfl ?_
  refine EQ.valg rfl rfl (fun _ hw => (ld_int rfl (below_load hw (below_load hbk c5)))) rfl ?_
  refine EQ.valg rfl rfl (fun _ hw => (x_move rfl)) rfl ?_
  refine EQ.valg rfl rfl (fun _ hw => (x_move rfl)) rfl ?_
  refine EQ.valg rfl rfl (fun _ hw => (ix_ints rfl rfl hlt)) rfl ?_
  refine EQ.valg rfl rfl (fun _ hw => (ld_int rfl (below_load hw (below_load hbk c1)))) rfl ?_
  refine EQ.valg rfl rfl (fun _ hw => (x_add rfl rfl w2)) rfl ?_
  refine EQ.valg rfl rfl (fun _ hw => (x_move rfl)) rfl ?_
  refine EQ.valg rfl rfl (fun _ hw => (x_move rfl)) rfl ?_
  refine EQ.valg rfl rfl (fun _ hw => (ix_ints rfl rfl hlt)) rfl ?_
  refine EQ.valg rfl rfl (fun _ hw => (ld_int rfl (below_load hw (below_load hbk c6)))) rfl ?_
  refine EQ.valg rfl rfl (fun _ hw => (x_neq rfl rfl (by first | assumption | exact decide_eq_false (by omega)))) rfl ?_
  refine EQ.val (fun _ hw => (x_pick_f rfl rfl)) rfl ?_
  refine EQ.val (fun _ hw => (x_move rfl)) rfl ?_
  refine EQ.valg rfl rfl (fun _ hw => (x_move rfl)) rfl ?_
  refine EQ.valg rfl rfl (fun _ hw => (x_move rfl)) rfl ?_
  refine EQ.valg rfl rfl (fun _ hw => (ix_ints rfl rfl hlt)) rfl ?_
  refine EQ.valg rfl rfl (fun _ hw => (ld_int rfl (below_load hw (below_load hbk c2)))) rfl ?_
  refine EQ.valg rfl rfl (fun _ hw => (x_eql rfl rfl (by first | assumption | exact decide_eq_false (by omega)))) rfl ?_
  refine EQ.valg rfl rfl (fun _ hw => (x_move rfl)) rfl ?_
  refine EQ.skip rfl rfl rfl rfl ?_
  refine EQ.skip rfl rfl rfl rfl ?_
  refine EQ.skip rfl rfl rfl rfl ?_
  refine EQ.skip rfl rfl rfl rfl ?_
  refine EQ.skip rfl rfl rfl rfl ?_
  refine EQ.valg rfl rfl (fun _ hw => (x_pick_f rfl rfl)) rfl ?_
  refine EQ.val (fun _ hw => (x_pick_f rfl rfl)) rfl ?_
  refine EQ.val (fun _ hw => (x_move rfl)) rfl ?_
  refine EQ.valg rfl rfl (fun _ hw => (x_move rfl)) rfl ?_
  refine EQ.valg rfl rfl (fun _ hw => (x_move rfl)) rfl ?_
  refine EQ.valg rfl rfl (fun _ hw => (ix_ints rfl rfl hlt)) rfl ?_
  refine EQ.valg rfl rfl (fun _ hw => (ld_int rfl (below_load hw (below_load hbk c4)))) rfl ?_
  refine EQ.valg rfl rfl (fun _ hw => (x_gtr rfl rfl (by first | assumption | exact decide_eq_true (by omega)))) rfl ?_
  refine EQ.valg rfl rfl (fun _ hw => (x_move rfl)) rfl ?_
  refine EQ.valg rfl rfl (fun _ hw => (x_move rfl)) rfl ?_
  refine EQ.valg rfl rfl (fun _ hw => (x_move rfl)) rfl ?_
  refine EQ.valg rfl rfl (fun _ hw => (ix_ints rfl rfl hlt)) rfl ?_
  refine EQ.valg rfl rfl (fun _ hw => (ld_int rfl (below_load hw (below_load hbk c5)))) rfl ?_
  refine EQ.valg rfl rfl (fun _ hw => (x_move rfl)) rfl ?_
  refine EQ.valg rfl rfl (fun _ hw => (x_move rfl)) rfl ?_
  refine EQ.valg rfl rfl (fun _ hw => (ix_ints rfl rfl hlt)) rfl ?_
  refine EQ.valg rfl rfl (fun _ hw => (ld_int rfl (below_load hw (below_load hbk c4)))) rfl ?_
  refine EQ.valg rfl rfl (fun _ hw => (x_lss rfl rfl (by first | assumption | exact decide_eq_false (by omega)))) rfl ?_
  refine EQ.valg rfl rfl (fun _ hw => (x_pick_t rfl rfl)) rfl ?_
  refine EQ.val (fun _ hw => (x_pick_f rfl rfl)) rfl ?_
  refine EQ.val (fun _ hw => (x_move rfl)) rfl ?_
  refine EQ.valg rfl rfl (fun _ hw => (x_move rfl)) rfl ?_
  refine EQ.valg rfl rfl (fun _ hw => (x_move rfl)) rfl ?_
  refine EQ.valg rfl rfl (fun _ hw => (ix_ints rfl rfl hlt)) rfl ?_
  refine EQ.valg rfl rfl (fun _ hw => (ld_int rfl (below_load hw (below_load hbk c4)))) rfl ?_
  refine EQ.valg rfl rfl (fun _ hw => (x_lss rfl rfl (by first | assumption | exact decide_eq_false (by omega)))) rfl ?_
  refine EQ.valg rfl rfl (fun _ hw => (x_move rfl)) rfl ?_
  refine EQ.skip rfl rfl rfl rfl ?_
  refine EQ.skip rfl rfl rfl rfl ?_
  refine EQ.skip rfl rfl rfl rfl ?_
  refine EQ.skip rfl rfl rfl rfl ?_
  refine EQ.skip rfl rfl rfl rfl ?_
  refine EQ.skip rfl rfl rfl rfl ?_
  refine EQ.skip rfl rfl rfl rfl ?_
  refine EQ.skip rfl rfl rfl rfl ?_
  refine EQ.skip rfl rfl rfl rfl ?_
  refine EQ.valg rfl rfl (fun _ hw => (x_pick_f rfl rfl)) rfl ?_
  refine EQ.val (fun _ hw => (x_pick_f rfl rfl)) rfl ?_
  refine EQ.fin (fun w_ hw_ => ?_)
  have hbk2 := Below.on hbk hw_ hbk.size
  refine EX.seq ?_
  refine EC.no rfl ?_
  refine EC.skip ?_
  refine EX.seq ?_
  refine EC.region ?_
  refine EL.val (x_move rfl) rfl ?_
  refine EL.val (x_move rfl) rfl ?_
  refine EL.val (x_move rfl) rfl ?_
  refine EL.val (ix_ints rfl rfl hlt) rfl ?_
  refine EL.val (ld_int rfl (below_load hbk2 c4)) rfl ?_
  refine EL.val (x_add rfl rfl w3) rfl ?_
  refine EL.val (x_assign rfl) rfl ?_
  refine EL.nil ?_
  refine EX.blk ?_
  refine EX.seq ?_
  refine EC.region ?_
  refine EL.val (x_move rfl) rfl ?_
  refine EL.val (x_add rfl rfl (by first | assumption | exact IntWalk.i64_in _ ⟨by omega, by omega⟩)) rfl ?_
  refine EL.val (x_assign rfl) rfl ?_
  refine EL.nil ?_
  intro a ha
  refine hK a _ (ha.sub ?_) hbk2
  unfold fS
  repeat refine Sub.ins ?_ rfl
  exact sub_args0
set_option maxRecDepth 100000 in
theorem floop_p2 (K : Act → World → Prop) (hlt : k < M) (hM : M ≤ 12) (hbk : Below w.heap.size w wr)
    (c1 : w.cell? ⟨p1, o1 + k, none⟩ = some (.int .i64 la_)) (c2 : w.cell? ⟨p2, o2 + k, none⟩ = some (.int .i64 b_)) (c3 : w.cell? ⟨p3, o3 + k, none⟩ = some (.int .i64 c_)) (c4 : w.cell? ⟨p4, o4 + k, none⟩ = some (.int .i64 l_)) (c5 : w.cell? ⟨p5, o5 + k, none⟩ = some (.int .i64 m_)) (c6 : w.cell? ⟨p6, o6 + k, none⟩ = some (.int .i64 s_))
    (q1 : l_ ≤ c_) (q2 : -l_ ≤ la_) (q3 : m_ + la_ = s_) (w1 : IntKind.i64.wrap (-l_) = -l_) (w2 : IntKind.i64.wrap (m_ + la_) = m_ + la_) (w3 : IntKind.i64.wrap (S + l_) = S + l_) (j1 : b_ ≠ 0) (j2 : l_ = 0)
    (hK : ∀ a w', Env 277 (fS (.slice (some ⟨p1, o1, none⟩) M e1) (.slice (some ⟨p2, o2, none⟩) M e2) (.slice (some ⟨p3, o3, none⟩) M e3) (.slice (some ⟨p4, o4, none⟩) M e4) (.slice (some ⟨p5, o5, none⟩) M e5) (.slice (some ⟨p6, o6, none⟩) M e6) (S + l_) ((k : Int) + 1)) a → Below w.heap.size w w' → K a w') : EC Try.prog 277 floop (Exit.then K Q) (fS (.slice (some ⟨p1, o1, none⟩) M e1) (.slice (some ⟨p2, o2, none⟩) M e2) (.slice (some ⟨p3, o3, none⟩) M e3) (.slice (some ⟨p4, o4, none⟩) M e4) (.slice (some ⟨p5, o5, none⟩) M e5) (.slice (some ⟨p6, o6, none⟩) M e6) S k) wr := by
  conv => arg 3; whnf
  refine EC.seq ?_
  refine EC.seq ?_
  refine EC.region ?_
  refine EL.val (x_move rfl) rfl ?_
  refine EL.val (x_move rfl) rfl ?_
  refine EL.val (ln_ints rfl) rfl ?_
  refine EL.val (x_lss rfl rfl (by first | assumption | exact decide_eq_true (by omega))) rfl ?_
  refine EL.nil ?_
  refine EX.seq ?_
  refine EC.yes rfl ?_
  refine EC.skip ?_
  refine EX.seq ?_
  refine EC.seq ?_
  refine EC.block ?_
  refine EC.seq ?_
  refine EC.seq ?_
  refine EC.regionQ (by kernel_rfl) (by kernel_rfl) ?_
  refine EQ.val (fun _ hw => (x_move rfl)) rfl ?_
  refine EQ.val (fun _ hw => (x_move rfl)) rfl ?_
  refine EQ.val (fun _ hw => (ix_ints rfl rfl hlt)) rfl ?_
  refine EQ.val (fun _ hw => (ld_int rfl (below_load hw (below_load hbk c4)))) rfl ?_
  refine EQ.val (fun _ hw => (x_move rfl)) rfl ?_
  refine EQ.val (fun _ hw => (x_move rfl)) rfl ?_
  refine EQ.val (fun _ hw => (ix_ints rfl rfl hlt)) rfl ?_
  refine EQ.val (fun _ hw => (ld_int rfl (below_load hw (below_load hbk c3)))) rfl ?_
  refine EQ.val (fun _ hw => (x_gtr rfl rfl (by first | assumption | exact decide_eq_false (by omega)))) rfl ?_
  refine EQ.val (fun _ hw => (x_move rfl)) rfl ?_
  refine EQ.valg rfl rfl (fun _ hw => (x_move rfl)) rfl ?_
  refine EQ.valg rfl rfl (fun _ hw => (x_move rfl)) rfl ?_
  refine EQ.valg rfl rfl (fun _ hw => (ix_ints rfl rfl hlt)) rfl ?_
  refine EQ.valg rfl rfl (fun _ hw => (ld_int rfl (below_load hw (below_load hbk c4)))) rfl ?_
  refine EQ.valg rfl rfl (fun _ hw => (x_neg rfl w1)) rfl ?_
  refine EQ.valg rfl rfl (fun _ hw => (x_move rfl)) rfl ?_
  refine EQ.valg rfl rfl (fun _ hw => (x_move rfl)) rfl ?_
  refine EQ.valg rfl rfl (fun _ hw => (ix_ints rfl rfl hlt)) rfl ?_
  refine EQ.valg rfl rfl (fun _ hw => (ld_int rfl (below_load hw (below_load hbk c1)))) rfl ?_
  refine EQ.valg rfl rfl (fun _ hw => (x_gtr rfl rfl (by first | assumption | exact decide_eq_false (by omega)))) rfl ?_
  refine EQ.val (fun _ hw => (x_pick_f rfl rfl)) rfl ?_
  refine EQ.val (fun _ hw => (x_move rfl)) rfl ?_
  refine EQ.valg rfl rfl (fun _ hw => (x_move rfl)) rfl ?_
  refine EQ.valg rfl rfl (fun _ hw => (x_move rfl)) rfl ?_
  refine EQ.valg rfl rfl (fun _ hw => (ix_ints rfl rfl hlt)) rfl ?_
  refine EQ.valg rfl rfl (fun _ hw => (ld_int rfl (below_load hw (below_load hbk c5)))) rfl ?_
  refine EQ.valg rfl rfl (fun _ hw => (x_move rfl)) rfl ?_
  refine EQ.valg rfl rfl (fun _ hw => (x_move rfl)) rfl ?_
  refine EQ.valg rfl rfl (fun _ hw => (ix_ints rfl rfl hlt)) rfl ?_
  refine EQ.valg rfl rfl (fun _ hw => (ld_int rfl (below_load hw (below_load hbk c1)))) rfl ?_
  refine EQ.valg rfl rfl (fun _ hw => (x_add rfl rfl w2)) rfl ?_
  refine EQ.valg rfl rfl (fun _ hw => (x_move rfl)) rfl ?_
  refine EQ.valg rfl rfl (fun _ hw => (x_move rfl)) rfl ?_
  refine EQ.valg rfl rfl (fun _ hw => (ix_ints rfl rfl hlt)) rfl ?_
  refine EQ.valg rfl rfl (fun _ hw => (ld_int rfl (below_load hw (below_load hbk c6)))) rfl ?_
  refine EQ.valg rfl rfl (fun _ hw => (x_neq rfl rfl (by first | assumption | exact decide_eq_false (by omega)))) rfl ?_
  refine EQ.val (fun _ hw => (x_pick_f rfl rfl)) rfl ?_
  refine EQ.val (fun _ hw => (x_move rfl)) rfl ?_
  refine EQ.valg rfl rfl (fun _ hw => (x_move rfl)) rfl ?_
  refine EQ.valg rfl rfl (fun _ hw => (x_move rfl)) rfl ?_
  refine EQ.valg rfl rfl (fun _ hw => (ix_ints rfl rfl hlt)) rfl ?_
  refine EQ.valg rfl rfl (fun _ hw => (ld_int rfl (below_load hw (below_load hbk c2)))) rfl ?_
  refine EQ.valg rfl rfl (fun _ hw => (x_eql rfl rfl (by first | assumption | exact decide_eq_false (by omega)))) rfl ?_
  refine EQ.valg rfl rfl (fun _ hw => (x_move rfl)) rfl ?_
  refine EQ.skip rfl rfl rfl rfl ?_
  refine EQ.skip rfl rfl rfl rfl ?_
  refine EQ.skip rfl rfl rfl rfl ?_
  refine EQ.skip rfl rfl rfl rfl ?_
  refine EQ.skip rfl rfl rfl rfl ?_
  refine EQ.valg rfl rfl (fun _ hw => (x_pick_f rfl rfl)) rfl ?_
  refine EQ.val (fun _ hw => (x_pick_f rfl rfl)) rfl ?_
  refine EQ.val (fun _ hw => (x_move rfl)) rfl ?_
  refine EQ.valg rfl rfl (fun _ hw => (x_move rfl)) rfl ?_
  refine EQ.valg rfl rfl (fun _ hw => (x_move rfl)) rfl ?_
  refine EQ.valg rfl rfl (fun _ hw => (ix_ints rfl rfl hlt)) rfl ?_
  refine EQ.valg rfl rfl (fun _ hw => (ld_int rfl (below_load hw (below_load hbk c4)))) rfl ?_
  refine EQ.valg rfl rfl (fun _ hw => (x_gtr rfl rfl (by first | assumption | exact decide_eq_false (by omega)))) rfl ?_
  refine EQ.valg rfl rfl (fun _ hw => (x_move rfl)) rfl ?_
  refine EQ.skip rfl rfl rfl rfl ?_
  refine EQ.skip rfl rfl rfl rfl ?_
  refine EQ.skip rfl rfl rfl rfl ?_
  refine EQ.skip rfl rfl rfl rfl ?_
  refine EQ.skip rfl rfl rfl rfl ?_
  refine EQ.skip rfl rfl rfl rfl ?_
  refine EQ.skip rfl rfl rfl rfl ?_
  refine EQ.skip rfl rfl rfl rfl ?_
  refine EQ.skip rfl rfl rfl rfl ?_
  refine EQ.valg rfl rfl (fun _ hw => (x_pick_f rfl rfl)) rfl ?_
  refine EQ.val (fun _ hw => (x_pick_f rfl rfl)) rfl ?_
  refine EQ.val (fun _ hw => (x_move rfl)) rfl ?_
  refine EQ.valg rfl rfl (fun _ hw => (x_move rfl)) rfl ?_
  refine EQ.valg rfl rfl (fun _ hw => (x_move rfl)) rfl ?_
  refine EQ.valg rfl rfl (fun _ hw => (ix_ints rfl rfl hlt)) rfl ?_
  refine EQ.valg rfl rfl (fun _ hw => (ld_int rfl (below_load hw (below_load hbk c4)))) rfl ?_
  refine EQ.valg rfl rfl (fun _ hw => (x_lss rfl rfl (by first | assumption | exact decide_eq_false (by omega)))) rfl ?_
  refine EQ.valg rfl rfl (fun _ hw => (x_move rfl)) rfl ?_
  refine EQ.skip rfl rfl rfl rfl ?_
  refine EQ.skip rfl rfl rfl rfl ?_
  refine EQ.skip rfl rfl rfl rfl ?_
  refine EQ.skip rfl rfl rfl rfl ?_
  refine EQ.skip rfl rfl rfl rfl ?_
  refine EQ.skip rfl rfl rfl rfl ?_
  refine EQ.skip rfl rfl rfl rfl ?_
  refine EQ.skip rfl rfl rfl rfl ?_
  refine EQ.skip rfl rfl rfl rfl ?_
  refine EQ.valg rfl rfl (fun _ hw => (x_pick_f rfl rfl)) rfl ?_
  refine EQ.val (fun _ hw => (x_pick_f rfl rfl)) rfl ?_
  refine EQ.fin (fun w_ hw_ => ?_)
  have hbk2 := Below.on hbk hw_ hbk.size
  refine EX.seq ?_
  refine EC.no rfl ?_
  refine EC.skip ?_
  refine EX.seq ?_
  refine EC.region ?_
  refine EL.val (x_move rfl) rfl ?_
  refine EL.val (x_move rfl) rfl ?_
  refine EL.val (x_move rfl) rfl ?_
  refine EL.val (ix_ints rfl rfl hlt) rfl ?_
  refine EL.val (ld_int rfl (below_load hbk2 c4)) rfl ?_
  refine EL.val (x_add rfl rfl w3) rfl ?_
  refine EL.val (x_assign rfl) rfl ?_
  refine EL.nil ?_
  refine EX.blk ?_
  refine EX.seq ?_
  refine EC.region ?_
  refine EL.val (x_move rfl) rfl ?_
  refine EL.val (x_add rfl rfl (by first | assumption | exact IntWalk.i64_in _ ⟨by omega, by omega⟩)) rfl ?_
  refine EL.val (x_assign rfl) rfl ?_
  refine EL.nil ?_
  intro a ha
  refine hK a _ (ha.sub ?_) hbk2
  unfold fS
  repeat refine Sub.ins ?_ rfl
  exact sub_args0
set_option maxRecDepth 100000 in
theorem floop_p3 (K : Act → World → Prop) (hlt : k < M) (hM : M ≤ 12) (hbk : Below w.heap.size w wr)
    (c1 : w.cell? ⟨p1, o1 + k, none⟩ = some (.int .i64 la_)) (c2 : w.cell? ⟨p2, o2 + k, none⟩ = some (.int .i64 b_)) (c3 : w.cell? ⟨p3, o3 + k, none⟩ = some (.int .i64 c_)) (c4 : w.cell? ⟨p4, o4 + k, none⟩ = some (.int .i64 l_)) (c5 : w.cell? ⟨p5, o5 + k, none⟩ = some (.int .i64 m_)) (c6 : w.cell? ⟨p6, o6 + k, none⟩ = some (.int .i64 s_))
    (q1 : l_ ≤ c_) (q2 : -l_ ≤ la_) (q3 : m_ + la_ = s_) (w1 : IntKind.i64.wrap (-l_) = -l_) (w2 : IntKind.i64.wrap (m_ + la_) = m_ + la_) (w3 : IntKind.i64.wrap (S + l_) = S + l_) (j1 : b_ ≠ 0) (j2 : l_ < 0) (j4 : m_ ≤ l_)
    (hK : ∀ a w', Env 277 (fS (.slice (some ⟨p1, o1, none⟩) M e1) (.slice (some ⟨p2, o2, none⟩) M e2) (.slice (some ⟨p3, o3, none⟩) M e3) (.slice (some ⟨p4, o4, none⟩) M e4) (.slice (some ⟨p5, o5, none⟩) M e5) (.slice (some ⟨p6, o6, none⟩) M e6) (S + l_) ((k : Int) + 1)) a → Below w.heap.size w w' → K a w') : EC Try.prog 277 floop (Exit.then K Q) (fS (.slice (some ⟨p1, o1, none⟩) M e1) (.slice (some ⟨p2, o2, none⟩) M e2) (.slice (some ⟨p3, o3, none⟩) M e3) (.slice (some ⟨p4, o4, none⟩) M e4) (.slice (some ⟨p5, o5, none⟩) M e5) (.slice (some ⟨p6, o6, none⟩) M e6) S k) wr := by
  conv => arg 3; whnf
  refine EC.seq ?_
  refine EC.seq ?_
  refine EC.region ?_
  refine EL.val (x_move rfl) rfl ?_
  refine EL.val (x_move rfl) rfl ?_
  refine EL.val (ln_ints rfl) rfl ?_
  refine EL.val (x_lss rfl rfl (by first | assumption | exact decide_eq_true (by omega))) rfl ?_
  refine EL.nil ?_
  refine EX.seq ?_
  refine EC.yes rfl ?_
  refine EC.skip ?_
  refine EX.seq ?_
  refine EC.seq ?_
  refine EC.block ?_
  refine EC.seq ?_
  refine EC.seq ?_
  refine EC.regionQ (by kernel_rfl) (by kernel_rfl) ?_
  refine EQ.val (fun _ hw => (x_move rfl)) rfl ?_
  refine EQ.val (fun _ hw => (x_move rfl)) rfl ?_
  refine EQ.val (fun _ hw => (ix_ints rfl rfl hlt)) rfl ?_
  refine EQ.val (fun _ hw => (ld_int rfl (below_load hw (below_load hbk c4)))) rfl ?_
  refine EQ.val (fun _ hw => (x_move rfl)) rfl ?_
  refine EQ.val (fun _ hw => (x_move rfl)) rfl ?_
  refine EQ.val (fun _ hw => (ix_ints rfl rfl hlt)) rfl ?_
  refine EQ.val (fun _ hw => (ld_int rfl (below_load hw (below_load hbk c3)))) rfl ?_
  refine EQ.val (fun _ hw => (x_gtr rfl rfl (by first | assumption | exact decide_eq_false (by omega)))) rfl ?_
  refine EQ.val (fun _ hw => (x_move rfl)) rfl ?_
  refine EQ.valg rfl rfl (fun _ hw => (x_move rfl)) rfl ?_
  refine EQ.valg rfl rfl (fun _ hw => (x_move rfl)) rfl ?_
  refine EQ.valg rfl rfl (fun _ hw => (ix_ints rfl rfl hlt)) rfl ?_
  refine EQ.valg rfl rfl (fun _ hw => (ld_int rfl (below_load hw (below_load hbk c4)))) rfl ?_
  refine EQ.valg rfl rfl (fun _ hw => (x_neg rfl w1)) rfl ?_
  refine EQ.valg rfl rfl (fun _ hw => (x_move rfl)) rfl ?_
  refine EQ.valg rfl rfl (fun _ hw => (x_move rfl)) rfl ?_
  refine EQ.valg rfl rfl (fun _ hw => (ix_ints rfl rfl hlt)) rfl ?_
  refine EQ.valg rfl rfl (fun _ hw => (ld_int rfl (below_load hw (below_load hbk c1)))) rfl ?_
  refine EQ.valg rfl rfl (fun _ hw => (x_gtr rfl rfl (by first | assumption | exact decide_eq_false (by omega)))) rfl ?_
  refine EQ.val (fun _ hw => (x_pick_f rfl rfl)) rfl ?_
  refine EQ.val (fun _ hw => (x_move rfl)) rfl ?_
  refine EQ.valg rfl rfl (fun _ hw => (x_move rfl)) rfl ?_
  refine EQ.valg rfl rfl (fun _ hw => (x_move rfl)) rfl ?_
  refine EQ.valg rfl rfl (fun _ hw => (ix_ints rfl rfl hlt)) rfl ?_
  refine EQ.valg rfl rfl (fun _ hw => (ld_int rfl (below_load hw (below_load hbk c5)))) rfl ?_
  refine EQ.valg rfl rfl (fun _ hw => (x_move rfl)) rfl ?_
  refine EQ.valg rfl rfl (fun _ hw => (x_move rfl)) rfl ?_
  refine EQ.valg rfl rfl (fun _ hw => (ix_ints rfl rfl hlt)) rfl ?_
  refine EQ.valg rfl rfl (fun _ hw => (ld_int rfl (below_load hw (below_load hbk c1)))) rfl ?_
  refine EQ.valg rfl rfl (fun _ hw => (x_add rfl rfl w2)) rfl ?_
  refine EQ.valg rfl rfl (fun _ hw => (x_move rfl)) rfl ?_
  refine EQ.valg rfl rfl (fun _ hw => (x_move rfl)) rfl ?_
  refine EQ.valg rfl rfl (fun _ hw => (ix_ints rfl rfl hlt)) rfl ?_
  refine EQ.valg rfl rfl (fun _ hw => (ld_int rfl (below_load hw (below_load hbk c6)))) rfl ?_
  refine EQ.valg rfl rfl (fun _ hw => (x_neq rfl rfl (by first | assumption | exact decide_eq_false (by omega)))) rfl ?_
  refine EQ.val (fun _ hw => (x_pick_f rfl rfl)) rfl ?_
  refine EQ.val (fun _ hw => (x_move rfl)) rfl ?_
  refine EQ.valg rfl rfl (fun _ hw => (x_move rfl)) rfl ?_
  refine EQ.valg rfl rfl (fun _ hw => (x_move rfl)) rfl ?_
  refine EQ.valg rfl rfl (fun _ hw => (ix_ints rfl rfl hlt)) rfl ?_
  refine EQ.valg rfl rfl (fun _ hw => (ld_int rfl (below_load hw (below_load hbk c2)))) rfl ?_
  refine EQ.valg rfl rfl (fun _ hw => (x_eql rfl rfl (by first | assumption | exact decide_eq_false (by omega)))) rfl ?_
  refine EQ.valg rfl rfl (fun _ hw => (x_move rfl)) rfl ?_
  refine EQ.skip rfl rfl rfl rfl ?_
  refine EQ.skip rfl rfl rfl rfl ?_
  refine EQ.skip rfl rfl rfl rfl ?_
  refine EQ.skip rfl rfl rfl rfl ?_
  refine EQ.skip rfl rfl rfl rfl ?_
  refine EQ.valg rfl rfl (fun _ hw => (x_pick_f rfl rfl)) rfl ?_
  refine EQ.val (fun _ hw => (x_pick_f rfl rfl)) rfl ?_
  refine EQ.val (fun _ hw => (x_move rfl)) rfl ?_
  refine EQ.valg rfl rfl (fun _ hw => (x_move rfl)) rfl ?_
  refine EQ.valg rfl rfl (fun _ hw => (x_move rfl)) rfl ?_
  refine EQ.valg rfl rfl (fun _ hw => (ix_ints rfl rfl hlt)) rfl ?_
  refine EQ.valg rfl rfl (fun _ hw => (ld_int rfl (below_load hw (below_load hbk c4)))) rfl ?_
  refine EQ.valg rfl rfl (fun _ hw => (x_gtr rfl rfl (by first | assumption | exact decide_eq_false (by omega)))) rfl ?_
  refine EQ.valg rfl rfl (fun _ hw => (x_move rfl)) rfl ?_
  refine EQ.skip rfl rfl rfl rfl ?_
  refine EQ.skip rfl rfl rfl rfl ?_
  refine EQ.skip rfl rfl rfl rfl ?_
  refine EQ.skip rfl rfl rfl rfl ?_
  refine EQ.skip rfl rfl rfl rfl ?_
  refine EQ.skip rfl rfl rfl rfl ?_
  refine EQ.skip rfl rfl rfl rfl ?_
  refine EQ.skip rfl rfl rfl rfl ?_
  refine EQ.skip rfl rfl rfl rfl ?_
  refine EQ.valg rfl rfl (fun _ hw => (x_pick_f rfl rfl)) rfl ?_
  refine EQ.val (fun _ hw => (x_pick_f rfl rfl)) rfl ?_
  refine EQ.val (fun _ hw => (x_move rfl)) rfl ?_
  refine EQ.valg rfl rfl (fun _ hw => (x_move rfl)) rfl ?_
  refine EQ.valg rfl rfl (fun _ hw => (x_move rfl)) rfl ?_
  refine EQ.valg rfl rfl (fun _ hw => (ix_ints rfl rfl hlt)) rfl ?_
  refine EQ.valg rfl rfl (fun _ hw => (ld_int rfl (below_load hw (below_load hbk c4)))) rfl ?_
  refine EQ.valg rfl rfl (fun _ hw => (x_lss rfl rfl (by first | assumption | exact decide_eq_true (by omega)))) rfl ?_
  refine EQ.valg rfl rfl (fun _ hw => (x_move rfl)) rfl ?_
  refine EQ.valg rfl rfl (fun _ hw => (x_move rfl)) rfl ?_
  refine EQ.valg rfl rfl (fun _ hw => (x_move rfl)) rfl ?_
  refine EQ.valg rfl rfl (fun _ hw => (ix_ints rfl rfl hlt)) rfl ?_
  refine EQ.valg rfl rfl (fun _ hw => (ld_int rfl (below_load hw (below_load hbk c5)))) rfl ?_
  refine EQ.valg rfl rfl (fun _ hw => (x_move rfl)) rfl ?_
  refine EQ.valg rfl rfl (fun _ hw => (x_move rfl)) rfl ?_
  refine EQ.valg rfl rfl (fun _ hw => (ix_ints rfl rfl hlt)) rfl ?_
  refine EQ.valg rfl rfl (fun _ hw => (ld_int rfl (below_load hw (below_load hbk c4)))) rfl ?_
  refine EQ.valg rfl rfl (fun _ hw => (x_gtr rfl rfl (by first | assumption | exact decide_eq_false (by omega)))) rfl ?_
  refine EQ.valg rfl rfl (fun _ hw => (x_pick_t rfl rfl)) rfl ?_
  refine EQ.val (fun _ hw => (x_pick_f rfl rfl)) rfl ?_
  refine EQ.fin (fun w_ hw_ => ?_)
  have hbk2 := Below.on hbk hw_ hbk.size
  refine EX.seq ?_
  refine EC.no rfl ?_
  refine EC.skip ?_
  refine EX.seq ?_
  refine EC.region ?_
  refine EL.val (x_move rfl) rfl ?_
  refine EL.val (x_move rfl) rfl ?_
  refine EL.val (x_move rfl) rfl ?_
  refine EL.val (ix_ints rfl rfl hlt) rfl ?_
  refine EL.val (ld_int rfl (below_load hbk2 c4)) rfl ?_
  refine EL.val (x_add rfl rfl w3) rfl ?_
  refine EL.val (x_assign rfl) rfl ?_
  refine EL.nil ?_
  refine EX.blk ?_
  refine EX.seq ?_
  refine EC.region ?_
  refine EL.val (x_move rfl) rfl ?_
  refine EL.val (x_add rfl rfl (by first | assumption | exact IntWalk.i64_in _ ⟨by omega, by omega⟩)) rfl ?_
  refine EL.val (x_assign rfl) rfl ?_
  refine EL.nil ?_
  intro a ha
  refine hK a _ (ha.sub ?_) hbk2
  unfold fS
  repeat refine Sub.ins ?_ rfl
  exact sub_args0
end
/-- what holds of one party -/
structure Party (la_ b_ c_ l_ m_ s_ : Int) : Prop where
  lim : l_ ≤ c_
  loss : -l_ ≤ la_
  bear : m_ + la_ = s_
  free : b_ = 0 → l_ ≤ 0
  up : 0 < l_ → l_ ≤ m_
  down : l_ < 0 → m_ ≤ l_
  la : 0 ≤ la_ ∧ la_ ≤ 4294967295
  ll : 0 ≤ c_ ∧ c_ ≤ 4294967295
  ss : 0 ≤ s_ ∧ s_ ≤ 4294967295 * 20
set_option maxRecDepth 100000 in
theorem faults_loop {Q : Exit → Act → World → Prop} {w : World} {la b ll LL MM BS : List Int} {M : Nat} {A1 A2 A3 A4 A5 A6 : Option Addr} {e1 e2 e3 e4 e5 e6 : Nat} (hM1 : 1 ≤ M) (hM : M ≤ 12)
    (r1 : Rd w w.heap.size 1 (.slice A1 M e1) M (ints la)) (r2 : Rd w w.heap.size 1 (.slice A2 M e2) M (ints b)) (r3 : Rd w w.heap.size 1 (.slice A3 M e3) M (ints ll))
    (r4 : Rd w w.heap.size 1 (.slice A4 M e4) M (ints LL)) (r5 : Rd w w.heap.size 1 (.slice A5 M e5) M (ints MM)) (r6 : Rd w w.heap.size 1 (.slice A6 M e6) M (ints BS))
    (hp : ∀ k, k < M → Party (at0 la k) (at0 b k) (at0 ll k) (at0 LL k) (at0 MM k) (at0 BS k)) (hS : ∀ k, k ≤ M → -(12 * 4294967295) ≤ (LL.take k).sum ∧ (LL.take k).sum ≤ 12 * 4294967295) (hsum : ∀ k, k < M → (LL.take (k + 1)).sum = (LL.take k).sum + at0 LL k)
    (hex : ∀ a w', Env 277 (fS (.slice A1 M e1) (.slice A2 M e2) (.slice A3 M e3) (.slice A4 M e4) (.slice A5 M e5) (.slice A6 M e6) (LL.take M).sum M) a → Below w.heap.size w w' → Q (.exit 2) a w') :
    EC Try.prog 277 (.loop floop) Q (fS (.slice A1 M e1) (.slice A2 M e2) (.slice A3 M e3) (.slice A4 M e4) (.slice A5 M e5) (.slice A6 M e6) 0 0) w := by
  have hl : ∀ (l : List Int) (v : Value), Rd w w.heap.size 1 v M (ints l) → l.length = M := fun l v h => by have := h.len; simp [ints] at this; omega
  have cell : ∀ (l : List Int), l.length = M → ∀ k, k < M → (ints l)[k]? = some (.int .i64 (at0 l k)) := fun l h k hk => by rw [← at0_get (by omega : k < l.length)]; simp [ints, h, hk]
  have l1 := cell la (hl _ _ r1)
  have l2 := cell b (hl _ _ r2)
  have l3 := cell ll (hl _ _ r3)
  have l4 := cell LL (hl _ _ r4)
  have l5 := cell MM (hl _ _ r5)
  have l6 := cell BS (hl _ _ r6)
  obtain ⟨p1, o1, rfl, _, g1⟩ := r1.at_ (by omega)
  obtain ⟨p2, o2, rfl, _, g2⟩ := r2.at_ (by omega)
  obtain ⟨p3, o3, rfl, _, g3⟩ := r3.at_ (by omega)
  obtain ⟨p4, o4, rfl, _, g4⟩ := r4.at_ (by omega)
  obtain ⟨p5, o5, rfl, _, g5⟩ := r5.at_ (by omega)
  obtain ⟨p6, o6, rfl, _, g6⟩ := r6.at_ (by omega)
  refine EC.loop (fun k : Nat => fS _ _ _ _ _ _ (LL.take k).sum k) (fun k wr => k ≤ M ∧ Below w.heap.size w wr) (fun k => M - k) 0 (Sub.refl _) ⟨Nat.zero_le _, Below.refl _ _⟩ ?_
  rintro k wr ⟨hk, hbk⟩
  by_cases hlt : k < M
  · have P := hp k hlt
    have hSk := hS k hk
    have e := hsum k hlt
    have hla := P.la
    have hll := P.ll
    have hss := P.ss
    have q1 := P.lim
    have q2 := P.loss
    have q3 := P.bear
    have q4 := P.free
    have q5 := P.up
    have q6 := P.down
    have c1 := g1 k _ (l1 k hlt)
    have c2 := g2 k _ (l2 k hlt)
    have c3 := g3 k _ (l3 k hlt)
    have c4 := g4 k _ (l4 k hlt)
    have c5 := g5 k _ (l5 k hlt)
    have c6 := g6 k _ (l6 k hlt)
    have w1 : IntKind.i64.wrap (-at0 LL k) = -at0 LL k := IntWalk.i64_in _ ⟨by omega, by omega⟩
    have w2 : IntKind.i64.wrap (at0 MM k + at0 la k) = at0 MM k + at0 la k := IntWalk.i64_in _ ⟨by omega, by omega⟩
    have w3 : IntKind.i64.wrap ((LL.take k).sum + at0 LL k) = (LL.take k).sum + at0 LL k := IntWalk.i64_in _ ⟨by omega, by omega⟩
    have fin : ∀ a w', Env 277 (fS (.slice (some ⟨p1, o1, none⟩) M e1) (.slice (some ⟨p2, o2, none⟩) M e2) (.slice (some ⟨p3, o3, none⟩) M e3) (.slice (some ⟨p4, o4, none⟩) M e4) (.slice (some ⟨p5, o5, none⟩) M e5) (.slice (some ⟨p6, o6, none⟩) M e6) ((LL.take k).sum + at0 LL k) ((k : Int) + 1)) a → Below w.heap.size w w' →
        ∃ i', Env 277 (fS (.slice (some ⟨p1, o1, none⟩) M e1) (.slice (some ⟨p2, o2, none⟩) M e2) (.slice (some ⟨p3, o3, none⟩) M e3) (.slice (some ⟨p4, o4, none⟩) M e4) (.slice (some ⟨p5, o5, none⟩) M e5) (.slice (some ⟨p6, o6, none⟩) M e6) (LL.take i').sum (i' : Nat)) a ∧ (i' ≤ M ∧ Below w.heap.size w w') ∧ M - i' < M - k := fun a w' ha hb => ⟨k + 1, by rw [e]; exact ha, ⟨by omega, hb⟩, by omega⟩
    clear g1 g2 g3 g4 g5 g6 l1 l2 l3 l4 l5 l6 hp hS hsum hex r1 r2 r3 r4 r5 r6 hl cell
    have hc : (at0 b k = 0 ∧ at0 LL k = 0) ∨ (at0 b k = 0 ∧ at0 LL k < 0) ∨ (at0 b k ≠ 0 ∧ 0 < at0 LL k) ∨ (at0 b k ≠ 0 ∧ at0 LL k = 0) ∨ (at0 b k ≠ 0 ∧ at0 LL k < 0) := by omega
    rcases hc with ⟨j1, j2⟩ | ⟨j1, j2⟩ | ⟨j1, j2⟩ | ⟨j1, j2⟩ | ⟨j1, j2⟩
    · exact floop_z1 _ hlt hM hbk c1 c2 c3 c4 c5 c6 q1 q2 q3 w1 w2 w3 j1 j2 fin
    · exact floop_z2 _ hlt hM hbk c1 c2 c3 c4 c5 c6 q1 q2 q3 w1 w2 w3 j1 j2 (q6 j2) fin
    · exact floop_p1 _ hlt hM hbk c1 c2 c3 c4 c5 c6 q1 q2 q3 w1 w2 w3 j1 j2 (q5 j2) fin
    · exact floop_p2 _ hlt hM hbk c1 c2 c3 c4 c5 c6 q1 q2 q3 w1 w2 w3 j1 j2 fin
    · exact floop_p3 _ hlt hM hbk c1 c2 c3 c4 c5 c6 q1 q2 q3 w1 w2 w3 j1 j2 (q6 j2) fin
  · obtain rfl : k = M := by omega
    conv => arg 3; whnf
    refine EC.seq ?_
    refine EC.seq ?_
    refine EC.region ?_
    refine EL.val (x_move rfl) rfl ?_
    refine EL.val (x_move rfl) rfl ?_
    refine EL.val (ln_ints rfl) rfl ?_
    refine EL.val (x_lss rfl rfl (by first | assumption | exact decide_eq_false (by omega))) rfl ?_
    refine EL.nil ?_
    refine EX.seq ?_
    refine EC.no rfl ?_
    refine EC.exit ?_
    refine EX.seq_exit ?_
    refine EX.seq_exit ?_
    intro a ha
    refine hex a _ (ha.sub ?_) hbk
    unfold fS
    repeat refine Sub.ins ?_ rfl
    exact sub_args0
end Go.Proofs.Ytkbfdgacnoadlaa
