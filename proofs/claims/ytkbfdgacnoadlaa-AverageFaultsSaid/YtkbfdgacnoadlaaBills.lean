/- A map from payers to bills that the call itself has made: what it says, looking up, storing. -/
import Derived.Test.YtkbfdgacnoadlaaRows
import Derived.Test.YtkbfdgacnoadlaaBase4
import Derived.Maps.OwnOps
import Derived.Maps.Views
import Derived.Carry
namespace Go.Proofs.Ytkbfdgacnoadlaa
open Go.RowKit Go.Maps

def RB2 (x y : Value) : Option (DataW Unit × List MemPlace) :=
  match x, y with
  | .int k a, .int k' b => if k = .i64 ∧ k' = .i64 then some (.agg [.lit (.int .i64 a), .lit (.int .i64 b)], []) else none
  | _, _ => none
def RB (v : Value) : Option (DataW Unit × List MemPlace) :=
  match v with
  | .agg cs => match cs.toList with
    | [x, y] => RB2 x y
    | _ => none
  | _ => none
theorem RB_mk (a b : Int) : RB (.agg #[.int .i64 a, .int .i64 b]) = some (.agg [.lit (.int .i64 a), .lit (.int .i64 b)], []) := rfl
theorem RB2_inv {x y : Value} {a b : Int} {ps : List MemPlace} (h : RB2 x y = some (.agg [.lit (.int .i64 a), .lit (.int .i64 b)], ps)) : x = .int .i64 a ∧ y = .int .i64 b := by
  unfold RB2 at h
  split at h
  · split at h
    · rename_i hk
      obtain ⟨rfl, rfl⟩ := hk
      simp at h
      simp [h]
    · cases h
  · cases h
theorem RB_inv {v : Value} {a b : Int} {ps : List MemPlace} (h : RB v = some (.agg [.lit (.int .i64 a), .lit (.int .i64 b)], ps)) : v = .agg #[.int .i64 a, .int .i64 b] := by
  unfold RB at h
  split at h
  · rename_i cs
    split at h
    · rename_i x y hc
      obtain ⟨rfl, rfl⟩ := RB2_inv h
      congr 1
      apply Array.toList_inj.1
      rw [hc]
    · cases h
  · cases h

def billD (x : Int × Int) : DataW Unit := .agg [.lit (.int .i64 x.1), .lit (.int .i64 x.2)]
/-- block b is a map of at most n payers whose bills are f -/
def BillsAt (w : World) (b n : Nat) (f : Nat → Int × Int) : Prop :=
  ∃ D : DataW Unit, w.ownsMap Try.prog 3 RB b n D ∧ IsMap D ∧ ∀ i : Nat, i < 64 → D.atKey (.int .i64 i) (billD (0, 0)) = billD (f i)

theorem small_wf {i : Nat} (h : i < 64) : (Lit.int .i64 (i : Int)).wf = true := WalkArith.wf_i64 (by omega)
theorem BillsAt.made (w : World) : BillsAt (w.alloc (.map #[] 0)) w.heap.size 0 fun _ => (0, 0) :=
  ⟨.map [], World.ownsMap_made _ _ _ _, isMap_empty, fun _ _ => rfl⟩
theorem BillsAt.kept {w w' : World} {b n : Nat} {f : Nat → Int × Int} {row : Option Nat} (h : BillsAt w b n f) (hg : w.grownBy w' row) (hne : some b ≠ row) : BillsAt w' b n f := by
  obtain ⟨D, h1, h2, h3⟩ := h
  exact ⟨D, h1.kept hg hne, h2, h3⟩
theorem BillsAt.lt {w : World} {b n : Nat} {f : Nat → Int × Int} (h : BillsAt w b n f) : b < w.heap.size := by
  obtain ⟨D, h1, _⟩ := h
  exact h1.lt
theorem BillsAt.below {w w' : World} {b n : Nat} {f : Nat → Int × Int} (h : BillsAt w b n f) (hb : Below w.heap.size w w') : BillsAt w' b n f :=
  h.kept (row := none) ⟨hb.os, hb.tape, hb.output, hb.size, fun k hk _ => hb.block k hk⟩ (by simp)

theorem bill_zero (w : World) : (zeroValue 108).run Try.prog w = .ok (.agg #[.int .i64 0, .int .i64 0]) w := by kernel_rfl

theorem wpList_look_bill (w : World) {ops : Array Oper} {rest : List Oper} {o : Oper} {a : Act} {Q : Exit → Act → World → Prop}
    (hg : o.guard = none) (m x : Operand) (hop : o.op = Op.lookup 106 m x false) (b n : Nat) (f : Nat → Int × Int)
    (hm : a.eval m = .map (some b)) (hb : BillsAt w b n f) (i : Nat) (hi : i < 64) (hx : a.eval x = .int .i64 i)
    (hK : wpList Try.prog ops Q rest (a.put o.dst (.agg #[.int .i64 (f i).1, .int .i64 (f i).2])) w) :
    wpList Try.prog ops Q (o :: rest) a w := by
  refine wpList_plain hg fun K' hK' => ?_
  obtain ⟨D, h1, h2, h3⟩ := hb
  obtain ⟨v, ps, hrun, hv⟩ := h1.lookup (int_keyed Try.underlying3) Try.underlying106 (bill_zero w) (RB_mk 0 0) (keyOf_int_mk Try.underlying3 (small_wf hi))
  have h4 := h3 i hi
  unfold billD at h4
  rw [h4] at hv
  obtain rfl := RB_inv hv
  unfold Oper.wp
  simp [execOp, hop, hm, hx, hrun, Result.andThen]
  exact hK' _ _ hK

def putF (f : Nat → Int × Int) (i : Nat) (x : Int × Int) : Nat → Int × Int := fun j => if j = i then x else f j

theorem wpList_put_bill (w : World) {ops : Array Oper} {rest : List Oper} {o : Oper} {a : Act} {Q : Exit → Act → World → Prop}
    (hg : o.guard = none) (m x v : Operand) (hop : o.op = Op.mapUpdate 106 m x v) (b n : Nat) (f : Nat → Int × Int)
    (hm : a.eval m = .map (some b)) (hb : BillsAt w b n f) (hn : n ≤ 1048576) (i : Nat) (hi : i < 64) (hx : a.eval x = .int .i64 i) (y z : Int) (hv : a.eval v = .agg #[.int .i64 y, .int .i64 z])
    (hK : ∀ w', BillsAt w' b (n + 1) (putF f i (y, z)) → w.grownBy w' (some b) → wpList Try.prog ops Q rest (a.put o.dst undef) w') :
    wpList Try.prog ops Q (o :: rest) a w := by
  obtain ⟨D, h1, h2, h3⟩ := hb
  refine wpList_mapUpdate_own w hg m x v 106 hop 3 108 (int_keyed Try.underlying3) Try.underlying106 RB b n D hm h1 (by simp only [maxLen]; omega) _ _ _ hx hv (keyOf_int_mk Try.underlying3 (small_wf hi)) _ _ (RB_mk y z) fun w' h4 h5 => ?_
  refine hK w' ⟨_, h4, h2.put _ _, fun j hj => ?_⟩ h5
  by_cases hji : j = i
  · subst hji
    rw [atKey_put_same h2 (by simp [WideAt.IsKeyLit]), putF, if_pos rfl]
    rfl
  · rw [atKey_put_other (by simp; omega), putF, if_neg hji]
    exact h3 j hj
end Go.Proofs.Ytkbfdgacnoadlaa
