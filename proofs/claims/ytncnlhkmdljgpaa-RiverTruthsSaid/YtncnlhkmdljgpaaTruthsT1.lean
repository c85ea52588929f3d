/- X0, RLift, W7, RLift2, RLift3, RLift4, W1, W12, WayMath, RLift6, W2, W13, W8, W3, Law0, Law1, Law2, MeltMath, W19, W28, RLift7, W30, W24, EndsMath, WaysMath, TruthMath: what RiverTruthsProof needs of them (merged by trimpack.py). -/
import Derived.Deep.Slices
import Derived.Deep.Fields
import Derived.ChangeSame
import Derived.Lib.SmallJoins
import Derived.OpenShut
import Derived.ShutString
import Derived.ChangeOld
import Derived.Test.YtncnlhkmdljgpaaExA
import Derived.Test.YtncnlhkmdljgpaaEA
import Derived.Test.YtncnlhkmdljgpaaBA
import Derived.Test.YtncnlhkmdljgpaaV7
import Derived.Test.YtncnlhkmdljgpaaV16
import Derived.Test.YtncnlhkmdljgpaaV13
import Derived.Test.YtncnlhkmdljgpaaV15
import Derived.Test.YtncnlhkmdljgpaaExB
import Derived.Test.YtncnlhkmdljgpaaExR28
import Derived.Test.YtncnlhkmdljgpaaExR30
import Derived.Test.YtncnlhkmdljgpaaExR32
import Derived.Test.YtncnlhkmdljgpaaV9
import Derived.Test.YtncnlhkmdljgpaaExR29
import Derived.Test.YtncnlhkmdljgpaaExR33
namespace Go.Proofs.Ytncnlhkmdljgpaa
open Go Go.RowKit
theorem own_empty {w : World} {g T base : Nat} (size : Nat) (h : Blk w g T #[]) (hb : base ≤ g) : w.ownsRow base T size (.slice (some ⟨g, 0, none⟩) 0 0) 0 [] :=
  ⟨by simp, .inr ⟨g, 0, #[], rfl, hb, h, Nat.le_refl _, Nat.zero_le _, by simp, by simp⟩⟩
end Go.Proofs.Ytncnlhkmdljgpaa
namespace Go.Proofs.Ytncnlhkmdljgpaa
open Go Go.ChangeShapes Go.WideShapes Go.Deep Go.RowKit Go.Joins
theorem cell_spot {w : World} {x : Addr} {u : Value} (h : w.cell? x = some u) : x.spot = none ∧ x.block < w.heap.size := by
  unfold World.cell? at h
  split at h
  · rename_i c e f hg
    split at h
    · cases h
    · rename_i hs
      refine ⟨by simpa using hs, ?_⟩
      rcases Nat.lt_or_ge x.block w.heap.size with hlt | hge
      · exact hlt
      · rw [Array.getElem?_eq_none hge] at hg; cases hg
  · cases h
section
variable {H : Type} {enc : TypeId × Value → H} {P : Program} {w : World} {base : Nat} {spare : Nat → Bool} {held : Bool}
/-- rows of cells, one behind the other -/
theorem rd_of_cells {b off n c s : Nat} {B : Nat} (row : Nat → List Value) (hlen : ∀ i, (row i).length = s) (hs : 0 < s) (hB : b < B) (hnc : n ≤ c)
    (hcell : ∀ i, i < n → ∀ j u, (row i)[j]? = some u → w.cell? ⟨b, off + (i * s + j), none⟩ = some u) :
    Rd w B s (.slice (some ⟨b, off, none⟩) n c) n ((List.range n).flatMap row) := by
  refine ⟨by rw [flat_len hlen, List.length_range], _, _, rfl, hnc, fun _ => ⟨b, off, rfl, hB, fun q u hu => ?_⟩⟩
  have hq : q < n * s := by
    have := (List.getElem?_eq_some_iff.1 hu).1
    rwa [flat_len hlen, List.length_range] at this
  have hk : q / s < n := by
    rw [Nat.div_lt_iff_lt_mul hs]
    exact hq
  have e : q = q / s * s + q % s := by rw [Nat.mul_comm]; exact (Nat.div_add_mod q s).symm
  have hg := flat_get hlen (List.range n) (q / s) (by simpa using hk) (q % s) (Nat.mod_lt _ hs)
  rw [← e, List.getElem_range] at hg
  rw [hg] at hu
  have := hcell (q / s) hk (q % s) u hu
  rwa [← e] at this
theorem add_lit_more (x : Addr) (n : Nat) (h : x.spot = none) : x.add n = ⟨x.block, x.off + n, none⟩ := by
  obtain ⟨b, o, s⟩ := x
  subst h
  rw [Addr.add_lit]
/-- a slice, opened to its elements -/
theorem rd_list {α : Type} [Inhabited α] {f : α → List Value} {s : Nat} {Good : α → Prop} (hf : ∀ x, (f x).length = s) (hs : 0 < s) {t e : TypeId} {fuel : Nat} {v : Value} {x : DataW H × List MemPlace} (ht : P.underlying t = some (.slice e)) (hC : P.cellsOf e = s)
    (hE : ∀ (fuel : Nat) (cs : List Value) (x : DataW H × List MemPlace), cs.length = s → DataW.trod enc P w base spare held fuel e cs = some x → ∃ y : α, cs = f y ∧ Good y) (h : DataW.trod enc P w base spare held fuel t [v] = some x) :
    ∃ l : List α, Rd w w.heap.size s v l.length (l.flatMap f) ∧ (∀ y ∈ l, Good y) ∧ l.length ≤ maxLen := by
  rcases open_slice ht h with ⟨hcs, _⟩ | ⟨a, len, cap, m, n, D, Pl, hcs, _, hl, hcap, hm, _, hi⟩
  · injection hcs with hcs
    subst hcs
    exact ⟨[], Rd.nil_ _ _ _, by simp, Nat.zero_le _⟩
  · injection hcs with hcs
    subst hcs
    have hcell : ∀ i, i < len → ∃ y : α, (∀ j u, (f y)[j]? = some u → w.cell? (a.add (i * s + j)) = some u) ∧ Good y := by
      intro i hi'
      obtain ⟨cs', hc, ht'⟩ := hi i (by rw [hm]; split <;> omega)
      rw [hC] at hc
      obtain ⟨_, hcl, hat⟩ := World.cells?_some hc
      obtain ⟨y, hy, hg⟩ := hE _ cs' _ hcl ht'
      subst hy
      refine ⟨y, fun j u hu => ?_, hg⟩
      have hj : j < s := by
        have := (List.getElem?_eq_some_iff.1 hu).1
        rwa [hf] at this
      have h1 := hat j hj
      rw [Go.Deep.add_add] at h1
      rw [h1, hu]
    let pick : Nat → α := fun i => if h : i < len then Classical.choose (hcell i h) else default
    have hpick : ∀ i, (h : i < len) → (∀ j u, (f (pick i))[j]? = some u → w.cell? (a.add (i * s + j)) = some u) ∧ Good (pick i) := fun i h => by
      have := Classical.choose_spec (hcell i h)
      simp only [pick, dif_pos h]
      exact this
    refine ⟨(List.range len).map pick, ?_, ?_, by simp; omega⟩
    · rw [List.length_map, List.length_range]
      rcases Nat.eq_zero_or_pos len with hz | hz
      · subst hz
        exact ⟨by simp, _, _, rfl, hl, fun h => absurd h (by omega)⟩
      · have h0 := (hpick 0 hz).1 0 _ (List.getElem?_eq_getElem (by rw [hf]; exact hs))
        obtain ⟨hsp, hb⟩ := cell_spot h0
        have e0 : a.add (0 * s + 0) = a := by simp [Addr.add]
        rw [e0] at hsp hb
        have hx : a = ⟨a.block, a.off, none⟩ := by obtain ⟨b, o, s⟩ := a; subst hsp; rfl
        rw [hx, List.flatMap_map]
        refine rd_of_cells _ (fun i => hf _) hs hb hl fun i hi' j u hu => ?_
        have h1 := (hpick i hi').1 j u hu
        rw [add_lit_more a _ hsp] at h1
        exact h1
    · intro y hy
      obtain ⟨i, hi', rfl⟩ := List.mem_map.1 hy
      exact (hpick i (by simpa using hi')).2
theorem fld_of {fs : Array Field} {n : Nat} {cs : List Value} {ys : List (DataW H × List MemPlace)} (hf : ∀ (i : Nat) (f : Field), fs[i]? = some f → DataW.trod enc P w base spare held n f.type ((cs.drop f.offset).take (P.cellsOf f.type)) = ys[i]?)
    {j ft off z : Nat} {f : Field} (hj : fs[j]? = some f) (h1 : f.type = ft) (h2 : f.offset = off) (h3 : P.cellsOf ft = z) : DataW.trod enc P w base spare held n ft ((cs.drop off).take z) = ys[j]? := by
  subst h1 h2 h3
  exact hf j f hj
end
section
variable {H : Type} {enc : TypeId × Value → H} {w : World} {base : Nat} {spare : Nat → Bool} {held : Bool}
theorem co_3 : Try.prog.cellsOf 3 = 1 := by kernel_rfl
set_option maxRecDepth 100000 in
theorem cells_23 {fuel : Nat} {cs : List Value} {x : DataW H × List MemPlace} (hl : cs.length = 2) (h : DataW.trod enc Try.prog w base spare held fuel 23 cs = some x) : ∃ (z0 : Int) (z1 : Int), cs = [.int .i64 z0, .int .i64 z1] := by
  obtain ⟨ys, n, _, _, _, hyl, hf⟩ := DataW.trod_struct Try.underlying23 h
  match cs, hl with
  | [u0, u1], _ =>
    match ys, hyl with
    | [y0, y1], _ =>
      have q0 : DataW.trod enc Try.prog w base spare held n 3 [u0] = some y0 := fld_of hf (j := 0) rfl rfl rfl co_3
      obtain ⟨z0, hz0, _, _⟩ := DataW.trod_int Try.underlying3 q0
      injection hz0 with hz0
      subst hz0
      have q1 : DataW.trod enc Try.prog w base spare held n 3 [u1] = some y1 := fld_of hf (j := 1) rfl rfl rfl co_3
      obtain ⟨z1, hz1, _, _⟩ := DataW.trod_int Try.underlying3 q1
      injection hz1 with hz1
      subst hz1
      exact ⟨z0, z1, rfl⟩
theorem co_23 : Try.prog.cellsOf 23 = 2 := by kernel_rfl
instance : Inhabited Sky := ⟨sky0⟩
end
end Go.Proofs.Ytncnlhkmdljgpaa
set_option linter.unusedVariables false
namespace Go.Proofs.Ytncnlhkmdljgpaa
open Go Go.RowKit
/-- a row that has come into a new element; the append's own world -/
theorem Rows.push0 {W w' : World} {base e osize n tb size : Nat} {vf v' l : Value} {outer outer' : List Value} {fs : List Value} {F : List (Nat × List Value)} (h : Rows W base e osize vf n outer tb size fs F) {m : Nat} {cells : List Value} (hl : W.ownsRow base tb size l m cells) (ha : Apart vf l)
    (hown : w'.ownsRow base e osize v' (n + 1) outer') (hg : W.grownBy w' vf.ownBlock) (hat : v'.ownBlock = vf.ownBlock ∨ v'.ownBlock = some W.heap.size) :
    Rows w' base e osize v' (n + 1) outer' tb size (fs ++ [l]) (F ++ [(m, cells)]) := by
  have key : ∀ {u : Value} {k : Nat} {ys : List Value}, W.ownsRow base tb size u k ys → Apart vf u → Apart v' u := fun hu hvu g h1 h2 => by
    rcases hat with h3 | h3
    · exact hvu g (h3 ▸ h1) h2
    · rw [h3] at h1; injection h1 with h1; have := (hu.lt g h2).2; omega
  refine ⟨hown, by simp [h.len], fun i hi => ?_, fun i hi => ?_⟩
  · rw [getD_snoc, getD_snoc, h.len]
    by_cases h1 : i < F.length
    · rw [if_pos h1, if_pos h1]
      exact own_apart (h.each i h1) hg (h.apart i h1)
    · have h2 : i = F.length := by simp at hi; omega
      rw [if_neg h1, if_neg h1, if_pos h2, if_pos h2]
      exact own_apart hl hg ha
  · rw [getD_snoc, h.len]
    by_cases h1 : i < F.length
    · rw [if_pos h1]
      exact key (h.each i h1) (h.apart i h1)
    · have h2 : i = F.length := by simp at hi; omega
      rw [if_neg h1, if_pos h2]
      exact key hl ha
theorem rowsB_take {l : List (List Bd)} {i : Nat} (hi : i < l.length) : rowsB (l.take (i + 1)) = rowsB (l.take i) ++ [((l.getD i []).length, bdsC (l.getD i []))] := by
  rw [List.take_succ_eq_append_getElem hi]
  unfold rowsB
  rw [List.map_append]
  simp [hi]
/-- a new row is apart from what was there -/
theorem apart_fresh {w : World} {base e size n : Nat} {vf l : Value} {xs : List Value} (h : w.ownsRow base e size vf n xs) (hl : ∀ g, l.ownBlock = some g → w.heap.size ≤ g) : Apart vf l := fun g h1 h2 => by
  have := (h.lt g h1).2
  have := hl g h2
  omega
theorem forecast_own (l : List (List Bd)) (v : Value) (ss : List Value) (w : World) (B : Nat) (hs : RdSides w B v l ss) (hB : B ≤ w.heap.size) (hl : l.length ≤ 1048575) (hsb : ∀ i, i < l.length → (l.getD i []).length ≤ 1048576) :
    Calls Try.prog 34 #[v] w fun e w' => (∃ v' fs b1, e = .returned v' ∧ w.heap.size ≤ b1 ∧ Rows w' b1 28 1 v' l.length fs 23 2 fs (rowsB l)) ∧ Below w.heap.size w w' := by
  obtain ⟨A, c, rfl, _⟩ := hs.rd.shape
  have hbw := Below.refl w.heap.size w
  refine EC.enter 22 Try.func34 rfl rfl rfl ?_
  refine EC.seq ?_
  refine EC.region ?_
  refine EL.val (x_assign rfl) rfl ?_
  refine EL.nil ?_
  refine EX.seq ?_
  refine EC.seq ?_
  refine EC.region ?_
  have st1_hbw := hbw.size
  refine EL.newS bs_52_0 rfl ?_
  intro g2 w2 q2 hb2 hg2 hl2
  have bhbw_2 := Nat.le_trans hbw.size hg2
  replace hbw := Below.on hbw hb2 hbw.size
  clear hb2 hl2
  refine EL.val (x_assign rfl) rfl ?_
  refine EL.nil ?_
  refine EX.seq ?_
  refine EC.seq ?_
  refine EC.seq ?_
  refine EC.region ?_
  refine EL.val (x_assign rfl) rfl ?_
  refine EL.nil ?_
  refine EX.seq ?_
  refine EC.block ?_
  have hge0 : w.heap.size ≤ g2 := hg2
  refine EC.loopD [3, 4, 6, 7, 8, 9, 10, 11, 12, 13, 14, 15, 16, 17, 18, 19, 20] (fun x : Nat × Value × List Value => [(4, .int .i64 (x.1 : Nat)), (3, x.2.1)]) (fun x W => x.1 ≤ l.length ∧ Rows W w.heap.size 28 1 x.2.1 x.1 x.2.2 23 2 x.2.2 (rowsB (l.take x.1)) ∧ Below w.heap.size w W) (fun x => l.length - x.1) (0, _, []) ⟨Nat.zero_le _, Rows.start (own_empty 1 q2 hge0), hbw⟩ ⟨rfl, rfl, trivial⟩ ?_
  rintro ⟨i, vo, fs⟩ wr ⟨hi, hR, hbw⟩
  simp only at hi hR
  by_cases hlt : i < l.length
  ·
    have hbr := Below.refl wr.heap.size wr
    obtain ⟨b, o, rfl, _, c0⟩ := sides_cell hs i hlt
    have hside := hs.side i hlt
    obtain ⟨As, cs, es, _⟩ := hside.shape
    rw [es] at c0 hside
    have hlen := hsb i hlt
    refine EC.seq ?_
    refine EC.seq ?_
    refine EC.region ?_
    refine EL.val (x_move rfl) rfl ?_
    refine EL.val (x_move rfl) rfl ?_
    refine EL.val (ln_52 rfl) rfl ?_
    refine EL.val (x_lss rfl rfl (by first | assumption | exact decide_eq_true (by omega))) rfl ?_
    refine EL.nil ?_
    refine EX.seq ?_
    refine EC.yes rfl ?_
    refine EC.skip ?_
    refine EX.seq ?_
    refine EC.seq ?_
    refine EC.block ?_
    refine EC.region ?_
    refine EL.val (x_move rfl) rfl ?_
    have st3_hbw := hbw.size
    have st3_hbr := hbr.size
    refine EL.newS bs_28_0 rfl ?_
    intro g4 w4 q4 hb4 hg4 hl4
    have bhbw_4 := Nat.le_trans hbw.size hg4
    have bhbr_4 := Nat.le_trans hbr.size hg4
    replace hbw := Below.on hbw hb4 hbw.size
    replace hbr := Below.on hbr hb4 hbr.size
    clear hb4 hl4
    refine EL.val (x_move rfl) rfl ?_
    refine EL.val (x_move rfl) rfl ?_
    refine EL.val (ix_52 rfl rfl hlt) rfl ?_
    refine EL.val (ld_28 rfl (below_load hbw c0)) rfl ?_
    have oin := own_empty (base := wr.heap.size) 2 q4 hg4
    refine EL.push bds_elem rfl rfl oin (hside.below (hbw.mono hB)) (bdsC_one _) (by omega) rfl (Nat.le_trans hg4 (Nat.le_of_lt q4.lt)) rfl ?_
    intro vi w5 hoi hgr5 hb5 _
    rw [Nat.zero_add, List.nil_append] at hoi
    replace hbw := hbw.trans (hb5.mono st3_hbw)
    replace hbr := hbr.trans (hb5.mono st3_hbr)
    have hvi := fun g (h : vi.ownBlock = some g) => (hoi.lt g h).1
    obtain ⟨Ai, ci, ei, _⟩ := (Rd.of_own hoi).shape
    subst ei
    refine EL.newS (bs_52_1 rfl) rfl ?_
    intro g6 w6 q6 hb6 hg6 hl6
    have bhbw_6 := Nat.le_trans hbw.size hg6
    have bhbr_6 := Nat.le_trans hbr.size hg6
    replace hoi := own_below hoi hb6 (Nat.le_refl _)
    replace hbw := Below.on hbw hb6 hbw.size
    replace hbr := Below.on hbr hb6 hbr.size
    clear hb6 hg6 hl6
    have hR2 := hR.below hbr
    have hoi2 := own_less hoi st3_hbw
    have hap := apart_fresh hR.own hvi
    refine EL.push lists_elem rfl rfl hR2.own (rd_one (l := [.slice Ai (l.getD i []).length ci]) q6 rfl) (by simp [Value.oneCell']) (by omega) rfl hbw.size rfl ?_
    intro v' w7 ho2 hgr7 hb7 hat7
    have hR3 := hR2.push0 hoi2 hap ho2 hgr7 hat7
    replace hbw := hbw.trans hb7
    refine EL.val (x_assign rfl) rfl ?_
    refine EL.nil ?_
    refine EX.blk ?_
    refine EX.seq ?_
    refine EC.region ?_
    refine EL.val (x_move rfl) rfl ?_
    refine EL.val (x_add rfl rfl (by first | assumption | exact IntWalk.i64_in _ ⟨by omega, by omega⟩)) rfl ?_
    refine EL.val (x_assign rfl) rfl ?_
    refine EL.nil ?_
    refine EX.roundD (i + 1, v', fs ++ [_]) ⟨rfl, rfl, trivial⟩ (by repeat first | exact Sub.refl _ | refine sub_past rfl ?_ | refine sub_del rfl ?_ | refine sub_insL_nil ?_) ⟨hlt, by rw [rowsB_take hlt]; exact hR3, hbw⟩ (by simp only; omega)
  ·
    obtain rfl : i = l.length := by omega
    refine EC.seq ?_
    refine EC.seq ?_
    refine EC.region ?_
    refine EL.val (x_move rfl) rfl ?_
    refine EL.val (x_move rfl) rfl ?_
    refine EL.val (ln_52 rfl) rfl ?_
    refine EL.val (x_lss rfl rfl (by first | assumption | exact decide_eq_false (by omega))) rfl ?_
    refine EL.nil ?_
    refine EX.seq ?_
    refine EC.no rfl ?_
    refine EC.exit ?_
    refine EX.seq_exit ?_
    refine EX.seq_exit ?_
    refine EX.blk_here ?_
    refine EX.seq ?_
    refine EC.seq ?_
    refine EC.region ?_
    refine EL.val (x_move rfl) rfl ?_
    refine EL.val (x_assign rfl) rfl ?_
    refine EL.nil ?_
    refine EX.seq ?_
    refine EC.ret ?_
    rw [List.take_length] at hR
    exact EX.done (res1 rfl rfl) ⟨⟨_, _, _, rfl, Nat.le_refl _, hR⟩, hbw⟩
theorem forecast_any (l : List (List Bd)) (v : Value) (ss : List Value) (w : World) (B : Nat) (hs : RdSides w B v l ss) (hB : B ≤ w.heap.size) (hl : l.length ≤ 1048575) (hsb : ∀ i, i < l.length → (l.getD i []).length ≤ 1048576) :
    Calls Try.prog 34 #[v] w fun e w' => (∃ v' fs, e = .returned v' ∧ RdSides w' w'.heap.size v' l fs) ∧ Below w.heap.size w w' :=
  (forecast_own l v ss w B hs hB hl hsb).mono fun _ _ ⟨⟨v', fs, _, h1, _, h2⟩, h3⟩ => ⟨⟨v', fs, h1, h2.sides⟩, h3⟩
def rowsR (l : List Reach) : List (Nat × List Value) := l.map fun x => (x.curve.length, rowsC x.curve)
theorem rowsR_take {l : List Reach} {i : Nat} (hi : i < l.length) : rowsR (l.take (i + 1)) = rowsR (l.take i) ++ [((l.getD i reach0).curve.length, rowsC (l.getD i reach0).curve)] := by
  rw [List.take_succ_eq_append_getElem hi]
  unfold rowsR
  rw [List.map_append]
  simp [hi]
theorem rowsR_len (l : List Reach) : (rowsR l).length = l.length := by simp [rowsR]
theorem rowsR_at (l : List Reach) (i : Nat) (hi : i < l.length) : (rowsR l).getD i (0, []) = ((l.getD i reach0).curve.length, rowsC (l.getD i reach0).curve) := by
  simp [rowsR, hi]
theorem zip_take {l : List Reach} {fs : List Value} {v : Value} {i : Nat} (hi : i < l.length) (hf : fs.length = i) : ((l.take (i + 1)).zip (fs ++ [v])).flatMap reachC = ((l.take i).zip fs).flatMap reachC ++ reachC (l.getD i reach0, v) := by
  rw [List.take_succ_eq_append_getElem hi, List.zip_append (by simp; omega)]
  simp [hi]
theorem Rows.reaches {w : World} {base e tb : Nat} {vf : Value} {fs : List Value} {l : List Reach} (h : Rows w base e 9 vf l.length ((l.zip fs).flatMap reachC) tb 2 fs (rowsR l)) : RdReaches w w.heap.size vf l fs :=
  ⟨by rw [h.len, rowsR_len], Rd.of_own h.own, fun i hi => by
    have := Rd.of_own (h.each i (by rw [rowsR_len]; exact hi))
    rw [rowsR_at l i hi] at this
    exact this⟩
theorem reach_info : (Try.prog.info? 50).map (fun i => (i.zero, i.size, i.bytes)) = some (some (.agg #[.int .i64 0, .int .i64 0, .int .i64 0, .int .i64 0, .slice none 0 0, .int .i64 0, .int .i64 0, .int .i64 0, .int .i64 0]), 9, 88) := by kernel_rfl
theorem reach_elem : Elem Try.prog 44 50 9 88 := Elem.mk' Try.underlying44 reach_info rfl (by omega)
theorem row_info : (Try.prog.info? 126).map (fun i => (i.zero, i.size, i.bytes)) = some (some (.agg #[.int .i64 0, .int .i64 0]), 2, 16) := by kernel_rfl
theorem row_elem : Elem Try.prog 48 126 2 16 := Elem.mk' Try.underlying48 row_info rfl (by omega)
theorem Rows.keepB {w w' : World} {base e osize n tb size C : Nat} {vf : Value} {outer : List Value} {fs : List Value} {F : List (Nat × List Value)} (h : Rows w base e osize vf n outer tb size fs F) (hb : Below C w w') (h1 : ∀ g, vf.ownBlock = some g → g < C) (h2 : ∀ j, j < F.length → ∀ g, (fs.getD j undef).ownBlock = some g → g < C) : Rows w' base e osize vf n outer tb size fs F := by
  have key : ∀ {u : Value} {b t s k : Nat} {ys : List Value}, w.ownsRow b t s u k ys → (∀ g, u.ownBlock = some g → g < C) → w'.ownsRow b t s u k ys := fun hu hlt => by
    obtain ⟨hl, ⟨rfl, rfl⟩ | ⟨g, cap, cur, rfl, hbg, hg, r⟩⟩ := hu
    · exact ⟨hl, .inl ⟨rfl, rfl⟩⟩
    · exact ⟨hl, .inr ⟨g, cap, cur, rfl, hbg, by rw [hb.block g (hlt g rfl)]; exact hg, r⟩⟩
  exact ⟨key h.own h1, h.len, fun i hi => key (h.each i hi) (h2 i hi), h.apart⟩
theorem copied_own (r : River) (v u : Value) (vs : List Value) (w : World) (B : Nat) (hr : RdRiver w B v u r vs) (hB : B ≤ w.heap.size) (hl : r.reaches.length ≤ 1048575) (hl2 : r.shoals.length ≤ 1048576) (hcl : ∀ i, i < r.reaches.length → (r.reaches.getD i reach0).curve.length ≤ 1048576) :
    Calls Try.prog 24 #[.agg #[v, u]] w fun e w' => (∃ v' u' vs' b1 b2, e = .returned (.agg #[v', u']) ∧ w.heap.size ≤ b1 ∧ w.heap.size ≤ b2 ∧ Rows w' b1 50 9 v' r.reaches.length ((r.reaches.zip vs').flatMap reachC) 126 2 vs' (rowsR r.reaches) ∧ w'.ownsRow b2 97 6 u' r.shoals.length (shoalsC r.shoals)) ∧ Below w.heap.size w w' := by
  obtain ⟨A, c, rfl, _⟩ := hr.reaches.shape
  obtain ⟨A', c', rfl, _⟩ := hr.shoals.shape
  have hbw := Below.refl w.heap.size w
  refine EC.enter 34 Try.func24 rfl rfl rfl ?_
  refine EC.seq ?_
  refine EC.region ?_
  refine EL.newP (bx_47 rfl) rfl ?_
  intro g1 w1 q1 hb1 hg1 hl1
  have bhbw_1 := Nat.le_trans hbw.size hg1
  replace hbw := Below.on hbw hb1 hbw.size
  clear hb1 hg1 hl1
  refine EL.newP al_47 rfl ?_
  intro g2 w2 q2 hb2 hg2 hl2
  have n1_2 : g1 ≠ g2 := Nat.ne_of_lt (Nat.lt_of_lt_of_le q1.lt hg2)
  have bhbw_2 := Nat.le_trans hbw.size hg2
  replace q1 := q1.below hb2 q1.lt
  replace hbw := Below.on hbw hb2 hbw.size
  clear hb2 hg2 hl2
  refine EL.nil ?_
  refine EX.seq ?_
  refine EC.seq ?_
  refine EC.region ?_
  have st3_hbw := hbw.size
  have lt3_1 := q1.lt
  have lt3_2 := q2.lt
  refine EL.newS bs_44_0 rfl ?_
  intro g4 w4 q4 hb4 hg4 hl4
  have n1_4 : g1 ≠ g4 := Nat.ne_of_lt (Nat.lt_of_lt_of_le q1.lt hg4)
  have n2_4 : g2 ≠ g4 := Nat.ne_of_lt (Nat.lt_of_lt_of_le q2.lt hg4)
  have bhbw_4 := Nat.le_trans hbw.size hg4
  replace q1 := q1.below hb4 q1.lt
  replace q2 := q2.below hb4 q2.lt
  replace hbw := Below.on hbw hb4 hbw.size
  clear hb4 hl4
  refine EL.val (x_assign rfl) rfl ?_
  refine EL.nil ?_
  refine EX.seq ?_
  refine EC.seq ?_
  refine EC.seq ?_
  refine EC.region ?_
  refine EL.val (x_assign rfl) rfl ?_
  refine EL.nil ?_
  refine EX.seq ?_
  refine EC.block ?_
  refine EC.loopD [3, 4, 5, 7, 8, 9, 10, 11, 12, 13, 14, 15, 16, 17, 18, 19, 20, 21, 22, 23, 24, 25, 26, 27] (fun x : Nat × Value × List Value => [(4, .int .i64 (x.1 : Nat)), (3, x.2.1)]) (fun x W => x.1 ≤ r.reaches.length ∧ x.2.2.length = x.1 ∧ Rows W w2.heap.size 50 9 x.2.1 x.1 (((r.reaches.take x.1).zip x.2.2).flatMap reachC) 126 2 x.2.2 (rowsR (r.reaches.take x.1)) ∧ Blk W g1 47 #[.slice A r.reaches.length c, .slice A' r.shoals.length c'] ∧ Blk W g2 47 #[.slice none 0 0, .slice none 0 0] ∧ w2.heap.size ≤ W.heap.size ∧ Below w.heap.size w W) (fun x => r.reaches.length - x.1) (0, _, []) ⟨Nat.zero_le _, rfl, Rows.start (own_empty 9 q4 hg4), q1, q2, Nat.le_trans hg4 (Nat.le_of_lt q4.lt), hbw⟩ ⟨rfl, rfl, trivial⟩ ?_
  clear q1 q2 hbw
  rintro ⟨i, vo, fs⟩ wr ⟨hi, hfl, hR, q1, q2, hbo, hbw⟩
  simp only at hi hR hfl
  by_cases hlt : i < r.reaches.length
  ·
    have hbr := Below.refl wr.heap.size wr
    obtain ⟨b, o, rfl, _, cc⟩ := reaches_cells hr.reaches i hlt
    have hcv := hr.reaches.curve i hlt
    obtain ⟨As, cs, es, _⟩ := hcv.shape
    rw [es] at hcv cc
    have hlen := hcl i hlt
    refine EC.seq ?_
    refine EC.seq ?_
    refine EC.region ?_
    refine EL.val (x_move rfl) rfl ?_
    refine EL.val (fa_47_0 rfl) rfl ?_
    refine EL.val (ld_44 rfl (q1.at (j := 0) rfl)) rfl ?_
    refine EL.val (ln_44 rfl) rfl ?_
    refine EL.val (x_lss rfl rfl (by first | assumption | exact decide_eq_true (by omega))) rfl ?_
    refine EL.nil ?_
    refine EX.seq ?_
    refine EC.yes rfl ?_
    refine EC.skip ?_
    refine EX.seq ?_
    refine EC.seq ?_
    refine EC.block ?_
    refine EC.seq ?_
    refine EC.region ?_
    refine EL.val (fa_47_0 rfl) rfl ?_
    refine EL.val (ld_44 rfl (q1.at (j := 0) rfl)) rfl ?_
    refine EL.val (x_move rfl) rfl ?_
    refine EL.val (ix_44 rfl rfl hlt) rfl ?_
    refine EL.val (ld_50 rfl (below_load hbw cc.c0) (below_load hbw cc.c1) (below_load hbw cc.c2) (below_load hbw cc.c3) (below_load hbw cc.c4) (below_load hbw cc.c5) (below_load hbw cc.c6) (below_load hbw cc.c7) (below_load hbw cc.c8)) rfl ?_
    refine EL.newP al_50 rfl ?_
    intro g5 w5 q5 hb5 hg5 hl5
    have n1_5 : g1 ≠ g5 := Nat.ne_of_lt (Nat.lt_of_lt_of_le q1.lt hg5)
    have n2_5 : g2 ≠ g5 := Nat.ne_of_lt (Nat.lt_of_lt_of_le q2.lt hg5)
    have bhbw_5 := Nat.le_trans hbw.size hg5
    have bhbr_5 := Nat.le_trans hbr.size hg5
    replace q1 := q1.below hb5 q1.lt
    replace q2 := q2.below hb5 q2.lt
    replace hbw := Below.on hbw hb5 hbw.size
    replace hbr := Below.on hbr hb5 hbr.size
    clear hb5 hg5 hl5
    refine EL.store rfl rfl q5 sz_50 rfl rfl rfl rfl ?_
    intro w6 hq6 hg6
    replace q1 := q1.grown hg6 (fun h => n1_5 (Option.some.inj h))
    replace q2 := q2.grown hg6 (fun h => n2_5 (Option.some.inj h))
    replace hbw := below_store hbw hg6 bhbw_5
    replace hbr := below_store hbr hg6 bhbr_5
    replace q5 := hq6
    clear hg6 hq6
    refine EL.nil ?_
    refine EX.seq ?_
    refine EC.seq ?_
    refine EC.region ?_
    have st7_hbw := hbw.size
    have st7_hbr := hbr.size
    have lt7_1 := q1.lt
    have lt7_2 := q2.lt
    have lt7_5 := q5.lt
    refine EL.newS bs_48_0 rfl ?_
    intro g8 w8 q8 hb8 hg8 hl8
    have n1_8 : g1 ≠ g8 := Nat.ne_of_lt (Nat.lt_of_lt_of_le q1.lt hg8)
    have n2_8 : g2 ≠ g8 := Nat.ne_of_lt (Nat.lt_of_lt_of_le q2.lt hg8)
    have n5_8 : g5 ≠ g8 := Nat.ne_of_lt (Nat.lt_of_lt_of_le q5.lt hg8)
    have bhbw_8 := Nat.le_trans hbw.size hg8
    have bhbr_8 := Nat.le_trans hbr.size hg8
    replace q1 := q1.below hb8 q1.lt
    replace q2 := q2.below hb8 q2.lt
    replace q5 := q5.below hb8 q5.lt
    replace hbw := Below.on hbw hb8 hbw.size
    replace hbr := Below.on hbr hb8 hbr.size
    clear hb8 hl8
    refine EL.val (fa_50_3 rfl) rfl ?_
    refine EL.val (ld_48 rfl (q5.at (j := 4) rfl)) rfl ?_
    have oin := own_empty (base := w6.heap.size) 2 q8 hg8
    refine EL.push row_elem rfl rfl oin (hcv.below (hbw.mono hB)) (rowsC_one _) (by omega) rfl (Nat.le_trans hg8 (Nat.le_of_lt q8.lt)) rfl ?_
    intro vi w9 hoi hgr9 hb9 _
    rw [Nat.zero_add, List.nil_append] at hoi
    replace q1 := q1.below hb9 lt7_1
    replace q2 := q2.below hb9 lt7_2
    replace q5 := q5.below hb9 lt7_5
    replace hbw := hbw.trans (hb9.mono st7_hbw)
    replace hbr := hbr.trans (hb9.mono st7_hbr)
    have hvi := fun g (h : vi.ownBlock = some g) => (hoi.lt g h).1
    obtain ⟨Ai, ci, ei, _⟩ := (Rd.of_own hoi).shape
    subst ei
    refine EL.val (fa_50_3 rfl) rfl ?_
    refine EL.store rfl rfl q5 sz_48 rfl rfl rfl rfl ?_
    intro w10 hq10 hg10
    replace q1 := q1.grown hg10 (fun h => n1_5 (Option.some.inj h))
    replace q2 := q2.grown hg10 (fun h => n2_5 (Option.some.inj h))
    replace hoi := own_far hoi hg10 lt7_5
    replace hbw := below_store hbw hg10 bhbw_5
    replace hbr := below_store hbr hg10 bhbr_5
    replace q5 := hq10
    clear hg10 hq10
    refine EL.nil ?_
    refine EX.seq ?_
    refine EC.region ?_
    refine EL.val (x_move rfl) rfl ?_
    refine EL.val (ld_50 rfl (q5.at (j := 0) rfl) (q5.at (j := 1) rfl) (q5.at (j := 2) rfl) (q5.at (j := 3) rfl) (q5.at (j := 4) rfl) (q5.at (j := 5) rfl) (q5.at (j := 6) rfl) (q5.at (j := 7) rfl) (q5.at (j := 8) rfl)) rfl ?_
    refine EL.newS (bs_44_1 rfl) rfl ?_
    intro g11 w11 q11 hb11 hg11 hl11
    have n1_11 : g1 ≠ g11 := Nat.ne_of_lt (Nat.lt_of_lt_of_le q1.lt hg11)
    have n2_11 : g2 ≠ g11 := Nat.ne_of_lt (Nat.lt_of_lt_of_le q2.lt hg11)
    have n5_11 : g5 ≠ g11 := Nat.ne_of_lt (Nat.lt_of_lt_of_le q5.lt hg11)
    have bhbw_11 := Nat.le_trans hbw.size hg11
    have bhbr_11 := Nat.le_trans hbr.size hg11
    replace q1 := q1.below hb11 q1.lt
    replace q2 := q2.below hb11 q2.lt
    replace q5 := q5.below hb11 q5.lt
    replace hoi := own_below hoi hb11 (Nat.le_refl _)
    replace hbw := Below.on hbw hb11 hbw.size
    replace hbr := Below.on hbr hb11 hbr.size
    clear hb11 hg11 hl11
    have hR2 := hR.below hbr
    have hoi2 := own_less hoi (Nat.le_trans hbo st7_hbr)
    have hap := apart_fresh hR.own (fun g h => Nat.le_trans st7_hbr (hvi g h))
    refine EL.push reach_elem rfl rfl hR2.own (rd_one (l := reachC (r.reaches.getD i reach0, .slice Ai (r.reaches.getD i reach0).curve.length ci)) q11 rfl) (by simp [reachC, Value.oneCell']) (by omega) rfl (Nat.le_trans hbo hbr.size) rfl ?_
    intro v' w12 ho2 hgr12 hb12 hat12
    have hR3 := hR2.push0 hoi2 hap ho2 hgr12 hat12
    have hbo2 := Nat.le_trans (Nat.le_trans hbo hbr.size) hb12.size
    replace hbw := hbw.trans (hb12.mono st3_hbw)
    replace q1 := q1.below hb12 lt3_1
    replace q2 := q2.below hb12 lt3_2
    refine EL.val (x_assign rfl) rfl ?_
    refine EL.nil ?_
    refine EX.blk ?_
    refine EX.seq ?_
    refine EC.region ?_
    refine EL.val (x_move rfl) rfl ?_
    refine EL.val (x_add rfl rfl (by first | assumption | exact IntWalk.i64_in _ ⟨by omega, by omega⟩)) rfl ?_
    refine EL.val (x_assign rfl) rfl ?_
    refine EL.nil ?_
    refine EX.roundD (i + 1, v', fs ++ [_]) ⟨rfl, rfl, trivial⟩ (by repeat first | exact Sub.refl _ | refine sub_past rfl ?_ | refine sub_del rfl ?_ | refine sub_insL_nil ?_) ⟨hlt, by simp [hfl], by rw [rowsR_take hlt, zip_take hlt hfl]; exact hR3, q1, q2, hbo2, hbw⟩ (by simp only; omega)
  ·
    have hbr := Below.refl wr.heap.size wr
    obtain rfl : i = r.reaches.length := by omega
    rw [List.take_length] at hR
    obtain ⟨Ao, co, eo, _⟩ := (Rd.of_own hR.own).shape
    subst eo
    have hR0 := hR
    refine EC.seq ?_
    refine EC.seq ?_
    refine EC.region ?_
    refine EL.val (x_move rfl) rfl ?_
    refine EL.val (fa_47_0 rfl) rfl ?_
    refine EL.val (ld_44 rfl (q1.at (j := 0) rfl)) rfl ?_
    refine EL.val (ln_44 rfl) rfl ?_
    refine EL.val (x_lss rfl rfl (by first | assumption | exact decide_eq_false (by omega))) rfl ?_
    refine EL.nil ?_
    refine EX.seq ?_
    refine EC.no rfl ?_
    refine EC.exit ?_
    refine EX.seq_exit ?_
    refine EX.seq_exit ?_
    refine EX.blk_here ?_
    refine EX.seq ?_
    refine EC.seq ?_
    refine EC.region ?_
    refine EL.val (x_move rfl) rfl ?_
    have st13_hbw := hbw.size
    have st13_hbr := hbr.size
    have lt13_1 := q1.lt
    have lt13_2 := q2.lt
    refine EL.newS bs_45_0 rfl ?_
    intro g14 w14 q14 hb14 hg14 hl14
    have n1_14 : g1 ≠ g14 := Nat.ne_of_lt (Nat.lt_of_lt_of_le q1.lt hg14)
    have n2_14 : g2 ≠ g14 := Nat.ne_of_lt (Nat.lt_of_lt_of_le q2.lt hg14)
    have bhbw_14 := Nat.le_trans hbw.size hg14
    have bhbr_14 := Nat.le_trans hbr.size hg14
    replace q1 := q1.below hb14 q1.lt
    replace q2 := q2.below hb14 q2.lt
    replace hR := hR.below hb14
    replace hbw := Below.on hbw hb14 hbw.size
    replace hbr := Below.on hbr hb14 hbr.size
    clear hb14 hl14
    refine EL.val (fa_47_1 rfl) rfl ?_
    refine EL.val (ld_45 rfl (q1.at (j := 1) rfl)) rfl ?_
    have oin := own_empty (base := wr.heap.size) 6 q14 hg14
    have hR2 := hR
    refine EL.push shoal_elem rfl rfl oin (hr.shoals.below (hbw.mono hB)) (shoalsC_one _) (by omega) rfl (Nat.le_trans hg14 (Nat.le_of_lt q14.lt)) rfl ?_
    intro vi w15 hoi hgr15 hb15 _
    rw [Nat.zero_add, List.nil_append] at hoi
    replace hR := hR.keepB hb15 (fun g h => Nat.lt_of_lt_of_le ((hR0.own.lt g h).2) st13_hbr) (fun j hj g h => Nat.lt_of_lt_of_le ((hR0.each j hj).lt g h).2 st13_hbr)
    replace q1 := q1.below hb15 lt13_1
    replace q2 := q2.below hb15 lt13_2
    replace hbw := hbw.trans (hb15.mono st13_hbw)
    replace hbr := hbr.trans (hb15.mono st13_hbr)
    obtain ⟨Ai, ci, ei, _⟩ := (Rd.of_own hoi).shape
    subst ei
    refine EL.val (bd_47_0_1 rfl rfl) rfl ?_
    refine EL.store rfl rfl q2 sz_47 rfl rfl rfl rfl ?_
    intro w16 hq16 hg16
    replace q1 := q1.grown hg16 (fun h => n1_2 (Option.some.inj h))
    replace hR := hR.far hg16 lt3_2
    replace hoi := own_far hoi hg16 lt13_2
    replace hbw := below_store hbw hg16 bhbw_2
    clear hbr
    replace q2 := hq16
    clear hg16 hq16
    refine EL.nil ?_
    refine EX.seq ?_
    refine EC.ret ?_
    exact EX.done (resc1 rfl rfl (lv_47 (q2.at rfl) (q2.at rfl))) ⟨⟨_, _, _, _, _, rfl, st3_hbw, st13_hbw, hR, hoi⟩, hbw⟩
theorem copied_any (r : River) (v u : Value) (vs : List Value) (w : World) (B : Nat) (hr : RdRiver w B v u r vs) (hB : B ≤ w.heap.size) (hl : r.reaches.length ≤ 1048575) (hl2 : r.shoals.length ≤ 1048576) (hcl : ∀ i, i < r.reaches.length → (r.reaches.getD i reach0).curve.length ≤ 1048576) :
    Calls Try.prog 24 #[.agg #[v, u]] w fun e w' => (∃ v' u' vs', e = .returned (.agg #[v', u']) ∧ RdRiver w' w'.heap.size v' u' r vs') ∧ Below w.heap.size w w' :=
  (copied_own r v u vs w B hr hB hl hl2 hcl).mono fun _ _ ⟨⟨v', u', vs', _, _, h1, _, _, h2, h3⟩, h4⟩ => ⟨⟨v', u', vs', h1, h2.reaches, Rd.of_own h3⟩, h4⟩
end Go.Proofs.Ytncnlhkmdljgpaa
namespace Go.Proofs.Ytncnlhkmdljgpaa
open Go Go.ChangeShapes Go.WideShapes Go.Deep Go.RowKit Go.Joins
section
variable {H : Type} {enc : TypeId × Value → H} {w : World} {base : Nat} {spare : Nat → Bool} {held : Bool}
set_option maxRecDepth 100000 in
theorem cells_126 {fuel : Nat} {cs : List Value} {x : DataW H × List MemPlace} (hl : cs.length = 2) (h : DataW.trod enc Try.prog w base spare held fuel 126 cs = some x) : ∃ (z0 : Int) (z1 : Int), cs = [.int .i64 z0, .int .i64 z1] := by
  obtain ⟨ys, n, _, _, _, hyl, hf⟩ := DataW.trod_struct Try.underlying126 h
  match cs, hl with
  | [u0, u1], _ =>
    match ys, hyl with
    | [y0, y1], _ =>
      have q0 : DataW.trod enc Try.prog w base spare held n 3 [u0] = some y0 := fld_of hf (j := 0) rfl rfl rfl co_3
      obtain ⟨z0, hz0, _, _⟩ := DataW.trod_int Try.underlying3 q0
      injection hz0 with hz0
      subst hz0
      have q1 : DataW.trod enc Try.prog w base spare held n 3 [u1] = some y1 := fld_of hf (j := 1) rfl rfl rfl co_3
      obtain ⟨z1, hz1, _, _⟩ := DataW.trod_int Try.underlying3 q1
      injection hz1 with hz1
      subst hz1
      exact ⟨z0, z1, rfl⟩
theorem co_126 : Try.prog.cellsOf 126 = 2 := by kernel_rfl
theorem co_48 : Try.prog.cellsOf 48 = 1 := by kernel_rfl
set_option maxRecDepth 100000 in
theorem cells_50 {fuel : Nat} {cs : List Value} {x : DataW H × List MemPlace} (hl : cs.length = 9) (h : DataW.trod enc Try.prog w base spare held fuel 50 cs = some x) : ∃ (z0 : Int) (z1 : Int) (z2 : Int) (z3 : Int) (v4 : Value) (z5 : Int) (z6 : Int) (z7 : Int) (z8 : Int), cs = [.int .i64 z0, .int .i64 z1, .int .i64 z2, .int .i64 z3, v4, .int .i64 z5, .int .i64 z6, .int .i64 z7, .int .i64 z8] ∧ (∃ n x, DataW.trod enc Try.prog w base spare held n 48 [v4] = some x) := by
  obtain ⟨ys, n, _, _, _, hyl, hf⟩ := DataW.trod_struct Try.underlying50 h
  match cs, hl with
  | [u0, u1, u2, u3, u4, u5, u6, u7, u8], _ =>
    match ys, hyl with
    | [y0, y1, y2, y3, y4, y5, y6], _ =>
      have q0 : DataW.trod enc Try.prog w base spare held n 3 [u0] = some y0 := fld_of hf (j := 0) rfl rfl rfl co_3
      obtain ⟨z0, hz0, _, _⟩ := DataW.trod_int Try.underlying3 q0
      injection hz0 with hz0
      subst hz0
      have q1 : DataW.trod enc Try.prog w base spare held n 3 [u1] = some y1 := fld_of hf (j := 1) rfl rfl rfl co_3
      obtain ⟨z1, hz1, _, _⟩ := DataW.trod_int Try.underlying3 q1
      injection hz1 with hz1
      subst hz1
      have q2 : DataW.trod enc Try.prog w base spare held n 23 [u2, u3] = some y2 := fld_of hf (j := 2) rfl rfl rfl co_23
      obtain ⟨a2, a3, e2⟩ := cells_23 rfl q2
      simp only [List.cons.injEq, and_true] at e2
      obtain ⟨rfl, rfl⟩ := e2
      have q3 : DataW.trod enc Try.prog w base spare held n 48 [u4] = some y3 := fld_of hf (j := 3) rfl rfl rfl co_48
      have q4 : DataW.trod enc Try.prog w base spare held n 3 [u5] = some y4 := fld_of hf (j := 4) rfl rfl rfl co_3
      obtain ⟨z5, hz5, _, _⟩ := DataW.trod_int Try.underlying3 q4
      injection hz5 with hz5
      subst hz5
      have q5 : DataW.trod enc Try.prog w base spare held n 23 [u6, u7] = some y5 := fld_of hf (j := 5) rfl rfl rfl co_23
      obtain ⟨a6, a7, e5⟩ := cells_23 rfl q5
      simp only [List.cons.injEq, and_true] at e5
      obtain ⟨rfl, rfl⟩ := e5
      have q6 : DataW.trod enc Try.prog w base spare held n 3 [u8] = some y6 := fld_of hf (j := 6) rfl rfl rfl co_3
      obtain ⟨z8, hz8, _, _⟩ := DataW.trod_int Try.underlying3 q6
      injection hz8 with hz8
      subst hz8
      exact ⟨z0, z1, a2, a3, u4, z5, a6, a7, z8, rfl, ⟨_, _, q3⟩⟩
theorem co_50 : Try.prog.cellsOf 50 = 9 := by kernel_rfl
set_option maxRecDepth 100000 in
theorem cells_97 {fuel : Nat} {cs : List Value} {x : DataW H × List MemPlace} (hl : cs.length = 6) (h : DataW.trod enc Try.prog w base spare held fuel 97 cs = some x) : ∃ (z0 : Int) (z1 : Int) (z2 : Int) (z3 : Int) (z4 : Int) (z5 : Int), cs = [.int .i64 z0, .int .i64 z1, .int .i64 z2, .int .i64 z3, .int .i64 z4, .int .i64 z5] := by
  obtain ⟨ys, n, _, _, _, hyl, hf⟩ := DataW.trod_struct Try.underlying97 h
  match cs, hl with
  | [u0, u1, u2, u3, u4, u5], _ =>
    match ys, hyl with
    | [y0, y1, y2, y3], _ =>
      have q0 : DataW.trod enc Try.prog w base spare held n 3 [u0] = some y0 := fld_of hf (j := 0) rfl rfl rfl co_3
      obtain ⟨z0, hz0, _, _⟩ := DataW.trod_int Try.underlying3 q0
      injection hz0 with hz0
      subst hz0
      have q1 : DataW.trod enc Try.prog w base spare held n 23 [u1, u2] = some y1 := fld_of hf (j := 1) rfl rfl rfl co_23
      obtain ⟨a1, a2, e1⟩ := cells_23 rfl q1
      simp only [List.cons.injEq, and_true] at e1
      obtain ⟨rfl, rfl⟩ := e1
      have q2 : DataW.trod enc Try.prog w base spare held n 3 [u3] = some y2 := fld_of hf (j := 2) rfl rfl rfl co_3
      obtain ⟨z3, hz3, _, _⟩ := DataW.trod_int Try.underlying3 q2
      injection hz3 with hz3
      subst hz3
      have q3 : DataW.trod enc Try.prog w base spare held n 23 [u4, u5] = some y3 := fld_of hf (j := 3) rfl rfl rfl co_23
      obtain ⟨a4, a5, e3⟩ := cells_23 rfl q3
      simp only [List.cons.injEq, and_true] at e3
      obtain ⟨rfl, rfl⟩ := e3
      exact ⟨z0, a1, a2, z3, a4, a5, rfl⟩
theorem co_97 : Try.prog.cellsOf 97 = 6 := by kernel_rfl
theorem co_44 : Try.prog.cellsOf 44 = 1 := by kernel_rfl
theorem co_45 : Try.prog.cellsOf 45 = 1 := by kernel_rfl
set_option maxRecDepth 100000 in
theorem cells_47 {fuel : Nat} {cs : List Value} {x : DataW H × List MemPlace} (hl : cs.length = 2) (h : DataW.trod enc Try.prog w base spare held fuel 47 cs = some x) : ∃ (v0 : Value) (v1 : Value), cs = [v0, v1] ∧ (∃ n x, DataW.trod enc Try.prog w base spare held n 44 [v0] = some x) ∧ (∃ n x, DataW.trod enc Try.prog w base spare held n 45 [v1] = some x) := by
  obtain ⟨ys, n, _, _, _, hyl, hf⟩ := DataW.trod_struct Try.underlying47 h
  match cs, hl with
  | [u0, u1], _ =>
    match ys, hyl with
    | [y0, y1], _ =>
      have q0 : DataW.trod enc Try.prog w base spare held n 44 [u0] = some y0 := fld_of hf (j := 0) rfl rfl rfl co_44
      have q1 : DataW.trod enc Try.prog w base spare held n 45 [u1] = some y1 := fld_of hf (j := 1) rfl rfl rfl co_45
      exact ⟨u0, u1, rfl, ⟨_, _, q0⟩, ⟨_, _, q1⟩⟩
theorem co_47 : Try.prog.cellsOf 47 = 2 := by kernel_rfl
instance : Inhabited Row := ⟨row0⟩
instance : Inhabited Shoal := ⟨shoal0⟩
instance : Inhabited (Reach × Value) := ⟨(reach0, .slice none 0 0)⟩
theorem rd_rows {fuel : Nat} {v : Value} {x : DataW H × List MemPlace} (h : DataW.trod enc Try.prog w base spare held fuel 48 [v] = some x) : ∃ l : List Row, Rd w w.heap.size 2 v l.length (rowsC l) ∧ l.length ≤ maxLen := by
  obtain ⟨l, h1, _, h2⟩ := rd_list (f := rowC) (Good := fun _ => True) rowC_len (by omega) Try.underlying48 co_126 (fun _ cs _ hl ht => by
    obtain ⟨a, b, rfl⟩ := cells_126 hl ht
    exact ⟨⟨a, b⟩, rfl, trivial⟩) h
  exact ⟨l, h1, h2⟩
theorem rd_shoals {fuel : Nat} {v : Value} {x : DataW H × List MemPlace} (h : DataW.trod enc Try.prog w base spare held fuel 45 [v] = some x) : ∃ l : List Shoal, Rd w w.heap.size 6 v l.length (shoalsC l) ∧ l.length ≤ maxLen := by
  obtain ⟨l, h1, _, h2⟩ := rd_list (f := shoalC) (Good := fun _ => True) shoalC_len (by omega) Try.underlying45 co_97 (fun _ cs _ hl ht => by
    obtain ⟨a, b, c, d, e, f, rfl⟩ := cells_97 hl ht
    exact ⟨{ place := a, bed := ⟨b, c⟩, sounded := d, grow := ⟨e, f⟩ }, rfl, trivial⟩) h
  exact ⟨l, h1, h2⟩
theorem zip_fst_snd {α β : Type} : ∀ l : List (α × β), (l.map Prod.fst).zip (l.map Prod.snd) = l
  | [] => rfl
  | (a, b) :: l => by simp [zip_fst_snd l]
theorem rd_reaches {fuel : Nat} {v : Value} {x : DataW H × List MemPlace} (h : DataW.trod enc Try.prog w base spare held fuel 44 [v] = some x) : ∃ (l : List Reach) (vs : List Value), RdReaches w w.heap.size v l vs ∧ l.length ≤ maxLen ∧ ∀ i, i < l.length → (l.getD i reach0).curve.length ≤ maxLen := by
  obtain ⟨l, h1, h3, h2⟩ := rd_list (f := reachC) (Good := fun p => Rd w w.heap.size 2 p.2 p.1.curve.length (rowsC p.1.curve) ∧ p.1.curve.length ≤ maxLen) (fun _ => rfl) (by omega) Try.underlying44 co_50 (fun _ cs _ hl ht => by
    obtain ⟨a, b, c, d, e, f, g, h, i, rfl, n, y, hc⟩ := cells_50 hl ht
    obtain ⟨l, h1, h2⟩ := rd_rows hc
    exact ⟨({ len := a, delay := b, base := ⟨c, d⟩, curve := l, weir := f, bottom := ⟨g, h⟩, flood := i }, e), rfl, h1, h2⟩) h
  refine ⟨l.map Prod.fst, l.map Prod.snd, ⟨by simp, ?_, fun i hi => ?_⟩, by simpa using h2, fun i hi => ?_⟩
  · rw [zip_fst_snd, List.length_map]; exact h1
  · have hi' : i < l.length := by simpa using hi
    have e1 : (l.map Prod.fst).getD i reach0 = l[i].1 := by simp [hi']
    have e2 : (l.map Prod.snd).getD i undef = l[i].2 := by simp [hi']
    rw [e1, e2]
    exact (h3 _ (List.getElem_mem hi')).1
  · have hi' : i < l.length := by simpa using hi
    have e1 : (l.map Prod.fst).getD i reach0 = l[i].1 := by simp [hi']
    rw [e1]
    exact (h3 _ (List.getElem_mem hi')).2
end
end Go.Proofs.Ytncnlhkmdljgpaa
namespace Go.Proofs.Ytncnlhkmdljgpaa
open Go Go.ChangeShapes Go.WideShapes Go.Deep Go.RowKit Go.Joins
section
variable {H : Type} {enc : TypeId × Value → H} {w : World} {base : Nat} {spare : Nat → Bool} {held : Bool}
theorem co_52 : Try.prog.cellsOf 52 = 1 := by kernel_rfl
set_option maxRecDepth 100000 in
theorem cells_54 {fuel : Nat} {cs : List Value} {x : DataW H × List MemPlace} (hl : cs.length = 3) (h : DataW.trod enc Try.prog w base spare held fuel 54 cs = some x) : ∃ (v0 : Value) (v1 : Value) (v2 : Value), cs = [v0, v1, v2] ∧ (∃ n x, DataW.trod enc Try.prog w base spare held n 44 [v0] = some x) ∧ (∃ n x, DataW.trod enc Try.prog w base spare held n 45 [v1] = some x) ∧ (∃ n x, DataW.trod enc Try.prog w base spare held n 52 [v2] = some x) := by
  obtain ⟨ys, n, _, _, _, hyl, hf⟩ := DataW.trod_struct Try.underlying54 h
  match cs, hl with
  | [u0, u1, u2], _ =>
    match ys, hyl with
    | [y0, y1], _ =>
      have q0 : DataW.trod enc Try.prog w base spare held n 47 [u0, u1] = some y0 := fld_of hf (j := 0) rfl rfl rfl co_47
      obtain ⟨a0, a1, e0, t0, t1⟩ := cells_47 rfl q0
      simp only [List.cons.injEq, and_true] at e0
      obtain ⟨rfl, rfl⟩ := e0
      have q1 : DataW.trod enc Try.prog w base spare held n 52 [u2] = some y1 := fld_of hf (j := 1) rfl rfl rfl co_52
      exact ⟨u0, u1, u2, rfl, t0, t1, ⟨_, _, q1⟩⟩
theorem co_54 : Try.prog.cellsOf 54 = 3 := by kernel_rfl
theorem co_28 : Try.prog.cellsOf 28 = 1 := by kernel_rfl
theorem cells_len_54 {fuel : Nat} {v : Value} {x : DataW H × List MemPlace} (h : DataW.trod enc Try.prog w base spare held fuel 54 v.cells.toList = some x) : v.cells.toList.length = 3 := by
  obtain ⟨_, _, _, _, hlen, _, _⟩ := DataW.trod_struct Try.underlying54 h
  rw [hlen]
  exact co_54
instance : Inhabited Bd := ⟨bd0⟩
instance : Inhabited (List Bd × Value) := ⟨([], .slice none 0 0)⟩
theorem rd_bds {fuel : Nat} {v : Value} {x : DataW H × List MemPlace} (h : DataW.trod enc Try.prog w base spare held fuel 28 [v] = some x) : ∃ l : List Bd, Rd w w.heap.size 2 v l.length (bdsC l) ∧ l.length ≤ maxLen := by
  obtain ⟨l, h1, _, h2⟩ := rd_list (f := bdC) (Good := fun _ => True) bdC_len (by omega) Try.underlying28 co_23 (fun _ cs _ hl ht => by
    obtain ⟨a, b, rfl⟩ := cells_23 hl ht
    exact ⟨⟨a, b⟩, rfl, trivial⟩) h
  exact ⟨l, h1, h2⟩
theorem flat_snd {α β : Type} : ∀ l : List (α × β), l.flatMap (fun p => [p.2]) = l.map Prod.snd
  | [] => rfl
  | (a, b) :: l => by simp [flat_snd l]
theorem rd_sides {fuel : Nat} {v : Value} {x : DataW H × List MemPlace} (h : DataW.trod enc Try.prog w base spare held fuel 52 [v] = some x) : ∃ (l : List (List Bd)) (vs : List Value), RdSides w w.heap.size v l vs ∧ l.length ≤ maxLen ∧ ∀ i, i < l.length → (l.getD i []).length ≤ maxLen := by
  obtain ⟨l, h1, h3, h2⟩ := rd_list (α := List Bd × Value) (s := 1) (f := fun p => [p.2]) (Good := fun p => Rd w w.heap.size 2 p.2 p.1.length (bdsC p.1) ∧ p.1.length ≤ maxLen) (fun _ => rfl) (by omega) Try.underlying52 co_28 (fun _ cs _ hl ht => by
    match cs, hl with
    | [u], _ =>
      obtain ⟨l, h1, h2⟩ := rd_bds ht
      exact ⟨(l, u), rfl, h1, h2⟩) h
  rw [flat_snd] at h1
  refine ⟨l.map Prod.fst, l.map Prod.snd, ⟨by simp, by simpa using h1, fun i hi => ?_⟩, by simpa using h2, fun i hi => ?_⟩
  · have hi' : i < l.length := by simpa using hi
    have e1 : (l.map Prod.fst).getD i [] = l[i].1 := by simp [hi']
    have e2 : (l.map Prod.snd).getD i undef = l[i].2 := by simp [hi']
    rw [e1, e2]
    exact (h3 _ (List.getElem_mem hi')).1
  · have hi' : i < l.length := by simpa using hi
    have e1 : (l.map Prod.fst).getD i [] = l[i].1 := by simp [hi']
    rw [e1]
    exact (h3 _ (List.getElem_mem hi')).2
theorem forecast_of {v : Value} {d : DataW H} {p : List MemPlace} (h : DataW.Trod enc Try.prog w base spare held 54 v d p) : ∃ (r : River) (sides : List (List Bd)) (a b s : Value) (vs ss : List Value), v = .agg #[a, b, s] ∧ RdRiver w w.heap.size a b r vs ∧ RdSides w w.heap.size s sides ss ∧ r.reaches.length ≤ maxLen ∧ r.shoals.length ≤ maxLen ∧ sides.length ≤ maxLen := by
  obtain ⟨fuel, hf⟩ := h
  obtain ⟨a, b, c, he, ⟨_, _, ha⟩, ⟨_, _, hb⟩, _, _, hc⟩ := cells_54 (cells_len_54 hf) hf
  obtain ⟨l, vs, h1, h2, _⟩ := rd_reaches ha
  obtain ⟨l1, h3, h4⟩ := rd_shoals hb
  obtain ⟨l2, ss, h5, h6, _⟩ := rd_sides hc
  refine ⟨⟨l, l1⟩, l2, a, b, c, vs, ss, ?_, ⟨h1, h3⟩, h5, h2, h4, h6⟩
  cases v with
  | agg cs =>
    have : cs = #[a, b, c] := by
      apply Array.ext'
      simpa [Value.cells] using he
    rw [this]
  | _ => simp [Value.cells] at he
end
end Go.Proofs.Ytncnlhkmdljgpaa
set_option linter.unusedVariables false
namespace Go.Proofs.Ytncnlhkmdljgpaa
open Go Go.RowKit Go.ChangeShapes Go.WideShapes Go.Joins
section
variable {H : Type} {enc : TypeId × Value → H} {P : Program} {w : World} {base : Nat} {spare : Nat → Bool} {held : Bool}
theorem wf_u8 {n : Int} (h : (Lit.int .u8 n).wf = true) : 0 ≤ n ∧ n ≤ 255 := by
  simp [Lit.wf, IntKind.min, IntKind.max, IntKind.signed, IntKind.bits] at h
  omega
end
end Go.Proofs.Ytncnlhkmdljgpaa
namespace Go.Proofs.Ytncnlhkmdljgpaa
open Go Go.RowKit
theorem topOf_bd {N : Int} {t : Int} : ∀ {l : List Shoal} {b : Bd}, (∀ j, j < l.length → shoalB N (l.getD j shoal0) = true) → -400 ≤ t → t ≤ 400 → (-20000 ≤ b.lo ∧ b.lo ≤ 30000) → (-20000 ≤ b.hi ∧ b.hi ≤ 30000) →
    (-20000 ≤ (topOf t b l).lo ∧ (topOf t b l).lo ≤ 30000) ∧ -20000 ≤ (topOf t b l).hi ∧ (topOf t b l).hi ≤ 30000
  | [], b, _, _, _, h1, h2 => ⟨h1, h2⟩
  | s :: l, b, hs, ht, ht', h1, h2 => by
    have h3 := bedOf_bd (hs 0 (by simp)) ht ht'
    rw [show (s :: l).getD 0 shoal0 = s from rfl] at h3
    exact topOf_bd (l := l) (b := b.top (bedOf s t)) (fun j hj => by have := hs (j + 1) (by simp; omega); simpa using this) ht ht' (by simp only [Bd.top]; omega) (by simp only [Bd.top]; omega)
theorem depth_any {w : World} {B g : Nat} {r : River} {sides : List (List Bd)} {v u vf : Value} {vs fs : List Value} (h : StreamOk w B g r sides v u vf vs fs) (hB : B ≤ w.heap.size) (i t : Nat) (hi : i < r.reaches.length) (ht : t < (sides.getD 0 []).length)
    (A1 : Option Addr) (n1 c1 : Nat) (A : Option Addr) (c : Nat) (l : List Shoal) (hl : Rd w B 6 (.slice A l.length c) l.length (shoalsC l)) (hs : ∀ j, j < l.length → shoalB (placesOf r.reaches) (l.getD j shoal0) = true) (hll : l.length ≤ 40) :
    Calls Try.prog 75 #[.pointer (some ⟨g, 0, none⟩), .agg (placeV (r.reaches.getD i reach0) (.slice A1 n1 c1) (i : Nat) (.slice A l.length c)), .int .i64 t] w fun e w' =>
      e = .returned (.agg #[.int .i64 (max 0 ((levelAt (r.reaches.getD i reach0) (flowIn r.reaches sides i t)).lo - (topOf t (r.reaches.getD i reach0).bottom l).hi)), .int .i64 (max 0 ((levelAt (r.reaches.getD i reach0) (flowIn r.reaches sides i t)).hi - (topOf t (r.reaches.getD i reach0).bottom l).lo))]) ∧ Below w.heap.size w w' := by
  have hreach := h.ok.river.reach i hi
  have hh := h.ok.hours
  have hlb := levelAt_bd hreach (flowIn r.reaches sides i t)
  have htb := topOf_bd (t := (t : Int)) (l := l) (N := placesOf r.reaches) (b := (r.reaches.getD i reach0).bottom) hs (by omega) (by omega) (by have := hreach.bottom; omega) (by have := hreach.bottom; omega)
  have hlev := fun W (hb : Below w.heap.size w W) => slevel_any (h.below (hb.mono hB)) (Nat.le_trans hB hb.size) i t hi (by omega)
  have hbed := fun W (hb : Below w.heap.size w W) => bed_any (r.reaches.getD i reach0) (.slice A1 n1 c1) (i : Nat) A c B l (t : Int) (placesOf r.reaches) W (hl.below (hb.mono hB)) (Nat.le_trans hB hb.size) ⟨_, _, _, rfl⟩ hs (by omega) (by omega) (by have := hreach.bottom; omega)
  obtain ⟨x, ex⟩ : ∃ x, x = r.reaches.getD i reach0 := ⟨_, rfl⟩
  rw [← ex] at hbed htb hlev hlb ⊢
  obtain ⟨⟨ll, lh⟩, e1⟩ : ∃ y, y = levelAt x (flowIn r.reaches sides i t) := ⟨_, rfl⟩
  rw [← e1] at hlev hlb ⊢
  obtain ⟨⟨bl, bh⟩, e2⟩ : ∃ y, y = topOf t x.bottom l := ⟨_, rfl⟩
  rw [← e2] at hbed htb ⊢
  simp only at hlb htb ⊢
  have hw1 : IntKind.i64.wrap (ll - bh) = ll - bh := IntWalk.i64_in _ ⟨by omega, by omega⟩
  have hw2 : IntKind.i64.wrap (lh - bl) = lh - bl := IntWalk.i64_in _ ⟨by omega, by omega⟩
  have hbw := Below.refl w.heap.size w
  refine EC.enter 30 Try.func75 rfl rfl rfl ?_
  -- body
  refine EC.seq ?_
  refine EC.region ?_
  refine EL.newP (bx_129 rfl) rfl ?_
  intro g1 w1 q1 hb1 hg1 hl1
  have bhbw_1 := Nat.le_trans hbw.size hg1
  replace hbw := Below.on hbw hb1 hbw.size
  clear hb1 hg1 hl1
  refine EL.newP al_23 rfl ?_
  intro g2 w2 q2 hb2 hg2 hl2
  have n1_2 : g1 ≠ g2 := Nat.ne_of_lt (Nat.lt_of_lt_of_le q1.lt hg2)
  have bhbw_2 := Nat.le_trans hbw.size hg2
  replace q1 := q1.below hb2 q1.lt
  replace hbw := Below.on hbw hb2 hbw.size
  clear hb2 hg2 hl2
  refine EL.nil ?_
  refine EX.seq ?_
  refine EC.seq ?_
  have lt_1 := q1.lt
  have lt_2 := q2.lt
  refine EC.regionP [[], [], [1], [], [0, 1, 2, 3], [], [], [0, 1, 2, 3, 4, 5, 6], [], [], [0, 1, 2, 3, 4, 5, 6, 7, 8, 9], [0, 1, 2, 3, 4, 5, 6, 7, 8, 9, 10]] 10 [8, 9] (phi (fun i_ r => match i_ with | 0 => r 0 = .pointer (some ⟨g, 0, none⟩) | 1 => r 1 = .pointer (some ⟨g1, 9, none⟩) | 2 => r 2 = .int .i64 (i : Nat) | 3 => r 3 = .int .i64 (t : Nat) | 4 => r 4 = .agg #[.int .i64 ll, .int .i64 lh] | 5 => r 5 = .agg (placeV x (.slice A1 n1 c1) (i : Nat) (.slice A l.length c)) | 6 => r 6 = .int .i64 (t : Nat) | 7 => r 7 = .agg #[.int .i64 bl, .int .i64 bh] | _ => True) [(8, fun r w_ => ∃ g_, r 8 = .pointer (some ⟨g_, 0, none⟩) ∧ Blk w_ g_ 23 #[.int .i64 0, .int .i64 0]), (9, fun r w_ => ∃ g_, r 9 = .pointer (some ⟨g_, 0, none⟩) ∧ Blk w_ g_ 23 #[.int .i64 0, .int .i64 0])]) (by kernel_rfl) rfl rfl (phi_cons mono_alloc (phi_cons mono_alloc (phi_nil))) (fun i_ hi_ => ?_) ?_
  · match i_, hi_ with
    | 0, _ =>
      intro val w1 a hb ha hd
      have ha := ha.sub (Sub.ins (d := 0) (Sub.nil _) rfl)
      exact hs_val ha rfl rfl (x_move rfl) rfl rfl
    | 1, _ =>
      intro val w1 a hb ha hd
      have ha := ha.sub (Sub.ins (d := 4) (Sub.nil _) rfl)
      exact hs_val ha rfl rfl (fa_129_1 rfl) rfl rfl
    | 2, _ =>
      intro val w1 a hb ha hd
      have e1 : val 1 = .pointer (some ⟨g1, 9, none⟩) := hd 1 (memB_mem.1 rfl)
      have ha := ha.sub (Sub.ins (d := 10) (Sub.nil _) (dep_get rfl e1))
      exact hs_val ha rfl rfl (ld_3 rfl ((q1.below hb q1.lt).at (j := 9) rfl)) rfl rfl
    | 3, _ =>
      intro val w1 a hb ha hd
      have ha := ha.sub (Sub.ins (d := 2) (Sub.nil _) rfl)
      exact hs_val ha rfl rfl (x_move rfl) rfl rfl
    | 4, _ =>
      intro val w1 a hb ha hd
      have e0 : val 0 = .pointer (some ⟨g, 0, none⟩) := hd 0 (memB_mem.1 rfl)
      have e2 : val 2 = .int .i64 (i : Nat) := hd 2 (memB_mem.1 rfl)
      have e3 : val 3 = .int .i64 (t : Nat) := hd 3 (memB_mem.1 rfl)
      have ha := ha.sub (Sub.ins (d := 12) (Sub.ins (d := 11) (Sub.ins (d := 9) (Sub.nil _) (dep_get rfl e0)) (dep_get rfl e2)) (dep_get rfl e3))
      refine hs_call ha rfl rfl (cl_78 rfl rfl rfl) (hlev _ (Below.on hbw hb hbw.size)) rfl ?_
      rintro e w' ⟨rfl, hb'⟩
      exact ⟨_, rfl, hb', rfl⟩
    | 5, _ =>
      intro val w1 a hb ha hd
      have ha := ha.sub (Sub.ins (d := 4) (Sub.nil _) rfl)
      exact hs_val ha rfl rfl (ld_129 rfl ((q1.below hb q1.lt).at (j := 0) rfl) ((q1.below hb q1.lt).at (j := 1) rfl) ((q1.below hb q1.lt).at (j := 2) rfl) ((q1.below hb q1.lt).at (j := 3) rfl) ((q1.below hb q1.lt).at (j := 4) rfl) ((q1.below hb q1.lt).at (j := 5) rfl) ((q1.below hb q1.lt).at (j := 6) rfl) ((q1.below hb q1.lt).at (j := 7) rfl) ((q1.below hb q1.lt).at (j := 8) rfl) ((q1.below hb q1.lt).at (j := 9) rfl) ((q1.below hb q1.lt).at (j := 10) rfl)) rfl rfl
    | 6, _ =>
      intro val w1 a hb ha hd
      have ha := ha.sub (Sub.ins (d := 2) (Sub.nil _) rfl)
      exact hs_val ha rfl rfl (x_move rfl) rfl rfl
    | 7, _ =>
      intro val w1 a hb ha hd
      have e5 : val 5 = .agg (placeV x (.slice A1 n1 c1) (i : Nat) (.slice A l.length c)) := hd 5 (memB_mem.1 rfl)
      have e6 : val 6 = .int .i64 (t : Nat) := hd 6 (memB_mem.1 rfl)
      have ha := ha.sub (Sub.ins (d := 15) (Sub.ins (d := 14) (Sub.nil _) (dep_get rfl e5)) (dep_get rfl e6))
      refine hs_call ha rfl rfl (cl_72 rfl rfl) (hbed _ (Below.on hbw hb hbw.size)) rfl ?_
      rintro e w' ⟨rfl, hb'⟩
      exact ⟨_, rfl, hb', rfl⟩
    | 8, _ =>
      intro val w1 a hb ha hd
      have ha := ha.sub (Sub.nil _)
      exact hs_newP ha rfl rfl al_23 (fun g w' hq _ _ => ⟨g, rfl, hq⟩)
    | 9, _ =>
      intro val w1 a hb ha hd
      have ha := ha.sub (Sub.nil _)
      exact hs_newP ha rfl rfl al_23 (fun g w' hq _ _ => ⟨g, rfl, hq⟩)
    | k + 10, h => exact absurd h (by omega)
  · intro val w' hb halc hd
    have e0 : val 0 = .pointer (some ⟨g, 0, none⟩) := hd 0 (by omega)
    have e1 : val 1 = .pointer (some ⟨g1, 9, none⟩) := hd 1 (by omega)
    have e2 : val 2 = .int .i64 (i : Nat) := hd 2 (by omega)
    have e3 : val 3 = .int .i64 (t : Nat) := hd 3 (by omega)
    have e4 : val 4 = .agg #[.int .i64 ll, .int .i64 lh] := hd 4 (by omega)
    have e5 : val 5 = .agg (placeV x (.slice A1 n1 c1) (i : Nat) (.slice A l.length c)) := hd 5 (by omega)
    have e6 : val 6 = .int .i64 (t : Nat) := hd 6 (by omega)
    have e7 : val 7 = .agg #[.int .i64 bl, .int .i64 bh] := hd 7 (by omega)
    obtain ⟨ga8, e8, qa8⟩ := hd 8 (by omega)
    obtain ⟨ga9, e9, qa9⟩ := hd 9 (by omega)
    refine EL.ends (cs := [.pointer (some ⟨g, 0, none⟩), .pointer (some ⟨g1, 9, none⟩), .int .i64 (i : Nat), .int .i64 (t : Nat), .agg #[.int .i64 ll, .int .i64 lh], .agg (placeV x (.slice A1 n1 c1) (i : Nat) (.slice A l.length c)), .int .i64 (t : Nat), .agg #[.int .i64 bl, .int .i64 bh], .pointer (some ⟨ga8, 0, none⟩), .pointer (some ⟨ga9, 0, none⟩)]) ⟨e0, e1, e2, e3, e4, e5, e6, e7, e8, e9, trivial⟩ rfl ?_
    replace q1 := q1.below hb q1.lt
    replace q2 := q2.below hb q2.lt
    have bge3 := alc_ge halc (i := 8) rfl rfl e8
    have n1_3 : g1 ≠ ga8 := Nat.ne_of_lt (Nat.lt_of_lt_of_le lt_1 bge3)
    have n2_3 : g2 ≠ ga8 := Nat.ne_of_lt (Nat.lt_of_lt_of_le lt_2 bge3)
    have bhbw_3 := Nat.le_trans hbw.size bge3
    have bge4 := alc_ge halc (i := 9) rfl rfl e9
    have n1_4 : g1 ≠ ga9 := Nat.ne_of_lt (Nat.lt_of_lt_of_le lt_1 bge4)
    have n2_4 : g2 ≠ ga9 := Nat.ne_of_lt (Nat.lt_of_lt_of_le lt_2 bge4)
    have n3_4 : ga8 ≠ ga9 := alc_ne halc (i := 8) (j := 9) rfl rfl rfl rfl rfl e8 e9
    have bhbw_4 := Nat.le_trans hbw.size bge4
    replace hbw := Below.on hbw hb hbw.size
    clear hb
    refine EL.store rfl rfl qa8 sz_23 rfl rfl rfl rfl ?_
    intro w5 hq5 hg5
    replace q1 := q1.grown hg5 (fun h => n1_3 (Option.some.inj h))
    replace q2 := q2.grown hg5 (fun h => n2_3 (Option.some.inj h))
    replace qa9 := qa9.grown hg5 (fun h => n3_4.symm (Option.some.inj h))
    replace hbw := below_store hbw hg5 bhbw_3
    replace qa8 := hq5
    clear hg5 hq5
    refine EL.store rfl rfl qa9 sz_23 rfl rfl rfl rfl ?_
    intro w6 hq6 hg6
    replace q1 := q1.grown hg6 (fun h => n1_4 (Option.some.inj h))
    replace q2 := q2.grown hg6 (fun h => n2_4 (Option.some.inj h))
    replace qa8 := qa8.grown hg6 (fun h => n3_4 (Option.some.inj h))
    replace hbw := below_store hbw hg6 bhbw_4
    replace qa9 := hq6
    clear hg6 hq6
    refine EL.nil ?_
    refine EX.seq ?_
    refine EC.seq ?_
    refine EC.region ?_
    refine EL.val (fa_23_0 rfl) rfl ?_
    refine EL.val (ld_3 rfl (qa8.at (j := 0) rfl)) rfl ?_
    refine EL.val (fa_23_1 rfl) rfl ?_
    refine EL.val (ld_3 rfl (qa9.at (j := 1) rfl)) rfl ?_
    refine EL.val (x_sub rfl rfl hw1) rfl ?_
    refine EL.val (mm_max rfl rfl rfl) rfl ?_
    refine EL.val (fa_23_1 rfl) rfl ?_
    refine EL.val (ld_3 rfl (qa8.at (j := 1) rfl)) rfl ?_
    refine EL.val (fa_23_0 rfl) rfl ?_
    refine EL.val (ld_3 rfl (qa9.at (j := 0) rfl)) rfl ?_
    refine EL.val (x_sub rfl rfl hw2) rfl ?_
    refine EL.val (mm_max rfl rfl rfl) rfl ?_
    refine EL.val (bd_23_0_1 rfl rfl) rfl ?_
    refine EL.store rfl rfl q2 sz_23 rfl rfl rfl rfl ?_
    intro w7 hq7 hg7
    replace q1 := q1.grown hg7 (fun h => n1_2 (Option.some.inj h))
    replace qa8 := qa8.grown hg7 (fun h => n2_3.symm (Option.some.inj h))
    replace qa9 := qa9.grown hg7 (fun h => n2_4.symm (Option.some.inj h))
    replace hbw := below_store hbw hg7 bhbw_2
    replace q2 := hq7
    clear hg7 hq7
    refine EL.nil ?_
    refine EX.seq ?_
    refine EC.ret ?_
    exact EX.done (resc1 rfl rfl (lv_23 (q2.at rfl) (q2.at rfl))) ⟨rfl, hbw⟩
end Go.Proofs.Ytncnlhkmdljgpaa
set_option linter.unusedVariables false
namespace Go.Proofs.Ytncnlhkmdljgpaa
open Go Go.RowKit
section
variable {rv : River} {sides : List (List Bd)}
theorem all_getD {α : Type} {l : List α} {d : α} {p : α → Bool} (h : ∀ i, i < l.length → p (l.getD i d) = true) : l.all p = true := List.all_eq_true.2 fun x hx => by
  obtain ⟨k, hk, e⟩ := List.getElem_of_mem hx
  have := h k hk
  rwa [show l.getD k d = x by simp [hk, e]] at this
theorem start0 (h : riverB rv = true) (h1 : ¬(sides.length ≠ rv.reaches.length ∨ (sides.getD 0 []).length = 0)) (h2 : ∀ i, i < sides.length → (sides.getD i []).length = (sides.getD 0 []).length) (h3 : ¬400 < (sides.getD 0 []).length) (h4 : ∀ i, i < sides.length → ∀ k, k < (sides.getD i []).length → bdOk 0 10000000000 ((sides.getD i []).getD k bd0) = true) : startErr rv sides = 0 := by
  have e : (sides.all fun l => decide (l.length = (sides.getD 0 []).length)) = true := all_getD (d := []) fun i hi => decide_eq_true (h2 i hi)
  have e2 : (sides.all fun l => l.all (bdOk 0 10000000000)) = true := all_getD (d := []) fun i hi => all_getD (d := bd0) (h4 i hi)
  rw [side_err h, if_neg h1, if_neg (by rw [e]; simp), if_neg h3, if_neg (by rw [e2]; simp)]
end
end Go.Proofs.Ytncnlhkmdljgpaa
set_option linter.unusedVariables false
namespace Go.Proofs.Ytncnlhkmdljgpaa
open Go Go.RowKit
structure Pass where
  place : Int
  hours : Bd
def pass0 : Pass := ⟨0, bd0⟩
def passC (p : Pass) : List Value := [.int .i64 p.place, .int .i64 p.hours.lo, .int .i64 p.hours.hi]
def passesC (l : List Pass) : List Value := l.flatMap passC
theorem passC_len (s : Pass) : (passC s).length = 3 := rfl
theorem passesC_len (l : List Pass) : (passesC l).length = l.length * 3 := flat_len passC_len l
theorem passesC_one (l : List Pass) : ∀ u ∈ passesC l, u.oneCell' = true := flat_one (by intro x u hu; simp [passC] at hu; rcases hu with rfl | rfl | rfl <;> rfl) l
structure PassAt (w : World) (b o : Nat) (s : Pass) : Prop where
  c0 : w.cell? ⟨b, o, none⟩ = some (.int .i64 s.place)
  c1 : w.cell? ⟨b, o + 1, none⟩ = some (.int .i64 s.hours.lo)
  c2 : w.cell? ⟨b, o + 2, none⟩ = some (.int .i64 s.hours.hi)
theorem passes_cells (l : List Pass) (k : Nat) (hk : k < l.length) (w : World) (B : Nat) (A : Option Addr) (n c : Nat) (hr : Rd w B 3 (.slice A n c) n (passesC l)) :
    ∃ b off, A = some ⟨b, off, none⟩ ∧ b < B ∧ PassAt w b (off + k * 3) (l.getD k pass0) := by
  have hl : n * 3 = l.length * 3 := by rw [← hr.len, passesC_len]
  obtain ⟨b, off, rfl, hb, hc⟩ := hr.at_ (by omega)
  have e : l.getD k pass0 = l[k] := by simp [hk]
  rw [e]
  have g := fun j hj => flat_get passC_len l k hk j hj
  exact ⟨b, off, rfl, hb, hc (k * 3) _ (g 0 (by omega)), hc (k * 3 + 1) _ (g 1 (by omega)), hc (k * 3 + 2) _ (g 2 (by omega))⟩
/-- the error of a way -/
def passBad (n h : Int) : List Pass → Int
  | [] => 0
  | x :: l => if inB 0 (n - 1) x.place = false then 7 else if bdOk 0 (h - 1) x.hours = false then 3 else passBad n h l
def wayErr (n h : Int) (l : List Pass) : Int := if l.length = 0 then 4 else if 60 < l.length then 5 else passBad n h l
def passOk (n h : Int) (x : Pass) : Prop := inB 0 (n - 1) x.place = true ∧ bdOk 0 (h - 1) x.hours = true
section
variable {n h : Int}
theorem passBad_ok : ∀ {l : List Pass}, (∀ j, j < l.length → passOk n h (l.getD j pass0)) → passBad n h l = 0
  | [], _ => rfl
  | x :: l, H => by
    have h0 := H 0 (by simp)
    simp only [List.getD_cons_zero] at h0
    rw [passBad, h0.1, h0.2, if_neg (by simp), if_neg (by simp)]
    exact passBad_ok fun j hj => by have := H (j + 1) (by simp; omega); simpa using this
theorem passBad_at : ∀ {l : List Pass} {k : Nat}, k < l.length → (∀ j, j < k → passOk n h (l.getD j pass0)) → passBad n h l = if inB 0 (n - 1) (l.getD k pass0).place = false then 7 else if bdOk 0 (h - 1) (l.getD k pass0).hours = false then 3 else passBad n h (l.drop (k + 1))
  | [], k, hk, _ => by simp at hk
  | x :: l, 0, _, _ => by simp [passBad]
  | x :: l, k + 1, hk, H => by
    have h0 := H 0 (by omega)
    simp only [List.getD_cons_zero] at h0
    rw [passBad, h0.1, h0.2, if_neg (by simp), if_neg (by simp), List.getD_cons_succ, List.drop_succ_cons]
    exact passBad_at (by simpa using hk) fun j hj => by have := H (j + 1) (by omega); simpa using this
theorem passBad_7 {l : List Pass} {k : Nat} (hk : k < l.length) (H : ∀ j, j < k → passOk n h (l.getD j pass0)) (hp : inB 0 (n - 1) (l.getD k pass0).place = false) : passBad n h l = 7 := by
  rw [passBad_at hk H, if_pos hp]
theorem passBad_3 {l : List Pass} {k : Nat} (hk : k < l.length) (H : ∀ j, j < k → passOk n h (l.getD j pass0)) (hp : inB 0 (n - 1) (l.getD k pass0).place = true) (hh : bdOk 0 (h - 1) (l.getD k pass0).hours = false) : passBad n h l = 3 := by
  rw [passBad_at hk H, if_neg (by rw [hp]; simp), if_pos hh]
theorem passBad_mem : ∀ {l : List Pass}, passBad n h l = 0 → ∀ j, j < l.length → passOk n h (l.getD j pass0)
  | [], _, j, hj => by simp at hj
  | x :: l, H, j, hj => by
    rw [passBad] at H
    cases h1 : inB 0 (n - 1) x.place with
    | false => rw [if_pos h1] at H; omega
    | true =>
      rw [if_neg (by rw [h1]; simp)] at H
      cases h2 : bdOk 0 (h - 1) x.hours with
      | false => rw [if_pos h2] at H; omega
      | true =>
        rw [if_neg (by rw [h2]; simp)] at H
        cases j with
        | zero => exact ⟨h1, h2⟩
        | succ j => rw [List.getD_cons_succ]; exact passBad_mem H j (by simpa using hj)
end
/-- the least depth, where and when; most: the greatest depth at this pass -/
structure Sh where
  lo : Int
  pass : Int
  hour : Int
  most : Int
def shStep (i k : Int) (d : Bd) (s : Sh) : Sh := if d.lo < s.lo then ⟨d.lo, i, k, max s.most d.hi⟩ else ⟨s.lo, s.pass, s.hour, max s.most d.hi⟩
def shIn (D : Int → Bd) (i k0 : Int) (s : Sh) : Nat → Sh
  | 0 => s
  | n + 1 => shStep i (k0 + n) (D (k0 + n)) (shIn D i k0 s n)
structure Shal where
  lo : Int
  hi : Int
  pass : Int
  hour : Int
def hoursN (b : Bd) : Nat := (b.hi - b.lo + 1).toNat
def shNext (D : Int → Bd) (i : Int) (b : Bd) (s : Shal) : Shal :=
  let t := shIn D i b.lo ⟨s.lo, s.pass, s.hour, 0⟩ (hoursN b)
  ⟨t.lo, min s.hi t.most, t.pass, t.hour⟩
def shUp (rv : River) (sides : List (List Bd)) (l : List Pass) : Nat → Shal
  | 0 => ⟨1000000, 1000000, 0, 0⟩
  | j + 1 => shNext (depthAt rv sides (l.getD j pass0).place) j (l.getD j pass0).hours (shUp rv sides l j)
theorem depth_bd {rv : River} {sides : List (List Bd)} (hS : StartOk rv sides) {p t : Int} (hp1 : 0 ≤ p) (hp2 : p < placesOf rv.reaches) (ht1 : 0 ≤ t) (ht2 : t < (sides.getD 0 []).length) :
    (0 ≤ (depthAt rv sides p t).lo ∧ (depthAt rv sides p t).lo ≤ 30000) ∧ 0 ≤ (depthAt rv sides p t).hi ∧ (depthAt rv sides p t).hi ≤ 30000 := by
  have hlt := reachOf_lt rv.reaches p hp1 hp2
  have hx := hS.river.reach _ hlt
  have hlb := levelAt_bd hx (flowIn rv.reaches sides (reachOf rv.reaches p) t)
  have hhr := hS.hours
  have htb : (-20000 ≤ (bedAt rv p t).lo ∧ (bedAt rv p t).lo ≤ 30000) ∧ -20000 ≤ (bedAt rv p t).hi ∧ (bedAt rv p t).hi ≤ 30000 := topOf_bd (N := placesOf rv.reaches) (fun j hj => by
    have hm : (shoalsAt rv.shoals p).getD j shoal0 ∈ rv.shoals := (List.mem_filter.1 (show _ ∈ rv.shoals.filter _ from getD_mem hj)).1
    obtain ⟨k, hk, e⟩ := List.getElem_of_mem hm
    have := hS.river.shoal k hk
    rwa [show rv.shoals.getD k shoal0 = (shoalsAt rv.shoals p).getD j shoal0 by simp [hk, e]] at this) (by omega) (by omega) (by have := hx.bottom; omega) (by have := hx.bottom; omega)
  simp only [depthAt]
  omega
theorem shIn_bd {D : Int → Bd} {i k0 : Int} {s : Sh} {n : Nat} (hD : ∀ j : Nat, j < n → 0 ≤ (D (k0 + j)).lo ∧ (D (k0 + j)).lo ≤ 30000 ∧ 0 ≤ (D (k0 + j)).hi ∧ (D (k0 + j)).hi ≤ 30000) (hs : 0 ≤ s.lo ∧ s.lo ≤ 1000000) (hm : 0 ≤ s.most ∧ s.most ≤ 30000) :
    (0 ≤ (shIn D i k0 s n).lo ∧ (shIn D i k0 s n).lo ≤ 1000000) ∧ (0 ≤ (shIn D i k0 s n).most ∧ (shIn D i k0 s n).most ≤ 30000) ∧ (0 < n → (shIn D i k0 s n).lo ≤ 30000) := by
  induction n with
  | zero => exact ⟨hs, hm, fun h => absurd h (by omega)⟩
  | succ n ih =>
    obtain ⟨h1, h2, h3⟩ := ih fun j hj => hD j (by omega)
    have h4 := hD n (by omega)
    rw [shIn, shStep]
    split
    · simp only; omega
    · simp only; omega
theorem hoursN_eq {b : Bd} (h : b.lo ≤ b.hi) : ((hoursN b : Nat) : Int) = b.hi - b.lo + 1 := by unfold hoursN; omega
theorem shUp_bd {rv : River} {sides : List (List Bd)} (hS : StartOk rv sides) {l : List Pass} (hl : ∀ j, j < l.length → passOk (placesOf rv.reaches) ((sides.getD 0 []).length : Nat) (l.getD j pass0)) : ∀ {j : Nat}, j ≤ l.length → (0 ≤ (shUp rv sides l j).lo ∧ (shUp rv sides l j).lo ≤ 1000000) ∧ (0 ≤ (shUp rv sides l j).hi ∧ (shUp rv sides l j).hi ≤ 1000000) ∧ (0 < j → (shUp rv sides l j).lo ≤ 30000 ∧ (shUp rv sides l j).hi ≤ 30000)
  | 0, _ => by simp [shUp]
  | j + 1, hj => by
    obtain ⟨h1, h2, h3⟩ := shUp_bd hS hl (j := j) (by omega)
    obtain ⟨hp, hh⟩ := hl j (by omega)
    have hp := inB_iff.1 hp
    have hh := bdOk_iff.1 hh
    have hn := hoursN_eq hh.2.1
    have key := shIn_bd (D := depthAt rv sides (l.getD j pass0).place) (i := j) (k0 := (l.getD j pass0).hours.lo) (s := ⟨(shUp rv sides l j).lo, (shUp rv sides l j).pass, (shUp rv sides l j).hour, 0⟩) (n := hoursN (l.getD j pass0).hours) (fun m hm => by
      have := depth_bd hS (p := (l.getD j pass0).place) (t := (l.getD j pass0).hours.lo + m) (by omega) (by omega) (by omega) (by omega)
      omega) h1 (by simp)
    obtain ⟨k1, k2, k3⟩ := key
    have k4 := k3 (by omega)
    rw [shUp, shNext]
    simp only
    omega
/-- what Shallowest returns -/
def shaErr (rv : River) (sides : List (List Bd)) (l : List Pass) : Int := if startErr rv sides ≠ 0 then startErr rv sides else wayErr (placesOf rv.reaches) ((sides.getD 0 []).length : Nat) l
def shaRes (rv : River) (sides : List (List Bd)) (l : List Pass) : Shal := if shaErr rv sides l = 0 then shUp rv sides l l.length else ⟨0, 0, 0, 0⟩
section
variable {rv : River} {sides : List (List Bd)} {l : List Pass}
theorem sha_open (h : startErr rv sides ≠ 0) : shaErr rv sides l = startErr rv sides ∧ shaRes rv sides l = ⟨0, 0, 0, 0⟩ := by simp [shaErr, shaRes, h]
theorem sha_way {e : Int} (h : startErr rv sides = 0) (h2 : wayErr (placesOf rv.reaches) ((sides.getD 0 []).length : Nat) l = e) (he : e ≠ 0) : shaErr rv sides l = e ∧ shaRes rv sides l = ⟨0, 0, 0, 0⟩ := by
  have h3 : shaErr rv sides l = e := by rw [shaErr, if_neg (by omega), h2]
  exact ⟨h3, by rw [shaRes, h3, if_neg he]⟩
theorem sha_ok (h : startErr rv sides = 0) (h2 : wayErr (placesOf rv.reaches) ((sides.getD 0 []).length : Nat) l = 0) : shaErr rv sides l = 0 ∧ shaRes rv sides l = shUp rv sides l l.length := by
  have h3 : shaErr rv sides l = 0 := by rw [shaErr, if_neg (by omega), h2]
  exact ⟨h3, by rw [shaRes, if_pos h3]⟩
theorem way_4 {n h : Int} (hl : l.length = 0) : wayErr n h l = 4 := by rw [wayErr, if_pos hl]
theorem way_5 {n h : Int} (hl : 60 < l.length) : wayErr n h l = 5 := by rw [wayErr, if_neg (by omega), if_pos hl]
theorem way_in {n h : Int} (h1 : l.length ≠ 0) (h2 : ¬60 < l.length) : wayErr n h l = passBad n h l := by rw [wayErr, if_neg h1, if_neg h2]
end
/-- the places, found: curve and shoals of each -/
def placeC (rv : River) (q : Pass × Value × Value) : List Value := (placeV (rv.reaches.getD (reachOf rv.reaches q.1.place) reach0) q.2.1 (reachOf rv.reaches q.1.place : Nat) q.2.2).toList
theorem placeC_len (rv : River) (q : Pass × Value × Value) : (placeC rv q).length = 11 := rfl
def shoalRows (rv : River) (l : List Pass) : List (Nat × List Value) := l.map fun x => ((shoalsAt rv.shoals x.place).length, shoalsC (shoalsAt rv.shoals x.place))
theorem shoalRows_take {rv : River} {l : List Pass} {i : Nat} (hi : i < l.length) : shoalRows rv (l.take (i + 1)) = shoalRows rv (l.take i) ++ [((shoalsAt rv.shoals (l.getD i pass0).place).length, shoalsC (shoalsAt rv.shoals (l.getD i pass0).place))] := by
  rw [List.take_succ_eq_append_getElem hi]
  unfold shoalRows
  rw [List.map_append]
  simp [hi]
theorem placeC_take {rv : River} {l : List Pass} {ps : List (Value × Value)} {v : Value × Value} {i : Nat} (hi : i < l.length) (hf : ps.length = i) : ((l.take (i + 1)).zip (ps ++ [v])).flatMap (placeC rv) = ((l.take i).zip ps).flatMap (placeC rv) ++ placeC rv (l.getD i pass0, v) := by
  rw [List.take_succ_eq_append_getElem hi, List.zip_append (by simp; omega)]
  simp [hi]
end Go.Proofs.Ytncnlhkmdljgpaa
namespace Go.Proofs.Ytncnlhkmdljgpaa
open Go Go.ChangeShapes Go.WideShapes Go.Deep Go.RowKit Go.Joins
section
variable {H : Type} {enc : TypeId × Value → H} {w : World} {base : Nat} {spare : Nat → Bool} {held : Bool}
set_option maxRecDepth 100000 in
theorem cells_101 {fuel : Nat} {cs : List Value} {x : DataW H × List MemPlace} (hl : cs.length = 3) (h : DataW.trod enc Try.prog w base spare held fuel 101 cs = some x) : ∃ (z0 : Int) (z1 : Int) (z2 : Int), cs = [.int .i64 z0, .int .i64 z1, .int .i64 z2] := by
  obtain ⟨ys, n, _, _, _, hyl, hf⟩ := DataW.trod_struct Try.underlying101 h
  match cs, hl with
  | [u0, u1, u2], _ =>
    match ys, hyl with
    | [y0, y1], _ =>
      have q0 : DataW.trod enc Try.prog w base spare held n 3 [u0] = some y0 := fld_of hf (j := 0) rfl rfl rfl co_3
      obtain ⟨z0, hz0, _, _⟩ := DataW.trod_int Try.underlying3 q0
      injection hz0 with hz0
      subst hz0
      have q1 : DataW.trod enc Try.prog w base spare held n 23 [u1, u2] = some y1 := fld_of hf (j := 1) rfl rfl rfl co_23
      obtain ⟨a1, a2, e1⟩ := cells_23 rfl q1
      simp only [List.cons.injEq, and_true] at e1
      obtain ⟨rfl, rfl⟩ := e1
      exact ⟨z0, a1, a2, rfl⟩
theorem co_101 : Try.prog.cellsOf 101 = 3 := by kernel_rfl
instance : Inhabited Pass := ⟨pass0⟩
theorem rd_passes {fuel : Nat} {v : Value} {x : DataW H × List MemPlace} (h : DataW.trod enc Try.prog w base spare held fuel 99 [v] = some x) : ∃ l : List Pass, Rd w w.heap.size 3 v l.length (passesC l) ∧ l.length ≤ maxLen := by
  obtain ⟨l, h1, _, h2⟩ := rd_list (f := passC) (Good := fun _ => True) passC_len (by omega) Try.underlying99 co_101 (fun _ cs _ hl ht => by
    obtain ⟨a, b, c, rfl⟩ := cells_101 hl ht
    exact ⟨⟨a, ⟨b, c⟩⟩, rfl, trivial⟩) h
  exact ⟨l, h1, h2⟩
end
end Go.Proofs.Ytncnlhkmdljgpaa
namespace Go.Proofs.Ytncnlhkmdljgpaa
open Go Go.RowKit
theorem river_lens {r : River} (hok : riverB r = true) : lensB r.reaches := by
  have hR := riverB_ok hok
  have hs := hR.some
  simp only [riverB, Bool.and_eq_true] at hok
  exact lens_ok (by omega) fun x hx => by have := (reachB_ok (List.all_eq_true.1 hok.2.2.1 x hx)).len; omega
theorem withinB1 (p lo hi : Int) (b : Bool) (w : World) {g T : Nat} (hq : Blk w g T #[.int .i64 p]) (h : inB lo hi p = b) :
    Calls Try.prog 57 #[.int .i64 lo, .int .i64 hi, .slice (some ⟨g, 0, none⟩) 1 1] w fun e w' => e = .returned (.bool b) ∧ Below w.heap.size w w' := by
  have := within_any [p] lo hi _ 1 w w.heap.size (rd_one (l := [.int .i64 p]) hq rfl) (Nat.le_refl _) (by omega)
  have e : [p].all (inB lo hi) = b := by simp [h]
  rw [e] at this
  exact this
theorem isv_one (b : Bd) (lo hi : Int) (x : Bool) (w : World) {g T : Nat} (hq : Blk w g T #[.int .i64 b.lo, .int .i64 b.hi]) (h : bdOk lo hi b = x) :
    Calls Try.prog 58 #[.int .i64 lo, .int .i64 hi, .slice (some ⟨g, 0, none⟩) 1 1] w fun e w' => e = .returned (.bool x) ∧ Below w.heap.size w w' := by
  have := isValid_any [b] lo hi _ w w.heap.size (rd_one (l := [.int .i64 b.lo, .int .i64 b.hi]) hq rfl) (Nat.le_refl _) (by simp)
  have e : [b].all (bdOk lo hi) = x := by simp [h]
  rw [e] at this
  exact this
theorem find_bad (r : River) (v u : Value) (vs : List Value) (p : Int) (w : World) (B : Nat) (hr : RdRiver w B v u r vs) (hB : B ≤ w.heap.size) (hok : riverB r = true) (hp : inB 0 (placesOf r.reaches - 1) p = false) :
    Calls Try.prog 71 #[.agg #[v, u], .int .i64 p] w fun e w' => e = .returned (.tuple #[.agg (placeV reach0 (.slice none 0 0) 0 (.slice none 0 0)), .bool false]) ∧ Below w.heap.size w w' := by
  have hR := riverB_ok hok
  have hpl := hR.places
  have hl : r.reaches.length ≤ 1048576 := by have := hR.some; omega
  have hlb : lensB r.reaches := river_lens hok
  have hsub : IntKind.i64.wrap (placesOf r.reaches - 1) = placesOf r.reaches - 1 := IntWalk.i64_in _ ⟨by omega, by omega⟩
  obtain ⟨A, c, rfl, _⟩ := hr.reaches.shape
  obtain ⟨A', c', rfl, _⟩ := hr.shoals.shape
  have hbw := Below.refl w.heap.size w
  refine EC.enter 60 Try.func71 rfl rfl rfl ?_
  refine EC.seq ?_
  refine EC.region ?_
  refine EL.newP (bx_47 rfl) rfl ?_
  intro g1 w1 q1 hb1 hg1 hl1
  have bhbw_1 := Nat.le_trans hbw.size hg1
  replace hbw := Below.on hbw hb1 hbw.size
  clear hb1 hg1 hl1
  refine EL.newP al_129 rfl ?_
  intro g2 w2 q2 hb2 hg2 hl2
  have n1_2 : g1 ≠ g2 := Nat.ne_of_lt (Nat.lt_of_lt_of_le q1.lt hg2)
  have bhbw_2 := Nat.le_trans hbw.size hg2
  replace q1 := q1.below hb2 q1.lt
  replace hbw := Below.on hbw hb2 hbw.size
  clear hb2 hg2 hl2
  refine EL.val (x_assign rfl) rfl ?_
  refine EL.nil ?_
  refine EX.seq ?_
  refine EC.seq ?_
  refine EC.seq ?_
  refine EC.region ?_
  refine EL.val (ld_47 rfl (q1.at (j := 0) rfl) (q1.at (j := 1) rfl)) rfl ?_
  refine EL.call (cl_68 rfl) rfl (length_any r _ _ vs _ B (hr.below (hbw.mono hB)) (Nat.le_trans hB hbw.size) hl hlb) ?_
  rintro e w3 ⟨rfl, hc3⟩
  refine ⟨_, rfl, ?_⟩
  replace q1 := q1.below hc3 q1.lt
  replace q2 := q2.below hc3 q2.lt
  replace hbw := Below.on hbw hc3 hbw.size
  clear hc3
  refine EL.val (x_sub rfl rfl hsub) rfl ?_
  refine EL.val (x_move rfl) rfl ?_
  refine EL.newS (bs_121_1 rfl) rfl ?_
  intro g4 w4 q4 hb4 hg4 hl4
  have n1_4 : g1 ≠ g4 := Nat.ne_of_lt (Nat.lt_of_lt_of_le q1.lt hg4)
  have n2_4 : g2 ≠ g4 := Nat.ne_of_lt (Nat.lt_of_lt_of_le q2.lt hg4)
  have bhbw_4 := Nat.le_trans hbw.size hg4
  replace q1 := q1.below hb4 q1.lt
  replace q2 := q2.below hb4 q2.lt
  replace hbw := Below.on hbw hb4 hbw.size
  clear hb4 hg4 hl4
  refine EL.call (cl_57 rfl rfl rfl) rfl (withinB1 _ _ _ false _ q4 hp) ?_
  rintro e w5 ⟨rfl, hc5⟩
  refine ⟨_, rfl, ?_⟩
  replace q1 := q1.below hc5 q1.lt
  replace q2 := q2.below hc5 q2.lt
  replace q4 := q4.below hc5 q4.lt
  replace hbw := Below.on hbw hc5 hbw.size
  clear hc5
  refine EL.val (x_not rfl) rfl ?_
  refine EL.nil ?_
  refine EX.seq ?_
  refine EC.yes rfl ?_
  refine EC.seq ?_
  refine EC.region ?_
  refine EL.val (ld_129 rfl (q2.at (j := 0) rfl) (q2.at (j := 1) rfl) (q2.at (j := 2) rfl) (q2.at (j := 3) rfl) (q2.at (j := 4) rfl) (q2.at (j := 5) rfl) (q2.at (j := 6) rfl) (q2.at (j := 7) rfl) (q2.at (j := 8) rfl) (q2.at (j := 9) rfl) (q2.at (j := 10) rfl)) rfl ?_
  refine EL.store rfl rfl q2 sz_129 rfl rfl rfl rfl ?_
  intro w6 hq6 hg6
  replace q1 := q1.grown hg6 (fun h => n1_2 (Option.some.inj h))
  replace hbw := below_store hbw hg6 bhbw_2
  replace q2 := hq6
  clear hg6 hq6
  refine EL.val (x_assign rfl) rfl ?_
  refine EL.nil ?_
  refine EX.seq ?_
  refine EC.ret ?_
  refine EX.seq_ret ?_
  exact EX.done (resct rfl rfl rfl (lv_129 (q2.at rfl) (q2.at rfl) (q2.at rfl) (q2.at rfl) (q2.at rfl) (q2.at rfl) (q2.at rfl) (q2.at rfl) (q2.at rfl) (q2.at rfl) (q2.at rfl))) ⟨rfl, hbw⟩
theorem find_ok (r : River) (v u : Value) (vs : List Value) (p : Int) (w : World) (B : Nat) (hr : RdRiver w B v u r vs) (hB : B ≤ w.heap.size) (hok : riverB r = true) (hp : inB 0 (placesOf r.reaches - 1) p = true) :
    Calls Try.prog 71 #[.agg #[v, u], .int .i64 p] w fun e w' => (∃ A1 n1 c1 A n c, e = .returned (.tuple #[.agg (placeV (r.reaches.getD (reachOf r.reaches p) reach0) (.slice A1 n1 c1) (reachOf r.reaches p : Nat) (.slice A n c)), .bool true]) ∧ w'.ownsRow w.heap.size 97 6 (.slice A n c) (shoalsAt r.shoals p).length (shoalsC (shoalsAt r.shoals p))) ∧ Below w.heap.size w w' := by
  have hR := riverB_ok hok
  have hlt : reachOf r.reaches p < r.reaches.length := reachOf_lt _ _ (by have := inB_iff.1 hp; omega) (by have := inB_iff.1 hp; omega)
  obtain ⟨A1, c1, e1, _⟩ := (hr.reaches.curve _ hlt).shape
  refine (find_any r v u vs p w B hr hB hok).mono fun e w' h => ?_
  obtain ⟨h | ⟨_, A, n, c, h1, h2⟩, hb⟩ := h
  · rw [hp] at h; exact absurd h.1 (by simp)
  · rw [e1] at h1
    exact ⟨⟨_, _, _, _, _, _, h1, h2⟩, hb⟩
theorem open_bad (r : River) (sides : List (List Bd)) (v u s : Value) (vs ss : List Value) (w : World) (B : Nat) (hr : RdRiver w B v u r vs) (hs : RdSides w B s sides ss) (hB : B ≤ w.heap.size)
    (hl : r.reaches.length ≤ 1048576) (hl2 : r.shoals.length ≤ 1048576) (hcv : CurvesB r.reaches) (hl3 : sides.length ≤ 1048576) (hsb : SidesB sides) (he : startErr r sides ≠ 0) :
    Calls Try.prog 73 #[.agg #[v, u], s] w fun e w' => e = .returned (.tuple #[.pointer none, .int .i64 (startErr r sides)]) ∧ Below w.heap.size w w' := by
  refine (open_any r sides v u s vs ss w B hr hs hB hl hl2 hcv hl3 hsb).mono fun e w' h => ?_
  obtain ⟨⟨_, h1⟩ | ⟨h1, _⟩, hb⟩ := h
  · exact ⟨h1, hb⟩
  · exact absurd h1 he
theorem open_ok (r : River) (sides : List (List Bd)) (v u s : Value) (vs ss : List Value) (w : World) (B : Nat) (hr : RdRiver w B v u r vs) (hs : RdSides w B s sides ss) (hB : B ≤ w.heap.size)
    (hl : r.reaches.length ≤ 1048576) (hl2 : r.shoals.length ≤ 1048576) (hcv : CurvesB r.reaches) (hl3 : sides.length ≤ 1048576) (hsb : SidesB sides) (he : startErr r sides = 0) :
    Calls Try.prog 73 #[.agg #[v, u], s] w fun e w' => (∃ g vf fs, e = .returned (.tuple #[.pointer (some ⟨g, 0, none⟩), .int .i64 0]) ∧ w.heap.size ≤ g ∧ StreamOk w' w'.heap.size g r sides v u vf vs fs ∧ Stream w' (g + 1) g v u vf fs (flowsUp r.reaches sides sides.length)) ∧ Below w.heap.size w w' := by
  refine (open_any r sides v u s vs ss w B hr hs hB hl hl2 hcv hl3 hsb).mono fun e w' h => ?_
  obtain ⟨⟨h1, _⟩ | ⟨_, g, vf, fs, h1, h2, h3⟩, hb⟩ := h
  · exact absurd he h1
  · exact ⟨⟨g, vf, fs, h1, h2, ⟨(startErr_ok he).2, h3.blk, h3.blk.lt, (hr.below (hb.mono hB)).more (Nat.le_trans hB hb.size), h3.sides⟩, h3⟩, hb⟩
theorem loc_ok {w : World} {B g : Nat} {r : River} {sides : List (List Bd)} {v u vf : Value} {vs fs : List Value} (h : StreamOk w B g r sides v u vf vs fs) (hB : B ≤ w.heap.size) (hok : riverB r = true) (p t : Int) (hp : inB 0 (placesOf r.reaches - 1) p = true) (ht : inB 0 (((sides.getD 0 []).length : Nat) - 1 : Int) t = true) :
    Calls Try.prog 74 #[.pointer (some ⟨g, 0, none⟩), .int .i64 p, .int .i64 t] w fun e w' => (∃ A1 n1 c1 A n c, e = .returned (.tuple #[.agg (placeV (r.reaches.getD (reachOf r.reaches p) reach0) (.slice A1 n1 c1) (reachOf r.reaches p : Nat) (.slice A n c)), .int .i64 0]) ∧ Rd w' w'.heap.size 6 (.slice A n c) (shoalsAt r.shoals p).length (shoalsC (shoalsAt r.shoals p))) ∧ Below w.heap.size w w' := by
  have hS := h.blk
  have hh := h.ok.hours
  have hsub : IntKind.i64.wrap ((((sides.getD 0 []).length : Nat) : Int) - 1) = (((sides.getD 0 []).length : Nat) : Int) - 1 := IntWalk.i64_in _ ⟨by omega, by omega⟩
  have hbw := Below.refl w.heap.size w
  refine EC.enter 32 Try.func74 rfl rfl rfl ?_
  refine EC.seq ?_
  refine EC.region ?_
  refine EL.newP al_129 rfl ?_
  intro g1 w1 q1 hb1 hg1 hl1
  have n0_1 : g ≠ g1 := Nat.ne_of_lt (Nat.lt_of_lt_of_le hS.lt hg1)
  have bhbw_1 := Nat.le_trans hbw.size hg1
  replace hS := hS.below hb1 hS.lt
  replace hbw := Below.on hbw hb1 hbw.size
  clear hb1 hg1 hl1
  refine EL.val (x_assign rfl) rfl ?_
  refine EL.nil ?_
  refine EX.seq ?_
  refine EC.seq ?_
  refine EC.region ?_
  refine EL.val (x_move rfl) rfl ?_
  refine EL.val (x_nilCheck rfl) rfl ?_
  refine EL.val (fa_141_0 rfl) rfl ?_
  refine EL.val (ld_47 rfl (hS.at (j := 0) rfl) (hS.at (j := 1) rfl)) rfl ?_
  refine EL.val (x_move rfl) rfl ?_
  have lo_0 := hS.lt
  have lo_1 := q1.lt
  refine EL.call (cl_71 rfl rfl) rfl (find_ok r _ _ vs p _ B (h.below (hbw.mono hB)).river (Nat.le_trans hB hbw.size) hok hp) ?_
  rintro e w2 ⟨⟨A1, n1, c1, A, n, c, rfl, ho⟩, hc2⟩
  refine ⟨_, rfl, ?_⟩
  replace hS := hS.below hc2 hS.lt
  replace q1 := q1.below hc2 q1.lt
  replace hbw := Below.on hbw hc2 hbw.size
  clear hc2
  refine EL.val (x_move rfl) rfl ?_
  refine EL.val (x_extract rfl rfl) rfl ?_
  refine EL.val (x_extract rfl rfl) rfl ?_
  refine EL.store rfl rfl q1 sz_129 rfl rfl rfl rfl ?_
  intro w3 hq3 hg3
  replace hS := hS.grown hg3 (fun h => n0_1 (Option.some.inj h))
  replace ho := own_far ho hg3 lo_1
  replace hbw := below_store hbw hg3 bhbw_1
  replace q1 := hq3
  clear hg3 hq3
  refine EL.val (x_assign rfl) rfl ?_
  refine EL.nil ?_
  refine EX.seq ?_
  refine EC.seq ?_
  refine EC.block ?_
  refine EC.seq ?_
  refine EC.region ?_
  refine EL.val (x_move rfl) rfl ?_
  refine EL.val (x_not rfl) rfl ?_
  refine EL.val (x_assign rfl) rfl ?_
  refine EL.nil ?_
  refine EX.seq ?_
  refine EC.no rfl ?_
  refine EC.seq ?_
  refine EC.region ?_
  refine EL.val (x_move rfl) rfl ?_
  refine EL.call (cl_77 rfl) rfl (hours_any (h.below (hbw.mono hB))) ?_
  rintro e _ ⟨rfl, rfl⟩
  refine ⟨_, rfl, ?_⟩
  refine EL.val (x_sub rfl rfl hsub) rfl ?_
  refine EL.val (x_move rfl) rfl ?_
  refine EL.newS (bs_121_1 rfl) rfl ?_
  intro g4 w4 q4 hb4 hg4 hl4
  have n0_4 : g ≠ g4 := Nat.ne_of_lt (Nat.lt_of_lt_of_le hS.lt hg4)
  have n1_4 : g1 ≠ g4 := Nat.ne_of_lt (Nat.lt_of_lt_of_le q1.lt hg4)
  have bhbw_4 := Nat.le_trans hbw.size hg4
  replace hS := hS.below hb4 hS.lt
  replace q1 := q1.below hb4 q1.lt
  replace ho := own_below ho hb4 (Nat.le_refl _)
  replace hbw := Below.on hbw hb4 hbw.size
  clear hb4 hg4 hl4
  refine EL.call (cl_57 rfl rfl rfl) rfl (withinB1 _ _ _ true _ q4 ht) ?_
  rintro e w5 ⟨rfl, hc5⟩
  refine ⟨_, rfl, ?_⟩
  replace hS := hS.below hc5 hS.lt
  replace q1 := q1.below hc5 q1.lt
  replace q4 := q4.below hc5 q4.lt
  replace ho := own_below ho hc5 (Nat.le_refl _)
  replace hbw := Below.on hbw hc5 hbw.size
  clear hc5
  refine EL.val (x_not rfl) rfl ?_
  refine EL.val (x_assign rfl) rfl ?_
  refine EL.nil ?_
  refine EX.seq ?_
  refine EC.no rfl ?_
  refine EC.skip ?_
  refine EX.blk ?_
  refine EX.seq ?_
  refine EC.seq ?_
  refine EC.region ?_
  refine EL.val (ld_129 rfl (q1.at (j := 0) rfl) (q1.at (j := 1) rfl) (q1.at (j := 2) rfl) (q1.at (j := 3) rfl) (q1.at (j := 4) rfl) (q1.at (j := 5) rfl) (q1.at (j := 6) rfl) (q1.at (j := 7) rfl) (q1.at (j := 8) rfl) (q1.at (j := 9) rfl) (q1.at (j := 10) rfl)) rfl ?_
  refine EL.store rfl rfl q1 sz_129 rfl rfl rfl rfl ?_
  intro w6 hq6 hg6
  replace hS := hS.grown hg6 (fun h => n0_1 (Option.some.inj h))
  replace ho := own_far ho hg6 lo_1
  replace hbw := below_store hbw hg6 bhbw_1
  replace q1 := hq6
  clear hg6 hq6
  refine EL.val (x_assign rfl) rfl ?_
  refine EL.nil ?_
  refine EX.seq ?_
  refine EC.ret ?_
  exact EX.done (resct rfl rfl rfl (lv_129 (q1.at rfl) (q1.at rfl) (q1.at rfl) (q1.at rfl) (q1.at rfl) (q1.at rfl) (q1.at rfl) (q1.at rfl) (q1.at rfl) (q1.at rfl) (q1.at rfl))) ⟨⟨_, _, _, _, _, _, rfl, Rd.of_own ho⟩, hbw⟩
theorem depth_fit {w : World} {B C g : Nat} {r : River} {sides : List (List Bd)} {v u vf : Value} {vs fs : List Value} (h : StreamOk w B g r sides v u vf vs fs) (hB : B ≤ w.heap.size) {p t : Int} {A1 A : Option Addr} {n1 c1 n c : Nat} (hl : Rd w C 6 (.slice A n c) (shoalsAt r.shoals p).length (shoalsC (shoalsAt r.shoals p))) (hC : C ≤ w.heap.size) (hok : riverB r = true) (hp : inB 0 (placesOf r.reaches - 1) p = true) (ht : inB 0 (((sides.getD 0 []).length : Nat) - 1 : Int) t = true) :
    Calls Try.prog 75 #[.pointer (some ⟨g, 0, none⟩), .agg (placeV (r.reaches.getD (reachOf r.reaches p) reach0) (.slice A1 n1 c1) (reachOf r.reaches p : Nat) (.slice A n c)), .int .i64 t] w fun e w' =>
      e = .returned (.agg #[.int .i64 (depthAt r sides p t).lo, .int .i64 (depthAt r sides p t).hi]) ∧ Below w.heap.size w w' := by
  have hR := riverB_ok hok
  have hp' := inB_iff.1 hp
  have ht' := inB_iff.1 ht
  have hlt : reachOf r.reaches p < r.reaches.length := reachOf_lt _ _ (by omega) (by omega)
  have et : t = (t.toNat : Int) := by omega
  have en : n = (shoalsAt r.shoals p).length := by obtain ⟨_, _, _, e, _⟩ := hl; injection e
  subst en
  rw [et]
  have hB' : max B C ≤ w.heap.size := by omega
  exact depth_any (B := max B C) ⟨h.ok, h.blk, Nat.lt_of_lt_of_le h.gB (by omega), h.river.more (by omega), ⟨h.flows.len, h.flows.rd.more (by omega), fun i hi => (h.flows.side i hi).more (by omega)⟩⟩ hB' _ t.toNat hlt (by omega) A1 n1 c1 A c _ (hl.more (by omega)) (fun j hj => by
    have hm : (shoalsAt r.shoals p).getD j shoal0 ∈ r.shoals := (List.mem_filter.1 (show _ ∈ r.shoals.filter _ from getD_mem hj)).1
    simp only [riverB, Bool.and_eq_true] at hok
    exact List.all_eq_true.1 hok.2.2.2 _ hm) (Nat.le_trans (List.length_filter_le _ _) hR.few)
theorem dep_ok (r : River) (sides : List (List Bd)) (v u s : Value) (vs ss : List Value) (w : World) (B : Nat) (hr : RdRiver w B v u r vs) (hs : RdSides w B s sides ss) (hB : B ≤ w.heap.size) (hl : r.reaches.length ≤ 1048576) (hl2 : r.shoals.length ≤ 1048576) (hcv : CurvesB r.reaches) (hl3 : sides.length ≤ 1048576) (hsb : SidesB sides) (p t : Int) (he : startErr r sides = 0) (hp : inB 0 (placesOf r.reaches - 1) p = true) (ht : inB 0 (((sides.getD 0 []).length : Nat) - 1 : Int) t = true) :
    Calls Try.prog 33 #[.agg #[v, u], s, .int .i64 p, .int .i64 t] w fun e w' => e = .returned (.tuple #[.agg #[.int .i64 (depthAt r sides p t).lo, .int .i64 (depthAt r sides p t).hi], .int .i64 0]) ∧ Below w.heap.size w w' := by
  obtain ⟨A_, c_, rfl, _⟩ := hr.reaches.shape
  obtain ⟨A_', c_', rfl, _⟩ := hr.shoals.shape
  have hok := (startErr_ok he).1
  have hbw := Below.refl w.heap.size w
  refine EC.enter 38 Try.func33 rfl rfl rfl ?_
  refine EC.seq ?_
  refine EC.region ?_
  refine EL.newP (bx_47 rfl) rfl ?_
  intro g1 w1 q1 hb1 hg1 hl1
  have bhbw_1 := Nat.le_trans hbw.size hg1
  replace hbw := Below.on hbw hb1 hbw.size
  clear hb1 hg1 hl1
  refine EL.newP al_23 rfl ?_
  intro g2 w2 q2 hb2 hg2 hl2
  have n1_2 : g1 ≠ g2 := Nat.ne_of_lt (Nat.lt_of_lt_of_le q1.lt hg2)
  have bhbw_2 := Nat.le_trans hbw.size hg2
  replace q1 := q1.below hb2 q1.lt
  replace hbw := Below.on hbw hb2 hbw.size
  clear hb2 hg2 hl2
  refine EL.val (x_assign rfl) rfl ?_
  refine EL.nil ?_
  refine EX.seq ?_
  refine EC.seq ?_
  refine EC.region ?_
  refine EL.val (ld_47 rfl (q1.at (j := 0) rfl) (q1.at (j := 1) rfl)) rfl ?_
  refine EL.val (x_move rfl) rfl ?_
  have lo_1 := q1.lt
  have lo_2 := q2.lt
  refine EL.call (cl_73 rfl rfl) rfl (open_ok r sides _ _ _ vs ss _ B (hr.below (hbw.mono hB)) (hs.below (hbw.mono hB)) (Nat.le_trans hB hbw.size) hl hl2 hcv hl3 hsb he) ?_
  rintro e w3 ⟨⟨g, vf, fs, rfl, hge, hst, hrow⟩, hc3⟩
  refine ⟨_, rfl, ?_⟩
  replace q1 := q1.below hc3 q1.lt
  replace q2 := q2.below hc3 q2.lt
  replace hbw := Below.on hbw hc3 hbw.size
  have hso := Below.refl w3.heap.size w3
  clear hc3
  refine EL.val (x_move rfl) rfl ?_
  refine EL.val (x_extract rfl rfl) rfl ?_
  refine EL.val (x_extract rfl rfl) rfl ?_
  refine EL.val (x_assign rfl) rfl ?_
  refine EL.val (x_assign rfl) rfl ?_
  refine EL.nil ?_
  refine EX.seq ?_
  refine EC.seq ?_
  refine EC.seq ?_
  refine EC.region ?_
  refine EL.val (x_move rfl) rfl ?_
  refine EL.val (x_neq rfl rfl (by first | assumption | exact decide_eq_false (by omega))) rfl ?_
  refine EL.nil ?_
  refine EX.seq ?_
  refine EC.no rfl ?_
  refine EC.skip ?_
  refine EX.seq ?_
  refine EC.seq ?_
  refine EC.region ?_
  refine EL.val (x_move rfl) rfl ?_
  refine EL.val (x_move rfl) rfl ?_
  refine EL.val (x_move rfl) rfl ?_
  have lp_1 := q1.lt
  have lp_2 := q2.lt
  refine EL.call (cl_74 rfl rfl rfl) rfl (loc_ok (hst.below hso) hso.size hok _ _ hp ht) ?_
  rintro e w4 ⟨⟨A1, n1, c1, A, n, c, rfl, ho⟩, hc4⟩
  refine ⟨_, rfl, ?_⟩
  replace q1 := q1.below hc4 q1.lt
  replace q2 := q2.below hc4 q2.lt
  replace hbw := Below.on hbw hc4 hbw.size
  replace hso := Below.on hso hc4 hso.size
  clear hc4
  have hlo := Below.refl w4.heap.size w4
  refine EL.val (x_move rfl) rfl ?_
  refine EL.val (x_extract rfl rfl) rfl ?_
  refine EL.val (x_extract rfl rfl) rfl ?_
  refine EL.newP al_129 rfl ?_
  intro g5 w5 q5 hb5 hg5 hl5
  have n1_5 : g1 ≠ g5 := Nat.ne_of_lt (Nat.lt_of_lt_of_le q1.lt hg5)
  have n2_5 : g2 ≠ g5 := Nat.ne_of_lt (Nat.lt_of_lt_of_le q2.lt hg5)
  have bhbw_5 := Nat.le_trans hbw.size hg5
  have bhso_5 := Nat.le_trans hso.size hg5
  have bhlo_5 := Nat.le_trans hlo.size hg5
  replace q1 := q1.below hb5 q1.lt
  replace q2 := q2.below hb5 q2.lt
  replace hbw := Below.on hbw hb5 hbw.size
  replace hso := Below.on hso hb5 hso.size
  replace hlo := Below.on hlo hb5 hlo.size
  clear hb5 hg5 hl5
  refine EL.store rfl rfl q5 sz_129 rfl rfl rfl rfl ?_
  intro w6 hq6 hg6
  replace q1 := q1.grown hg6 (fun h => n1_5 (Option.some.inj h))
  replace q2 := q2.grown hg6 (fun h => n2_5 (Option.some.inj h))
  replace hbw := below_store hbw hg6 bhbw_5
  replace hso := below_store hso hg6 bhso_5
  replace hlo := below_store hlo hg6 bhlo_5
  replace q5 := hq6
  clear hg6 hq6
  refine EL.val (x_assign rfl) rfl ?_
  refine EL.nil ?_
  refine EX.seq ?_
  refine EC.seq ?_
  refine EC.seq ?_
  refine EC.region ?_
  refine EL.val (x_move rfl) rfl ?_
  refine EL.val (x_neq rfl rfl (by first | assumption | exact decide_eq_false (by omega))) rfl ?_
  refine EL.nil ?_
  refine EX.seq ?_
  refine EC.no rfl ?_
  refine EC.skip ?_
  refine EX.seq ?_
  refine EC.seq ?_
  refine EC.region ?_
  refine EL.val (x_move rfl) rfl ?_
  refine EL.val (ld_129 rfl (q5.at (j := 0) rfl) (q5.at (j := 1) rfl) (q5.at (j := 2) rfl) (q5.at (j := 3) rfl) (q5.at (j := 4) rfl) (q5.at (j := 5) rfl) (q5.at (j := 6) rfl) (q5.at (j := 7) rfl) (q5.at (j := 8) rfl) (q5.at (j := 9) rfl) (q5.at (j := 10) rfl)) rfl ?_
  refine EL.val (x_move rfl) rfl ?_
  refine EL.call (cl_75 rfl rfl rfl) rfl (depth_fit (hst.below hso) hso.size (ho.below hlo) hlo.size hok hp ht) ?_
  rintro e w7 ⟨rfl, hc7⟩
  refine ⟨_, rfl, ?_⟩
  replace q1 := q1.below hc7 q1.lt
  replace q2 := q2.below hc7 q2.lt
  replace q5 := q5.below hc7 q5.lt
  replace hbw := Below.on hbw hc7 hbw.size
  replace hso := Below.on hso hc7 hso.size
  replace hlo := Below.on hlo hc7 hlo.size
  clear hc7
  refine EL.store rfl rfl q2 sz_23 rfl rfl rfl rfl ?_
  intro w8 hq8 hg8
  replace q1 := q1.grown hg8 (fun h => n1_2 (Option.some.inj h))
  replace q5 := q5.grown hg8 (fun h => n2_5.symm (Option.some.inj h))
  replace hbw := below_store hbw hg8 bhbw_2
  clear hso
  clear hlo
  replace q2 := hq8
  clear hg8 hq8
  refine EL.val (x_assign rfl) rfl ?_
  refine EL.nil ?_
  refine EX.seq ?_
  refine EC.ret ?_
  exact EX.done (resct rfl rfl rfl (lv_23 (q2.at rfl) (q2.at rfl))) ⟨rfl, hbw⟩
end Go.Proofs.Ytncnlhkmdljgpaa
set_option linter.unusedVariables false
namespace Go.Proofs.Ytncnlhkmdljgpaa
open Go Go.RowKit
theorem bed_fit {w : World} {C : Nat} {rv : River} {p t : Int} {A1 A : Option Addr} {n1 c1 n c : Nat} (hl : Rd w C 6 (.slice A n c) (shoalsAt rv.shoals p).length (shoalsC (shoalsAt rv.shoals p))) (hC : C ≤ w.heap.size) (hok : riverB rv = true) (hp : inB 0 (placesOf rv.reaches - 1) p = true) (ht : inB (-400) 400 t = true) :
    Calls Try.prog 72 #[.agg (placeV (rv.reaches.getD (reachOf rv.reaches p) reach0) (.slice A1 n1 c1) (reachOf rv.reaches p : Nat) (.slice A n c)), .int .i64 t] w fun e w' =>
      e = .returned (.agg #[.int .i64 (bedAt rv p t).lo, .int .i64 (bedAt rv p t).hi]) ∧ Below w.heap.size w w' := by
  have hR := riverB_ok hok
  have hp' := inB_iff.1 hp
  have ht' := inB_iff.1 ht
  have hlt : reachOf rv.reaches p < rv.reaches.length := reachOf_lt _ _ (by omega) (by omega)
  have en : n = (shoalsAt rv.shoals p).length := by obtain ⟨_, _, _, e, _⟩ := hl; injection e
  subst en
  have hbt := (hR.reach _ hlt).bottom
  have hfew : (shoalsAt rv.shoals p).length ≤ rv.shoals.length := List.length_filter_le _ _
  exact bed_any _ _ _ A c C _ t (placesOf rv.reaches) w hl hC ⟨_, _, _, rfl⟩ (fun j hj => by
    have hm : (shoalsAt rv.shoals p).getD j shoal0 ∈ rv.shoals := (List.mem_filter.1 (show _ ∈ rv.shoals.filter _ from getD_mem hj)).1
    have hok' := hok
    simp only [riverB, Bool.and_eq_true] at hok'
    exact List.all_eq_true.1 hok'.2.2.2 _ hm) (by omega) (by have := hR.few; omega) (by omega)
theorem pbed_ok (rv : River) (v u : Value) (vs : List Value) (p t : Int) (w : World) (B : Nat) (hr : RdRiver w B v u rv vs) (hB : B ≤ w.heap.size) (hl : rv.reaches.length ≤ 1048576) (hl2 : rv.shoals.length ≤ 1048576) (hcv : CurvesB rv.reaches) (hok : riverB rv = true) (hp : inB 0 (placesOf rv.reaches - 1) p = true) (ht : inB (-400) 400 t = true) :
    Calls Try.prog 32 #[.agg #[v, u], .int .i64 p, .int .i64 t] w fun e w' => e = .returned (.tuple #[.agg #[.int .i64 (bedAt rv p t).lo, .int .i64 (bedAt rv p t).hi], .int .i64 0]) ∧ Below w.heap.size w w' := by
  obtain ⟨A_, c_, rfl, _⟩ := hr.reaches.shape
  obtain ⟨A_', c_', rfl, _⟩ := hr.shoals.shape
  have hbw := Below.refl w.heap.size w
  refine EC.enter 36 Try.func32 rfl rfl rfl ?_
  have he2 : decide (errB (riverB rv) ≠ 0) = false := by rw [hok]; rfl
  refine EC.seq ?_
  refine EC.region ?_
  refine EL.newP (bx_47 rfl) rfl ?_
  intro g1 w1 q1 hb1 hg1 hl1
  have bhbw_1 := Nat.le_trans hbw.size hg1
  replace hbw := Below.on hbw hb1 hbw.size
  clear hb1 hg1 hl1
  refine EL.newP al_23 rfl ?_
  intro g2 w2 q2 hb2 hg2 hl2
  have n1_2 : g1 ≠ g2 := Nat.ne_of_lt (Nat.lt_of_lt_of_le q1.lt hg2)
  have bhbw_2 := Nat.le_trans hbw.size hg2
  replace q1 := q1.below hb2 q1.lt
  replace hbw := Below.on hbw hb2 hbw.size
  clear hb2 hg2 hl2
  refine EL.val (x_assign rfl) rfl ?_
  refine EL.nil ?_
  refine EX.seq ?_
  refine EC.seq ?_
  refine EC.seq ?_
  refine EC.region ?_
  refine EL.val (ld_47 rfl (q1.at (j := 0) rfl) (q1.at (j := 1) rfl)) rfl ?_
  refine EL.call (cl_25 rfl) rfl (check_any rv _ _ vs _ B (hr.below (hbw.mono hB)) (Nat.le_trans hB hbw.size) hl hl2 hcv) ?_
  rintro e w3 ⟨rfl, hc3⟩
  refine ⟨_, rfl, ?_⟩
  replace q1 := q1.below hc3 q1.lt
  replace q2 := q2.below hc3 q2.lt
  replace hbw := Below.on hbw hc3 hbw.size
  clear hc3
  refine EL.val (x_assign rfl) rfl ?_
  refine EL.nil ?_
  refine EX.seq ?_
  refine EC.seq ?_
  refine EC.region ?_
  refine EL.val (x_move rfl) rfl ?_
  refine EL.val (x_neq rfl rfl (by first | assumption | exact decide_eq_false (by omega))) rfl ?_
  refine EL.nil ?_
  refine EX.seq ?_
  refine EC.no rfl ?_
  refine EC.skip ?_
  refine EX.seq ?_
  refine EC.seq ?_
  refine EC.region ?_
  refine EL.val (ld_47 rfl (q1.at (j := 0) rfl) (q1.at (j := 1) rfl)) rfl ?_
  refine EL.val (x_move rfl) rfl ?_
  refine EL.call (cl_71 rfl rfl) rfl (find_ok rv _ _ vs p _ B (hr.below (hbw.mono hB)) (Nat.le_trans hB hbw.size) hok hp) ?_
  rintro e w4 ⟨⟨A1, n1, c1, A, n, c, rfl, ho⟩, hc4⟩
  refine ⟨_, rfl, ?_⟩
  replace q1 := q1.below hc4 q1.lt
  replace q2 := q2.below hc4 q2.lt
  replace hbw := Below.on hbw hc4 hbw.size
  clear hc4
  replace ho := Rd.of_own ho
  have hlo := Below.refl w4.heap.size w4
  refine EL.val (x_move rfl) rfl ?_
  refine EL.val (x_extract rfl rfl) rfl ?_
  refine EL.val (x_extract rfl rfl) rfl ?_
  refine EL.newP al_129 rfl ?_
  intro g5 w5 q5 hb5 hg5 hl5
  have n1_5 : g1 ≠ g5 := Nat.ne_of_lt (Nat.lt_of_lt_of_le q1.lt hg5)
  have n2_5 : g2 ≠ g5 := Nat.ne_of_lt (Nat.lt_of_lt_of_le q2.lt hg5)
  have bhbw_5 := Nat.le_trans hbw.size hg5
  have bhlo_5 := Nat.le_trans hlo.size hg5
  replace q1 := q1.below hb5 q1.lt
  replace q2 := q2.below hb5 q2.lt
  replace hbw := Below.on hbw hb5 hbw.size
  replace hlo := Below.on hlo hb5 hlo.size
  clear hb5 hg5 hl5
  refine EL.store rfl rfl q5 sz_129 rfl rfl rfl rfl ?_
  intro w6 hq6 hg6
  replace q1 := q1.grown hg6 (fun h => n1_5 (Option.some.inj h))
  replace q2 := q2.grown hg6 (fun h => n2_5 (Option.some.inj h))
  replace hbw := below_store hbw hg6 bhbw_5
  replace hlo := below_store hlo hg6 bhlo_5
  replace q5 := hq6
  clear hg6 hq6
  refine EL.val (x_assign rfl) rfl ?_
  refine EL.nil ?_
  refine EX.seq ?_
  refine EC.seq ?_
  refine EC.block ?_
  refine EC.seq ?_
  refine EC.region ?_
  refine EL.val (x_move rfl) rfl ?_
  refine EL.val (x_not rfl) rfl ?_
  refine EL.val (x_assign rfl) rfl ?_
  refine EL.nil ?_
  refine EX.seq ?_
  refine EC.no rfl ?_
  refine EC.seq ?_
  refine EC.region ?_
  refine EL.val (x_move rfl) rfl ?_
  refine EL.newS (bs_121_1 rfl) rfl ?_
  intro g7 w7 q7 hb7 hg7 hl7
  have n1_7 : g1 ≠ g7 := Nat.ne_of_lt (Nat.lt_of_lt_of_le q1.lt hg7)
  have n2_7 : g2 ≠ g7 := Nat.ne_of_lt (Nat.lt_of_lt_of_le q2.lt hg7)
  have n5_7 : g5 ≠ g7 := Nat.ne_of_lt (Nat.lt_of_lt_of_le q5.lt hg7)
  have bhbw_7 := Nat.le_trans hbw.size hg7
  have bhlo_7 := Nat.le_trans hlo.size hg7
  replace q1 := q1.below hb7 q1.lt
  replace q2 := q2.below hb7 q2.lt
  replace q5 := q5.below hb7 q5.lt
  replace hbw := Below.on hbw hb7 hbw.size
  replace hlo := Below.on hlo hb7 hlo.size
  clear hb7 hg7 hl7
  refine EL.call (cl_57 rfl rfl rfl) rfl (withinB1 _ _ _ true _ q7 ht) ?_
  rintro e w8 ⟨rfl, hc8⟩
  refine ⟨_, rfl, ?_⟩
  replace q1 := q1.below hc8 q1.lt
  replace q2 := q2.below hc8 q2.lt
  replace q5 := q5.below hc8 q5.lt
  replace q7 := q7.below hc8 q7.lt
  replace hbw := Below.on hbw hc8 hbw.size
  replace hlo := Below.on hlo hc8 hlo.size
  clear hc8
  refine EL.val (x_not rfl) rfl ?_
  refine EL.val (x_assign rfl) rfl ?_
  refine EL.nil ?_
  refine EX.seq ?_
  refine EC.no rfl ?_
  refine EC.skip ?_
  refine EX.blk ?_
  refine EX.seq ?_
  refine EC.seq ?_
  refine EC.region ?_
  refine EL.val (ld_129 rfl (q5.at (j := 0) rfl) (q5.at (j := 1) rfl) (q5.at (j := 2) rfl) (q5.at (j := 3) rfl) (q5.at (j := 4) rfl) (q5.at (j := 5) rfl) (q5.at (j := 6) rfl) (q5.at (j := 7) rfl) (q5.at (j := 8) rfl) (q5.at (j := 9) rfl) (q5.at (j := 10) rfl)) rfl ?_
  refine EL.val (x_move rfl) rfl ?_
  refine EL.call (cl_72 rfl rfl) rfl (bed_fit (ho.below hlo) hlo.size hok hp ht) ?_
  rintro e w9 ⟨rfl, hc9⟩
  refine ⟨_, rfl, ?_⟩
  replace q1 := q1.below hc9 q1.lt
  replace q2 := q2.below hc9 q2.lt
  replace q5 := q5.below hc9 q5.lt
  replace hbw := Below.on hbw hc9 hbw.size
  replace hlo := Below.on hlo hc9 hlo.size
  clear hc9
  refine EL.store rfl rfl q2 sz_23 rfl rfl rfl rfl ?_
  intro w10 hq10 hg10
  replace q1 := q1.grown hg10 (fun h => n1_2 (Option.some.inj h))
  replace q5 := q5.grown hg10 (fun h => n2_5.symm (Option.some.inj h))
  replace hbw := below_store hbw hg10 bhbw_2
  clear hlo
  replace q2 := hq10
  clear hg10 hq10
  refine EL.val (x_assign rfl) rfl ?_
  refine EL.nil ?_
  refine EX.seq ?_
  refine EC.ret ?_
  exact EX.done (resct rfl rfl rfl (lv_23 (q2.at rfl) (q2.at rfl))) ⟨rfl, hbw⟩
end Go.Proofs.Ytncnlhkmdljgpaa
set_option linter.unusedVariables false
namespace Go.Proofs.Ytncnlhkmdljgpaa
open Go Go.RowKit
/-- what `large` lets by -/
structure Fine (r : River) (sides : List (List Bd)) : Prop where
  nreaches : r.reaches.length ≤ 25
  nshoals : r.shoals.length ≤ 50
  nsides : sides.length ≤ 25
  curve : ∀ i, i < r.reaches.length → (r.reaches.getD i reach0).curve.length ≤ 40
  side : ∀ i, i < sides.length → (sides.getD i []).length ≤ 450
set_option maxRecDepth 100000 in
theorem large_any (rv : River) (sides : List (List Bd)) (v u s : Value) (vs ss : List Value) (w : World) (B : Nat) (hr : RdRiver w B v u rv vs) (hs : RdSides w B s sides ss) (hB : B ≤ w.heap.size) :
    Calls Try.prog 23 #[.agg #[v, u, s]] w fun e w' => (e = .returned (.bool true) ∨ e = .returned (.bool false) ∧ Fine rv sides) ∧ Below w.heap.size w w' := by
  obtain ⟨A, c, rfl, _⟩ := hr.reaches.shape
  obtain ⟨A', c', rfl, _⟩ := hr.shoals.shape
  obtain ⟨D, d, rfl, _⟩ := hs.rd.shape
  have hbw := Below.refl w.heap.size w
  refine EC.enter 54 Try.func23 rfl rfl rfl ?_
  by_cases h1 : 25 < rv.reaches.length
  ·
    refine EC.seq ?_
    refine EC.region ?_
    refine EL.newP (bx_54 rfl) rfl ?_
    intro g1 w1 q1 hb1 hg1 hl1
    have bhbw_1 := Nat.le_trans hbw.size hg1
    replace hbw := Below.on hbw hb1 hbw.size
    clear hb1 hg1 hl1
    refine EL.val (x_assign rfl) rfl ?_
    refine EL.nil ?_
    refine EX.seq ?_
    refine EC.seq ?_
    refine EC.seq ?_
    refine EC.region ?_
    refine EL.val (fa_54_0 rfl) rfl ?_
    refine EL.val (fa_47_0 rfl) rfl ?_
    refine EL.val (ld_44 rfl (q1.at (j := 0) rfl)) rfl ?_
    refine EL.val (ln_44 rfl) rfl ?_
    refine EL.val (x_gtr rfl rfl (by first | assumption | exact decide_eq_true (by omega))) rfl ?_
    refine EL.val (x_move rfl) rfl ?_
    refine EL.skip rfl rfl rfl rfl ?_
    refine EL.skip rfl rfl rfl rfl ?_
    refine EL.skip rfl rfl rfl rfl ?_
    refine EL.skip rfl rfl rfl rfl ?_
    refine EL.skip rfl rfl rfl rfl ?_
    refine EL.val (x_pick_t rfl rfl) rfl ?_
    refine EL.val (x_move rfl) rfl ?_
    refine EL.skip rfl rfl rfl rfl ?_
    refine EL.skip rfl rfl rfl rfl ?_
    refine EL.skip rfl rfl rfl rfl ?_
    refine EL.skip rfl rfl rfl rfl ?_
    refine EL.val (x_pick_t rfl rfl) rfl ?_
    refine EL.nil ?_
    refine EX.seq ?_
    refine EC.yes rfl ?_
    refine EC.seq ?_
    refine EC.region ?_
    refine EL.val (x_assign rfl) rfl ?_
    refine EL.nil ?_
    refine EX.seq ?_
    refine EC.ret ?_
    refine EX.seq_ret ?_
    exact EX.done (res1 rfl rfl) ⟨.inl rfl, hbw⟩
  by_cases h2 : 50 < rv.shoals.length
  ·
    refine EC.seq ?_
    refine EC.region ?_
    refine EL.newP (bx_54 rfl) rfl ?_
    intro g2 w2 q2 hb2 hg2 hl2
    have bhbw_2 := Nat.le_trans hbw.size hg2
    replace hbw := Below.on hbw hb2 hbw.size
    clear hb2 hg2 hl2
    refine EL.val (x_assign rfl) rfl ?_
    refine EL.nil ?_
    refine EX.seq ?_
    refine EC.seq ?_
    refine EC.seq ?_
    refine EC.region ?_
    refine EL.val (fa_54_0 rfl) rfl ?_
    refine EL.val (fa_47_0 rfl) rfl ?_
    refine EL.val (ld_44 rfl (q2.at (j := 0) rfl)) rfl ?_
    refine EL.val (ln_44 rfl) rfl ?_
    refine EL.val (x_gtr rfl rfl (by first | assumption | exact decide_eq_false (by omega))) rfl ?_
    refine EL.val (x_move rfl) rfl ?_
    refine EL.valg rfl rfl (fa_54_0 rfl) rfl ?_
    refine EL.valg rfl rfl (fa_47_1 rfl) rfl ?_
    refine EL.valg rfl rfl (ld_45 rfl (q2.at (j := 1) rfl)) rfl ?_
    refine EL.valg rfl rfl (ln_45 rfl) rfl ?_
    refine EL.valg rfl rfl (x_gtr rfl rfl (by first | assumption | exact decide_eq_true (by omega))) rfl ?_
    refine EL.val (x_pick_f rfl rfl) rfl ?_
    refine EL.val (x_move rfl) rfl ?_
    refine EL.skip rfl rfl rfl rfl ?_
    refine EL.skip rfl rfl rfl rfl ?_
    refine EL.skip rfl rfl rfl rfl ?_
    refine EL.skip rfl rfl rfl rfl ?_
    refine EL.val (x_pick_t rfl rfl) rfl ?_
    refine EL.nil ?_
    refine EX.seq ?_
    refine EC.yes rfl ?_
    refine EC.seq ?_
    refine EC.region ?_
    refine EL.val (x_assign rfl) rfl ?_
    refine EL.nil ?_
    refine EX.seq ?_
    refine EC.ret ?_
    refine EX.seq_ret ?_
    exact EX.done (res1 rfl rfl) ⟨.inl rfl, hbw⟩
  by_cases h3 : 25 < sides.length
  ·
    refine EC.seq ?_
    refine EC.region ?_
    refine EL.newP (bx_54 rfl) rfl ?_
    intro g3 w3 q3 hb3 hg3 hl3
    have bhbw_3 := Nat.le_trans hbw.size hg3
    replace hbw := Below.on hbw hb3 hbw.size
    clear hb3 hg3 hl3
    refine EL.val (x_assign rfl) rfl ?_
    refine EL.nil ?_
    refine EX.seq ?_
    refine EC.seq ?_
    refine EC.seq ?_
    refine EC.region ?_
    refine EL.val (fa_54_0 rfl) rfl ?_
    refine EL.val (fa_47_0 rfl) rfl ?_
    refine EL.val (ld_44 rfl (q3.at (j := 0) rfl)) rfl ?_
    refine EL.val (ln_44 rfl) rfl ?_
    refine EL.val (x_gtr rfl rfl (by first | assumption | exact decide_eq_false (by omega))) rfl ?_
    refine EL.val (x_move rfl) rfl ?_
    refine EL.valg rfl rfl (fa_54_0 rfl) rfl ?_
    refine EL.valg rfl rfl (fa_47_1 rfl) rfl ?_
    refine EL.valg rfl rfl (ld_45 rfl (q3.at (j := 1) rfl)) rfl ?_
    refine EL.valg rfl rfl (ln_45 rfl) rfl ?_
    refine EL.valg rfl rfl (x_gtr rfl rfl (by first | assumption | exact decide_eq_false (by omega))) rfl ?_
    refine EL.val (x_pick_f rfl rfl) rfl ?_
    refine EL.val (x_move rfl) rfl ?_
    refine EL.valg rfl rfl (fa_54_1 rfl) rfl ?_
    refine EL.valg rfl rfl (ld_52 rfl (q3.at (j := 2) rfl)) rfl ?_
    refine EL.valg rfl rfl (ln_52 rfl) rfl ?_
    refine EL.valg rfl rfl (x_gtr rfl rfl (by first | assumption | exact decide_eq_true (by omega))) rfl ?_
    refine EL.val (x_pick_f rfl rfl) rfl ?_
    refine EL.nil ?_
    refine EX.seq ?_
    refine EC.yes rfl ?_
    refine EC.seq ?_
    refine EC.region ?_
    refine EL.val (x_assign rfl) rfl ?_
    refine EL.nil ?_
    refine EX.seq ?_
    refine EC.ret ?_
    refine EX.seq_ret ?_
    exact EX.done (res1 rfl rfl) ⟨.inl rfl, hbw⟩
  refine EC.seq ?_
  refine EC.region ?_
  refine EL.newP (bx_54 rfl) rfl ?_
  intro g4 w4 q4 hb4 hg4 hl4
  have bhbw_4 := Nat.le_trans hbw.size hg4
  replace hbw := Below.on hbw hb4 hbw.size
  clear hb4 hg4 hl4
  refine EL.val (x_assign rfl) rfl ?_
  refine EL.nil ?_
  refine EX.seq ?_
  refine EC.seq ?_
  refine EC.seq ?_
  refine EC.region ?_
  refine EL.val (fa_54_0 rfl) rfl ?_
  refine EL.val (fa_47_0 rfl) rfl ?_
  refine EL.val (ld_44 rfl (q4.at (j := 0) rfl)) rfl ?_
  refine EL.val (ln_44 rfl) rfl ?_
  refine EL.val (x_gtr rfl rfl (by first | assumption | exact decide_eq_false (by omega))) rfl ?_
  refine EL.val (x_move rfl) rfl ?_
  refine EL.valg rfl rfl (fa_54_0 rfl) rfl ?_
  refine EL.valg rfl rfl (fa_47_1 rfl) rfl ?_
  refine EL.valg rfl rfl (ld_45 rfl (q4.at (j := 1) rfl)) rfl ?_
  refine EL.valg rfl rfl (ln_45 rfl) rfl ?_
  refine EL.valg rfl rfl (x_gtr rfl rfl (by first | assumption | exact decide_eq_false (by omega))) rfl ?_
  refine EL.val (x_pick_f rfl rfl) rfl ?_
  refine EL.val (x_move rfl) rfl ?_
  refine EL.valg rfl rfl (fa_54_1 rfl) rfl ?_
  refine EL.valg rfl rfl (ld_52 rfl (q4.at (j := 2) rfl)) rfl ?_
  refine EL.valg rfl rfl (ln_52 rfl) rfl ?_
  refine EL.valg rfl rfl (x_gtr rfl rfl (by first | assumption | exact decide_eq_false (by omega))) rfl ?_
  refine EL.val (x_pick_f rfl rfl) rfl ?_
  refine EL.nil ?_
  refine EX.seq ?_
  refine EC.no rfl ?_
  refine EC.skip ?_
  refine EX.seq ?_
  refine EC.seq ?_
  refine EC.seq ?_
  refine EC.region ?_
  refine EL.val (x_assign rfl) rfl ?_
  refine EL.nil ?_
  refine EX.seq ?_
  refine EC.block ?_
  refine EC.loopD [2, 3, 23, 24, 25, 26, 27, 28, 29, 30, 31, 32, 33, 34, 35, 36, 37, 38, 39] (fun x : Nat => [(3, .int .i64 (x : Nat))]) (fun x W => x ≤ rv.reaches.length ∧ (∀ i, i < x → (rv.reaches.getD i reach0).curve.length ≤ 40) ∧ Blk W g4 54 #[.slice A rv.reaches.length c, .slice A' rv.shoals.length c', .slice D sides.length d] ∧ Below w.heap.size w W) (fun x => rv.reaches.length - x) 0 ⟨Nat.zero_le _, fun i hi => absurd hi (Nat.not_lt_zero _), q4, hbw⟩ ⟨rfl, trivial⟩ ?_
  clear q4 hbw
  rintro i wr ⟨hi, hf, q4, hbw⟩
  by_cases hlt : i < rv.reaches.length
  ·
    obtain ⟨b, o, rfl, _, cc⟩ := reaches_cells hr.reaches i hlt
    have h4 := hr.reaches.curve i hlt
    obtain ⟨As, cs, es, _⟩ := h4.shape
    rw [es] at cc
    by_cases h5 : 40 < (rv.reaches.getD i reach0).curve.length
    ·
      refine EC.seq ?_
      refine EC.seq ?_
      refine EC.region ?_
      refine EL.val (x_move rfl) rfl ?_
      refine EL.val (fa_54_0 rfl) rfl ?_
      refine EL.val (fa_47_0 rfl) rfl ?_
      refine EL.val (ld_44 rfl (q4.at (j := 0) rfl)) rfl ?_
      refine EL.val (ln_44 rfl) rfl ?_
      refine EL.val (x_lss rfl rfl (by first | assumption | exact decide_eq_true (by omega))) rfl ?_
      refine EL.nil ?_
      refine EX.seq ?_
      refine EC.yes rfl ?_
      refine EC.skip ?_
      refine EX.seq ?_
      refine EC.seq ?_
      refine EC.block ?_
      refine EC.seq ?_
      refine EC.region ?_
      refine EL.val (fa_54_0 rfl) rfl ?_
      refine EL.val (fa_47_0 rfl) rfl ?_
      refine EL.val (ld_44 rfl (q4.at (j := 0) rfl)) rfl ?_
      refine EL.val (x_move rfl) rfl ?_
      refine EL.val (ix_44 rfl rfl hlt) rfl ?_
      refine EL.val (fa_50_3 rfl) rfl ?_
      refine EL.val (ld_48 rfl (below_load hbw cc.c4)) rfl ?_
      refine EL.val (ln_48 rfl) rfl ?_
      refine EL.val (x_gtr rfl rfl (by first | assumption | exact decide_eq_true (by omega))) rfl ?_
      refine EL.nil ?_
      refine EX.seq ?_
      refine EC.yes rfl ?_
      refine EC.seq ?_
      refine EC.region ?_
      refine EL.val (x_assign rfl) rfl ?_
      refine EL.nil ?_
      refine EX.seq ?_
      refine EC.ret ?_
      refine EX.blk_ret ?_
      refine EX.seq_ret ?_
      refine EX.seq_ret ?_
      refine EX.blk_ret ?_
      refine EX.seq_ret ?_
      exact EX.done (res1 rfl rfl) ⟨.inl rfl, hbw⟩
    ·
      refine EC.seq ?_
      refine EC.seq ?_
      refine EC.region ?_
      refine EL.val (x_move rfl) rfl ?_
      refine EL.val (fa_54_0 rfl) rfl ?_
      refine EL.val (fa_47_0 rfl) rfl ?_
      refine EL.val (ld_44 rfl (q4.at (j := 0) rfl)) rfl ?_
      refine EL.val (ln_44 rfl) rfl ?_
      refine EL.val (x_lss rfl rfl (by first | assumption | exact decide_eq_true (by omega))) rfl ?_
      refine EL.nil ?_
      refine EX.seq ?_
      refine EC.yes rfl ?_
      refine EC.skip ?_
      refine EX.seq ?_
      refine EC.seq ?_
      refine EC.block ?_
      refine EC.seq ?_
      refine EC.region ?_
      refine EL.val (fa_54_0 rfl) rfl ?_
      refine EL.val (fa_47_0 rfl) rfl ?_
      refine EL.val (ld_44 rfl (q4.at (j := 0) rfl)) rfl ?_
      refine EL.val (x_move rfl) rfl ?_
      refine EL.val (ix_44 rfl rfl hlt) rfl ?_
      refine EL.val (fa_50_3 rfl) rfl ?_
      refine EL.val (ld_48 rfl (below_load hbw cc.c4)) rfl ?_
      refine EL.val (ln_48 rfl) rfl ?_
      refine EL.val (x_gtr rfl rfl (by first | assumption | exact decide_eq_false (by omega))) rfl ?_
      refine EL.nil ?_
      refine EX.seq ?_
      refine EC.no rfl ?_
      refine EC.skip ?_
      refine EX.blk ?_
      refine EX.seq ?_
      refine EC.region ?_
      refine EL.val (x_move rfl) rfl ?_
      refine EL.val (x_add rfl rfl (by first | assumption | exact IntWalk.i64_in _ ⟨by omega, by omega⟩)) rfl ?_
      refine EL.val (x_assign rfl) rfl ?_
      refine EL.nil ?_
      refine EX.roundD (i + 1) ⟨rfl, trivial⟩ (by repeat first | exact Sub.refl _ | refine sub_past rfl ?_ | refine sub_del rfl ?_ | refine sub_insL_nil ?_) ⟨hlt, fun k hk => (Nat.lt_succ_iff_lt_or_eq.1 hk).elim (hf k) (fun e => by subst e; omega), q4, hbw⟩ (by omega)
  ·
    obtain rfl : i = rv.reaches.length := by omega
    refine EC.seq ?_
    refine EC.seq ?_
    refine EC.region ?_
    refine EL.val (x_move rfl) rfl ?_
    refine EL.val (fa_54_0 rfl) rfl ?_
    refine EL.val (fa_47_0 rfl) rfl ?_
    refine EL.val (ld_44 rfl (q4.at (j := 0) rfl)) rfl ?_
    refine EL.val (ln_44 rfl) rfl ?_
    refine EL.val (x_lss rfl rfl (by first | assumption | exact decide_eq_false (by omega))) rfl ?_
    refine EL.nil ?_
    refine EX.seq ?_
    refine EC.no rfl ?_
    refine EC.exit ?_
    refine EX.seq_exit ?_
    refine EX.seq_exit ?_
    refine EX.blk_here ?_
    refine EX.seq ?_
    refine EC.seq ?_
    refine EC.seq ?_
    refine EC.region ?_
    refine EL.val (x_assign rfl) rfl ?_
    refine EL.nil ?_
    refine EX.seq ?_
    refine EC.block ?_
    refine EC.loopD [2, 4, 40, 41, 42, 43, 44, 45, 46, 47, 48, 49, 50, 51, 52, 53] (fun x : Nat => [(4, .int .i64 (x : Nat))]) (fun x W => x ≤ sides.length ∧ (∀ i, i < x → (sides.getD i []).length ≤ 450) ∧ Blk W g4 54 #[.slice A rv.reaches.length c, .slice A' rv.shoals.length c', .slice D sides.length d] ∧ Below w.heap.size w W) (fun x => sides.length - x) 0 ⟨Nat.zero_le _, fun i hi => absurd hi (Nat.not_lt_zero _), q4, hbw⟩ ⟨rfl, trivial⟩ ?_
    clear q4 hbw
    rintro j wj ⟨hj, hg, q4, hbw⟩
    by_cases hjl : j < sides.length
    ·
      obtain ⟨b, o, rfl, _, cc⟩ := sides_cell hs j hjl
      have h4 := hs.side j hjl
      obtain ⟨As, cs, es, _⟩ := h4.shape
      rw [es] at cc
      by_cases h5 : 450 < (sides.getD j []).length
      ·
        refine EC.seq ?_
        refine EC.seq ?_
        refine EC.region ?_
        refine EL.val (x_move rfl) rfl ?_
        refine EL.val (fa_54_1 rfl) rfl ?_
        refine EL.val (ld_52 rfl (q4.at (j := 2) rfl)) rfl ?_
        refine EL.val (ln_52 rfl) rfl ?_
        refine EL.val (x_lss rfl rfl (by first | assumption | exact decide_eq_true (by omega))) rfl ?_
        refine EL.nil ?_
        refine EX.seq ?_
        refine EC.yes rfl ?_
        refine EC.skip ?_
        refine EX.seq ?_
        refine EC.seq ?_
        refine EC.block ?_
        refine EC.seq ?_
        refine EC.region ?_
        refine EL.val (fa_54_1 rfl) rfl ?_
        refine EL.val (ld_52 rfl (q4.at (j := 2) rfl)) rfl ?_
        refine EL.val (x_move rfl) rfl ?_
        refine EL.val (ix_52 rfl rfl hjl) rfl ?_
        refine EL.val (ld_28 rfl (below_load hbw cc)) rfl ?_
        refine EL.val (ln_28 rfl) rfl ?_
        refine EL.val (x_gtr rfl rfl (by first | assumption | exact decide_eq_true (by omega))) rfl ?_
        refine EL.nil ?_
        refine EX.seq ?_
        refine EC.yes rfl ?_
        refine EC.seq ?_
        refine EC.region ?_
        refine EL.val (x_assign rfl) rfl ?_
        refine EL.nil ?_
        refine EX.seq ?_
        refine EC.ret ?_
        refine EX.blk_ret ?_
        refine EX.seq_ret ?_
        refine EX.seq_ret ?_
        refine EX.blk_ret ?_
        refine EX.seq_ret ?_
        exact EX.done (res1 rfl rfl) ⟨.inl rfl, hbw⟩
      ·
        refine EC.seq ?_
        refine EC.seq ?_
        refine EC.region ?_
        refine EL.val (x_move rfl) rfl ?_
        refine EL.val (fa_54_1 rfl) rfl ?_
        refine EL.val (ld_52 rfl (q4.at (j := 2) rfl)) rfl ?_
        refine EL.val (ln_52 rfl) rfl ?_
        refine EL.val (x_lss rfl rfl (by first | assumption | exact decide_eq_true (by omega))) rfl ?_
        refine EL.nil ?_
        refine EX.seq ?_
        refine EC.yes rfl ?_
        refine EC.skip ?_
        refine EX.seq ?_
        refine EC.seq ?_
        refine EC.block ?_
        refine EC.seq ?_
        refine EC.region ?_
        refine EL.val (fa_54_1 rfl) rfl ?_
        refine EL.val (ld_52 rfl (q4.at (j := 2) rfl)) rfl ?_
        refine EL.val (x_move rfl) rfl ?_
        refine EL.val (ix_52 rfl rfl hjl) rfl ?_
        refine EL.val (ld_28 rfl (below_load hbw cc)) rfl ?_
        refine EL.val (ln_28 rfl) rfl ?_
        refine EL.val (x_gtr rfl rfl (by first | assumption | exact decide_eq_false (by omega))) rfl ?_
        refine EL.nil ?_
        refine EX.seq ?_
        refine EC.no rfl ?_
        refine EC.skip ?_
        refine EX.blk ?_
        refine EX.seq ?_
        refine EC.region ?_
        refine EL.val (x_move rfl) rfl ?_
        refine EL.val (x_add rfl rfl (by first | assumption | exact IntWalk.i64_in _ ⟨by omega, by omega⟩)) rfl ?_
        refine EL.val (x_assign rfl) rfl ?_
        refine EL.nil ?_
        refine EX.roundD (j + 1) ⟨rfl, trivial⟩ (by repeat first | exact Sub.refl _ | refine sub_past rfl ?_ | refine sub_del rfl ?_ | refine sub_insL_nil ?_) ⟨hjl, fun k hk => (Nat.lt_succ_iff_lt_or_eq.1 hk).elim (hg k) (fun e => by subst e; omega), q4, hbw⟩ (by omega)
    ·
      obtain rfl : j = sides.length := by omega
      refine EC.seq ?_
      refine EC.seq ?_
      refine EC.region ?_
      refine EL.val (x_move rfl) rfl ?_
      refine EL.val (fa_54_1 rfl) rfl ?_
      refine EL.val (ld_52 rfl (q4.at (j := 2) rfl)) rfl ?_
      refine EL.val (ln_52 rfl) rfl ?_
      refine EL.val (x_lss rfl rfl (by first | assumption | exact decide_eq_false (by omega))) rfl ?_
      refine EL.nil ?_
      refine EX.seq ?_
      refine EC.no rfl ?_
      refine EC.exit ?_
      refine EX.seq_exit ?_
      refine EX.seq_exit ?_
      refine EX.blk_here ?_
      refine EX.seq ?_
      refine EC.seq ?_
      refine EC.region ?_
      refine EL.val (x_assign rfl) rfl ?_
      refine EL.nil ?_
      refine EX.seq ?_
      refine EC.ret ?_
      exact EX.done (res1 rfl rfl) ⟨.inr ⟨rfl, by omega, by omega, by omega, hf, hg⟩, hbw⟩
end Go.Proofs.Ytncnlhkmdljgpaa
namespace Go.Proofs.Ytncnlhkmdljgpaa
open Go Go.RowKit
def twoReach1 : Reach := ⟨100, 2, ⟨1000, 1000⟩, [⟨0, 100⟩, ⟨10000, 300⟩], 0, ⟨50, 60⟩, 400⟩
def twoReach2 : Reach := ⟨50, 1, ⟨2000, 2000⟩, [⟨0, 0⟩, ⟨20000, 400⟩], 150, ⟨20, 20⟩, 160⟩
def twoShoal : Shoal := ⟨120, ⟨40, 50⟩, 0, ⟨0, 12⟩⟩
def twoR : River := ⟨[twoReach1, twoReach2], [twoShoal]⟩
def twoS : List (List Bd) := [[⟨2000, 3000⟩, ⟨2000, 3000⟩, ⟨2000, 3000⟩, ⟨2000, 3000⟩], [⟨500, 500⟩, ⟨500, 500⟩, ⟨500, 500⟩, ⟨500, 500⟩]]
theorem two_any (w : World) : Calls Try.prog 56 #[] w fun e w' => (∃ v u s vs ss, e = .returned (.tuple #[.agg #[v, u], s]) ∧ RdRiver w' w'.heap.size v u twoR vs ∧ RdSides w' w'.heap.size s twoS ss) ∧ Below w.heap.size w w' := by
  have hbw := Below.refl w.heap.size w
  refine EC.enter 37 Try.func56 rfl rfl rfl ?_
  refine EC.seq ?_
  refine EC.region ?_
  refine EL.newP al_47 rfl ?_
  intro g1 w1 q1 hb1 hg1 hl1
  have bhbw_1 := Nat.le_trans hbw.size hg1
  replace hbw := Below.on hbw hb1 hbw.size
  clear hb1 hg1 hl1
  refine EL.val (x_assign rfl) rfl ?_
  refine EL.nil ?_
  refine EX.seq ?_
  refine EC.seq ?_
  refine EC.region ?_
  refine EL.val (bd_23_0_1 rfl rfl) rfl ?_
  refine EL.val (bd_126_1 rfl) rfl ?_
  refine EL.val (bd_126_0_1 rfl rfl) rfl ?_
  refine EL.newS (bs_48_2 rfl rfl) rfl ?_
  intro g2 w2 q2 hb2 hg2 hl2
  have n1_2 : g1 ≠ g2 := Nat.ne_of_lt (Nat.lt_of_lt_of_le q1.lt hg2)
  have bhbw_2 := Nat.le_trans hbw.size hg2
  replace q1 := q1.below hb2 q1.lt
  replace hbw := Below.on hbw hb2 hbw.size
  clear hb2 hg2 hl2
  refine EL.val (bd_23_0_1 rfl rfl) rfl ?_
  refine EL.val (bd_50_0_1_2_3_5_6 rfl rfl rfl rfl rfl rfl) rfl ?_
  refine EL.val (bd_23_0_1 rfl rfl) rfl ?_
  refine EL.val (bd_126_) rfl ?_
  refine EL.val (bd_126_0_1 rfl rfl) rfl ?_
  refine EL.newS (bs_48_2 rfl rfl) rfl ?_
  intro g3 w3 q3 hb3 hg3 hl3
  have n1_3 : g1 ≠ g3 := Nat.ne_of_lt (Nat.lt_of_lt_of_le q1.lt hg3)
  have n2_3 : g2 ≠ g3 := Nat.ne_of_lt (Nat.lt_of_lt_of_le q2.lt hg3)
  have bhbw_3 := Nat.le_trans hbw.size hg3
  replace q1 := q1.below hb3 q1.lt
  replace q2 := q2.below hb3 q2.lt
  replace hbw := Below.on hbw hb3 hbw.size
  clear hb3 hg3 hl3
  refine EL.val (bd_23_0_1 rfl rfl) rfl ?_
  refine EL.val (bd_50_0_1_2_3_4_5_6 rfl rfl rfl rfl rfl rfl rfl) rfl ?_
  refine EL.newS (bs_44_2 rfl rfl) rfl ?_
  intro g4 w4 q4 hb4 hg4 hl4
  have n1_4 : g1 ≠ g4 := Nat.ne_of_lt (Nat.lt_of_lt_of_le q1.lt hg4)
  have n2_4 : g2 ≠ g4 := Nat.ne_of_lt (Nat.lt_of_lt_of_le q2.lt hg4)
  have n3_4 : g3 ≠ g4 := Nat.ne_of_lt (Nat.lt_of_lt_of_le q3.lt hg4)
  have bhbw_4 := Nat.le_trans hbw.size hg4
  replace q1 := q1.below hb4 q1.lt
  replace q2 := q2.below hb4 q2.lt
  replace q3 := q3.below hb4 q3.lt
  replace hbw := Below.on hbw hb4 hbw.size
  clear hb4 hg4 hl4
  refine EL.val (bd_23_0_1 rfl rfl) rfl ?_
  refine EL.val (bd_23_1 rfl) rfl ?_
  refine EL.val (bd_97_0_1_3 rfl rfl rfl) rfl ?_
  refine EL.newS (bs_45_1 rfl) rfl ?_
  intro g5 w5 q5 hb5 hg5 hl5
  have n1_5 : g1 ≠ g5 := Nat.ne_of_lt (Nat.lt_of_lt_of_le q1.lt hg5)
  have n2_5 : g2 ≠ g5 := Nat.ne_of_lt (Nat.lt_of_lt_of_le q2.lt hg5)
  have n3_5 : g3 ≠ g5 := Nat.ne_of_lt (Nat.lt_of_lt_of_le q3.lt hg5)
  have n4_5 : g4 ≠ g5 := Nat.ne_of_lt (Nat.lt_of_lt_of_le q4.lt hg5)
  have bhbw_5 := Nat.le_trans hbw.size hg5
  replace q1 := q1.below hb5 q1.lt
  replace q2 := q2.below hb5 q2.lt
  replace q3 := q3.below hb5 q3.lt
  replace q4 := q4.below hb5 q4.lt
  replace hbw := Below.on hbw hb5 hbw.size
  clear hb5 hg5 hl5
  refine EL.val (bd_47_0_1 rfl rfl) rfl ?_
  refine EL.newP al_47 rfl ?_
  intro g6 w6 q6 hb6 hg6 hl6
  have n1_6 : g1 ≠ g6 := Nat.ne_of_lt (Nat.lt_of_lt_of_le q1.lt hg6)
  have n2_6 : g2 ≠ g6 := Nat.ne_of_lt (Nat.lt_of_lt_of_le q2.lt hg6)
  have n3_6 : g3 ≠ g6 := Nat.ne_of_lt (Nat.lt_of_lt_of_le q3.lt hg6)
  have n4_6 : g4 ≠ g6 := Nat.ne_of_lt (Nat.lt_of_lt_of_le q4.lt hg6)
  have n5_6 : g5 ≠ g6 := Nat.ne_of_lt (Nat.lt_of_lt_of_le q5.lt hg6)
  have bhbw_6 := Nat.le_trans hbw.size hg6
  replace q1 := q1.below hb6 q1.lt
  replace q2 := q2.below hb6 q2.lt
  replace q3 := q3.below hb6 q3.lt
  replace q4 := q4.below hb6 q4.lt
  replace q5 := q5.below hb6 q5.lt
  replace hbw := Below.on hbw hb6 hbw.size
  clear hb6 hg6 hl6
  refine EL.store rfl rfl q6 sz_47 rfl rfl rfl rfl ?_
  intro w7 hq7 hg7
  replace q1 := q1.grown hg7 (fun h => n1_6 (Option.some.inj h))
  replace q2 := q2.grown hg7 (fun h => n2_6 (Option.some.inj h))
  replace q3 := q3.grown hg7 (fun h => n3_6 (Option.some.inj h))
  replace q4 := q4.grown hg7 (fun h => n4_6 (Option.some.inj h))
  replace q5 := q5.grown hg7 (fun h => n5_6 (Option.some.inj h))
  replace hbw := below_store hbw hg7 bhbw_6
  replace q6 := hq7
  clear hg7 hq7
  refine EL.nil ?_
  refine EX.seq ?_
  refine EC.seq ?_
  refine EC.region ?_
  refine EL.val (bd_23_0_1 rfl rfl) rfl ?_
  refine EL.val (bd_23_0_1 rfl rfl) rfl ?_
  refine EL.newP al_23 rfl ?_
  intro g8 w8 q8 hb8 hg8 hl8
  have n1_8 : g1 ≠ g8 := Nat.ne_of_lt (Nat.lt_of_lt_of_le q1.lt hg8)
  have n2_8 : g2 ≠ g8 := Nat.ne_of_lt (Nat.lt_of_lt_of_le q2.lt hg8)
  have n3_8 : g3 ≠ g8 := Nat.ne_of_lt (Nat.lt_of_lt_of_le q3.lt hg8)
  have n4_8 : g4 ≠ g8 := Nat.ne_of_lt (Nat.lt_of_lt_of_le q4.lt hg8)
  have n5_8 : g5 ≠ g8 := Nat.ne_of_lt (Nat.lt_of_lt_of_le q5.lt hg8)
  have n6_8 : g6 ≠ g8 := Nat.ne_of_lt (Nat.lt_of_lt_of_le q6.lt hg8)
  have bhbw_8 := Nat.le_trans hbw.size hg8
  replace q1 := q1.below hb8 q1.lt
  replace q2 := q2.below hb8 q2.lt
  replace q3 := q3.below hb8 q3.lt
  replace q4 := q4.below hb8 q4.lt
  replace q5 := q5.below hb8 q5.lt
  replace q6 := q6.below hb8 q6.lt
  replace hbw := Below.on hbw hb8 hbw.size
  clear hb8 hg8 hl8
  refine EL.newP al_23 rfl ?_
  intro g9 w9 q9 hb9 hg9 hl9
  have n1_9 : g1 ≠ g9 := Nat.ne_of_lt (Nat.lt_of_lt_of_le q1.lt hg9)
  have n2_9 : g2 ≠ g9 := Nat.ne_of_lt (Nat.lt_of_lt_of_le q2.lt hg9)
  have n3_9 : g3 ≠ g9 := Nat.ne_of_lt (Nat.lt_of_lt_of_le q3.lt hg9)
  have n4_9 : g4 ≠ g9 := Nat.ne_of_lt (Nat.lt_of_lt_of_le q4.lt hg9)
  have n5_9 : g5 ≠ g9 := Nat.ne_of_lt (Nat.lt_of_lt_of_le q5.lt hg9)
  have n6_9 : g6 ≠ g9 := Nat.ne_of_lt (Nat.lt_of_lt_of_le q6.lt hg9)
  have n8_9 : g8 ≠ g9 := Nat.ne_of_lt (Nat.lt_of_lt_of_le q8.lt hg9)
  have bhbw_9 := Nat.le_trans hbw.size hg9
  replace q1 := q1.below hb9 q1.lt
  replace q2 := q2.below hb9 q2.lt
  replace q3 := q3.below hb9 q3.lt
  replace q4 := q4.below hb9 q4.lt
  replace q5 := q5.below hb9 q5.lt
  replace q6 := q6.below hb9 q6.lt
  replace q8 := q8.below hb9 q8.lt
  replace hbw := Below.on hbw hb9 hbw.size
  clear hb9 hg9 hl9
  refine EL.store rfl rfl q8 sz_23 rfl rfl rfl rfl ?_
  intro w10 hq10 hg10
  replace q1 := q1.grown hg10 (fun h => n1_8 (Option.some.inj h))
  replace q2 := q2.grown hg10 (fun h => n2_8 (Option.some.inj h))
  replace q3 := q3.grown hg10 (fun h => n3_8 (Option.some.inj h))
  replace q4 := q4.grown hg10 (fun h => n4_8 (Option.some.inj h))
  replace q5 := q5.grown hg10 (fun h => n5_8 (Option.some.inj h))
  replace q6 := q6.grown hg10 (fun h => n6_8 (Option.some.inj h))
  replace q9 := q9.grown hg10 (fun h => n8_9.symm (Option.some.inj h))
  replace hbw := below_store hbw hg10 bhbw_8
  replace q8 := hq10
  clear hg10 hq10
  refine EL.store rfl rfl q9 sz_23 rfl rfl rfl rfl ?_
  intro w11 hq11 hg11
  replace q1 := q1.grown hg11 (fun h => n1_9 (Option.some.inj h))
  replace q2 := q2.grown hg11 (fun h => n2_9 (Option.some.inj h))
  replace q3 := q3.grown hg11 (fun h => n3_9 (Option.some.inj h))
  replace q4 := q4.grown hg11 (fun h => n4_9 (Option.some.inj h))
  replace q5 := q5.grown hg11 (fun h => n5_9 (Option.some.inj h))
  replace q6 := q6.grown hg11 (fun h => n6_9 (Option.some.inj h))
  replace q8 := q8.grown hg11 (fun h => n8_9 (Option.some.inj h))
  replace hbw := below_store hbw hg11 bhbw_9
  replace q9 := hq11
  clear hg11 hq11
  refine EL.nil ?_
  refine EX.seq ?_
  refine EC.seq ?_
  have lt_1 := q1.lt
  have lt_2 := q2.lt
  have lt_3 := q3.lt
  have lt_4 := q4.lt
  have lt_5 := q5.lt
  have lt_6 := q6.lt
  have lt_8 := q8.lt
  have lt_9 := q9.lt
  refine EC.regionS [[], [], [], [], [], [1, 2, 3, 4], [], [], [], [], [6, 7, 8, 9], [1, 2, 3, 4, 5, 6, 7, 8, 9, 10], [0], [0, 1, 2, 3, 4, 5, 6, 7, 8, 9, 10, 11, 12]] 13 [] [12] (fun fl w_ => w11.grownBy w_ (some g1) ∧ (fl 12 = false → Blk w_ g1 47 _)) (phiS (fun i_ r => match i_ with | 0 => r 0 = .agg #[.slice (some ⟨g4, 0, none⟩) 2 2, .slice (some ⟨g5, 0, none⟩) 1 1] | 1 => r 1 = .agg #[.int .i64 2000, .int .i64 3000] | 2 => r 2 = .agg #[.int .i64 2000, .int .i64 3000] | 3 => r 3 = .agg #[.int .i64 2000, .int .i64 3000] | 4 => r 4 = .agg #[.int .i64 2000, .int .i64 3000] | 6 => r 6 = .agg #[.int .i64 500, .int .i64 500] | 7 => r 7 = .agg #[.int .i64 500, .int .i64 500] | 8 => r 8 = .agg #[.int .i64 500, .int .i64 500] | 9 => r 9 = .agg #[.int .i64 500, .int .i64 500] | _ => True) [(5, fun _ r w_ => ∃ g_, r 5 = .slice (some ⟨g_, 0, none⟩) 4 4 ∧ Blk w_ g_ 23 #[.int .i64 2000, .int .i64 3000, .int .i64 2000, .int .i64 3000, .int .i64 2000, .int .i64 3000, .int .i64 2000, .int .i64 3000] ∧ w11.heap.size ≤ g_), (10, fun _ r w_ => ∃ g_, r 10 = .slice (some ⟨g_, 0, none⟩) 4 4 ∧ Blk w_ g_ 23 #[.int .i64 500, .int .i64 500, .int .i64 500, .int .i64 500, .int .i64 500, .int .i64 500, .int .i64 500, .int .i64 500] ∧ w11.heap.size ≤ g_), (11, fun _ r w_ => ∃ g_, r 11 = .slice (some ⟨g_, 0, none⟩) 2 2 ∧ Blk w_ g_ 28 #[r 5, r 10] ∧ w11.heap.size ≤ g_), (12, fun _ r w_ => Blk w_ g1 47 #[.slice (some ⟨g4, 0, none⟩) 2 2, .slice (some ⟨g5, 0, none⟩) 1 1])]) (by kernel_rfl) rfl rfl (by intro i hi; simp at hi; first | (subst hi; exact ⟨by simp, by omega⟩) | (rcases hi with rfl | rfl | rfl <;> exact ⟨by simp, by omega⟩) | (rcases hi with rfl | rfl <;> exact ⟨by simp, by omega⟩)) (base_own q1) (phiS_cons monoS_bs (phiS_cons monoS_bs (phiS_cons monoS_bs (phiS_cons monoS_own (phiS_nil))))) (fun i_ hi_ hs_ => ?_) (fun i_ hi_ => ?_) ?_
  · match i_, hi_ with
    | 0, _ =>
      intro val fl w1 a hb ha hd hfl
      obtain ⟨hb, hg0⟩ := hb
      have ha := ha.sub (Sub.ins (d := 2) (Sub.nil _) rfl)
      exact ss_val ha rfl rfl (ld_47 rfl ((q6.grown hb (fun h => n1_6.symm (Option.some.inj h))).at (j := 0) rfl) ((q6.grown hb (fun h => n1_6.symm (Option.some.inj h))).at (j := 1) rfl)) rfl rfl
    | 1, _ =>
      intro val fl w1 a hb ha hd hfl
      obtain ⟨hb, hg0⟩ := hb
      have ha := ha.sub (Sub.ins (d := 3) (Sub.nil _) rfl)
      exact ss_val ha rfl rfl (ld_23 rfl ((q8.grown hb (fun h => n1_8.symm (Option.some.inj h))).at (j := 0) rfl) ((q8.grown hb (fun h => n1_8.symm (Option.some.inj h))).at (j := 1) rfl)) rfl rfl
    | 2, _ =>
      intro val fl w1 a hb ha hd hfl
      obtain ⟨hb, hg0⟩ := hb
      have ha := ha.sub (Sub.ins (d := 3) (Sub.nil _) rfl)
      exact ss_val ha rfl rfl (ld_23 rfl ((q8.grown hb (fun h => n1_8.symm (Option.some.inj h))).at (j := 0) rfl) ((q8.grown hb (fun h => n1_8.symm (Option.some.inj h))).at (j := 1) rfl)) rfl rfl
    | 3, _ =>
      intro val fl w1 a hb ha hd hfl
      obtain ⟨hb, hg0⟩ := hb
      have ha := ha.sub (Sub.ins (d := 3) (Sub.nil _) rfl)
      exact ss_val ha rfl rfl (ld_23 rfl ((q8.grown hb (fun h => n1_8.symm (Option.some.inj h))).at (j := 0) rfl) ((q8.grown hb (fun h => n1_8.symm (Option.some.inj h))).at (j := 1) rfl)) rfl rfl
    | 4, _ =>
      intro val fl w1 a hb ha hd hfl
      obtain ⟨hb, hg0⟩ := hb
      have ha := ha.sub (Sub.ins (d := 3) (Sub.nil _) rfl)
      exact ss_val ha rfl rfl (ld_23 rfl ((q8.grown hb (fun h => n1_8.symm (Option.some.inj h))).at (j := 0) rfl) ((q8.grown hb (fun h => n1_8.symm (Option.some.inj h))).at (j := 1) rfl)) rfl rfl
    | 5, _ =>
      intro val fl w1 a hb ha hd hfl
      obtain ⟨hb, hg0⟩ := hb
      have e1 : val 1 = .agg #[.int .i64 2000, .int .i64 3000] := hd 1 (memB_mem.1 rfl)
      have e2 : val 2 = .agg #[.int .i64 2000, .int .i64 3000] := hd 2 (memB_mem.1 rfl)
      have e3 : val 3 = .agg #[.int .i64 2000, .int .i64 3000] := hd 3 (memB_mem.1 rfl)
      have e4 : val 4 = .agg #[.int .i64 2000, .int .i64 3000] := hd 4 (memB_mem.1 rfl)
      have ha := ha.sub (Sub.ins (d := 29) (Sub.ins (d := 28) (Sub.ins (d := 27) (Sub.ins (d := 26) (Sub.nil _) (dep_get rfl e1)) (dep_get rfl e2)) (dep_get rfl e3)) (dep_get rfl e4))
      exact ss_newS ha rfl rfl (bs_28_4 rfl rfl rfl rfl) rfl (fun g w' hq _ hge => ⟨g, rfl, hq, Nat.le_trans hb.size hge⟩)
    | 6, _ =>
      intro val fl w1 a hb ha hd hfl
      obtain ⟨hb, hg0⟩ := hb
      have ha := ha.sub (Sub.ins (d := 4) (Sub.nil _) rfl)
      exact ss_val ha rfl rfl (ld_23 rfl ((q9.grown hb (fun h => n1_9.symm (Option.some.inj h))).at (j := 0) rfl) ((q9.grown hb (fun h => n1_9.symm (Option.some.inj h))).at (j := 1) rfl)) rfl rfl
    | 7, _ =>
      intro val fl w1 a hb ha hd hfl
      obtain ⟨hb, hg0⟩ := hb
      have ha := ha.sub (Sub.ins (d := 4) (Sub.nil _) rfl)
      exact ss_val ha rfl rfl (ld_23 rfl ((q9.grown hb (fun h => n1_9.symm (Option.some.inj h))).at (j := 0) rfl) ((q9.grown hb (fun h => n1_9.symm (Option.some.inj h))).at (j := 1) rfl)) rfl rfl
    | 8, _ =>
      intro val fl w1 a hb ha hd hfl
      obtain ⟨hb, hg0⟩ := hb
      have ha := ha.sub (Sub.ins (d := 4) (Sub.nil _) rfl)
      exact ss_val ha rfl rfl (ld_23 rfl ((q9.grown hb (fun h => n1_9.symm (Option.some.inj h))).at (j := 0) rfl) ((q9.grown hb (fun h => n1_9.symm (Option.some.inj h))).at (j := 1) rfl)) rfl rfl
    | 9, _ =>
      intro val fl w1 a hb ha hd hfl
      obtain ⟨hb, hg0⟩ := hb
      have ha := ha.sub (Sub.ins (d := 4) (Sub.nil _) rfl)
      exact ss_val ha rfl rfl (ld_23 rfl ((q9.grown hb (fun h => n1_9.symm (Option.some.inj h))).at (j := 0) rfl) ((q9.grown hb (fun h => n1_9.symm (Option.some.inj h))).at (j := 1) rfl)) rfl rfl
    | 10, _ =>
      intro val fl w1 a hb ha hd hfl
      obtain ⟨hb, hg0⟩ := hb
      have e6 : val 6 = .agg #[.int .i64 500, .int .i64 500] := hd 6 (memB_mem.1 rfl)
      have e7 : val 7 = .agg #[.int .i64 500, .int .i64 500] := hd 7 (memB_mem.1 rfl)
      have e8 : val 8 = .agg #[.int .i64 500, .int .i64 500] := hd 8 (memB_mem.1 rfl)
      have e9 : val 9 = .agg #[.int .i64 500, .int .i64 500] := hd 9 (memB_mem.1 rfl)
      have ha := ha.sub (Sub.ins (d := 34) (Sub.ins (d := 33) (Sub.ins (d := 32) (Sub.ins (d := 31) (Sub.nil _) (dep_get rfl e6)) (dep_get rfl e7)) (dep_get rfl e8)) (dep_get rfl e9))
      exact ss_newS ha rfl rfl (bs_28_4 rfl rfl rfl rfl) rfl (fun g w' hq _ hge => ⟨g, rfl, hq, Nat.le_trans hb.size hge⟩)
    | 11, _ =>
      intro val fl w1 a hb ha hd hfl
      obtain ⟨hb, hg0⟩ := hb
      obtain ⟨g5_, e5, q5_, h5_⟩ := hd 5 (memB_mem.1 rfl)
      change val 5 = _ at e5
      obtain ⟨g10_, e10, q10_, h10_⟩ := hd 10 (memB_mem.1 rfl)
      change val 10 = _ at e10
      have ha := ha.sub (Sub.ins (d := 35) (Sub.ins (d := 30) (Sub.nil _) (dep_get rfl e5)) (dep_get rfl e10))
      exact ss_newS ha rfl rfl (bs_52_2 rfl rfl) rfl (fun g w' hq _ hge => ⟨g, rfl, (by show Blk _ _ _ #[val 5, val 10]; rw [e5, e10]; exact hq), Nat.le_trans hb.size hge⟩)
    | 12, _ =>
      exact absurd (by simp) hs_
    | k + 13, h => exact absurd h (by omega)
  · simp only [List.mem_singleton] at hi_; subst hi_
    intro val fl w1 a hb hfi ha hd hfl
    obtain ⟨hb, hg0⟩ := hb
    have e0 : val 0 = .agg #[.slice (some ⟨g4, 0, none⟩) 2 2, .slice (some ⟨g5, 0, none⟩) 1 1] := hd 0 (memB_mem.1 rfl)
    have ha := ha.sub (Sub.ins (d := 25) (Sub.ins (d := 0) (Sub.nil _) rfl) (dep_get rfl e0))
    refine ts_store ha rfl rfl rfl (hg0 hfi) sz_47 rfl rfl rfl rfl ?_
    intro w' hq hgr
    refine ⟨undef, rfl, hgr.size, ⟨grown_two hb hgr, fun h => by rw [fset_eq] at h; cases h⟩, hq, fun j _ hj hn hA => ?_⟩
    exact phiS_cons_st (C := fun j => j ≠ 12 ∧ 12 ∉ clsAt [[], [], [], [], [], [1, 2, 3, 4], [], [], [], [], [6, 7, 8, 9], [1, 2, 3, 4, 5, 6, 7, 8, 9, 10], [0], [0, 1, 2, 3, 4, 5, 6, 7, 8, 9, 10, 11, 12]] j ∧ ∀ p ∈ [], (p = j ∨ p ∈ clsAt [[], [], [], [], [], [1, 2, 3, 4], [], [], [], [], [6, 7, 8, 9], [1, 2, 3, 4, 5, 6, 7, 8, 9, 10], [0], [0, 1, 2, 3, 4, 5, 6, 7, 8, 9, 10, 11, 12]] j) → ∀ q ∈ [], (q = 12 ∨ q ∈ clsAt [[], [], [], [], [], [1, 2, 3, 4], [], [], [], [], [6, 7, 8, 9], [1, 2, 3, 4, 5, 6, 7, 8, 9, 10], [0], [0, 1, 2, 3, 4, 5, 6, 7, 8, 9, 10, 11, 12]] 12) → p ≠ q → val p ≠ val q) (fun _ ⟨g, h1, h2, h3⟩ => ⟨g, h1, h2.grown hgr (fun h => by injection h with h; omega), h3⟩) (phiS_cons_st (C := fun j => j ≠ 12 ∧ 12 ∉ clsAt [[], [], [], [], [], [1, 2, 3, 4], [], [], [], [], [6, 7, 8, 9], [1, 2, 3, 4, 5, 6, 7, 8, 9, 10], [0], [0, 1, 2, 3, 4, 5, 6, 7, 8, 9, 10, 11, 12]] j ∧ ∀ p ∈ [], (p = j ∨ p ∈ clsAt [[], [], [], [], [], [1, 2, 3, 4], [], [], [], [], [6, 7, 8, 9], [1, 2, 3, 4, 5, 6, 7, 8, 9, 10], [0], [0, 1, 2, 3, 4, 5, 6, 7, 8, 9, 10, 11, 12]] j) → ∀ q ∈ [], (q = 12 ∨ q ∈ clsAt [[], [], [], [], [], [1, 2, 3, 4], [], [], [], [], [6, 7, 8, 9], [1, 2, 3, 4, 5, 6, 7, 8, 9, 10], [0], [0, 1, 2, 3, 4, 5, 6, 7, 8, 9, 10, 11, 12]] 12) → p ≠ q → val p ≠ val q) (fun _ ⟨g, h1, h2, h3⟩ => ⟨g, h1, h2.grown hgr (fun h => by injection h with h; omega), h3⟩) (phiS_cons_st (C := fun j => j ≠ 12 ∧ 12 ∉ clsAt [[], [], [], [], [], [1, 2, 3, 4], [], [], [], [], [6, 7, 8, 9], [1, 2, 3, 4, 5, 6, 7, 8, 9, 10], [0], [0, 1, 2, 3, 4, 5, 6, 7, 8, 9, 10, 11, 12]] j ∧ ∀ p ∈ [], (p = j ∨ p ∈ clsAt [[], [], [], [], [], [1, 2, 3, 4], [], [], [], [], [6, 7, 8, 9], [1, 2, 3, 4, 5, 6, 7, 8, 9, 10], [0], [0, 1, 2, 3, 4, 5, 6, 7, 8, 9, 10, 11, 12]] j) → ∀ q ∈ [], (q = 12 ∨ q ∈ clsAt [[], [], [], [], [], [1, 2, 3, 4], [], [], [], [], [6, 7, 8, 9], [1, 2, 3, 4, 5, 6, 7, 8, 9, 10], [0], [0, 1, 2, 3, 4, 5, 6, 7, 8, 9, 10, 11, 12]] 12) → p ≠ q → val p ≠ val q) (fun _ ⟨g, h1, h2, h3⟩ => ⟨g, h1, h2.grown hgr (fun h => by injection h with h; omega), h3⟩) (phiS_cons_st (C := fun j => j ≠ 12 ∧ 12 ∉ clsAt [[], [], [], [], [], [1, 2, 3, 4], [], [], [], [], [6, 7, 8, 9], [1, 2, 3, 4, 5, 6, 7, 8, 9, 10], [0], [0, 1, 2, 3, 4, 5, 6, 7, 8, 9, 10, 11, 12]] j ∧ ∀ p ∈ [], (p = j ∨ p ∈ clsAt [[], [], [], [], [], [1, 2, 3, 4], [], [], [], [], [6, 7, 8, 9], [1, 2, 3, 4, 5, 6, 7, 8, 9, 10], [0], [0, 1, 2, 3, 4, 5, 6, 7, 8, 9, 10, 11, 12]] j) → ∀ q ∈ [], (q = 12 ∨ q ∈ clsAt [[], [], [], [], [], [1, 2, 3, 4], [], [], [], [], [6, 7, 8, 9], [1, 2, 3, 4, 5, 6, 7, 8, 9, 10], [0], [0, 1, 2, 3, 4, 5, 6, 7, 8, 9, 10, 11, 12]] 12) → p ≠ q → val p ≠ val q) (fun hc => absurd rfl hc.1) (fun _ _ h => h)))) j ⟨hj, hn, hA⟩
  · intro val fl w' hfl hb halc hd
    obtain ⟨hb, _⟩ := hb
    have e0 : val 0 = .agg #[.slice (some ⟨g4, 0, none⟩) 2 2, .slice (some ⟨g5, 0, none⟩) 1 1] := hd 0 (by omega)
    have e1 : val 1 = .agg #[.int .i64 2000, .int .i64 3000] := hd 1 (by omega)
    have e2 : val 2 = .agg #[.int .i64 2000, .int .i64 3000] := hd 2 (by omega)
    have e3 : val 3 = .agg #[.int .i64 2000, .int .i64 3000] := hd 3 (by omega)
    have e4 : val 4 = .agg #[.int .i64 2000, .int .i64 3000] := hd 4 (by omega)
    obtain ⟨ga5, e5, qa5, hga5⟩ := hd 5 (by omega)
    change val 5 = _ at e5
    change Blk w' ga5 23 #[.int .i64 2000, .int .i64 3000, .int .i64 2000, .int .i64 3000, .int .i64 2000, .int .i64 3000, .int .i64 2000, .int .i64 3000] at qa5
    have e6 : val 6 = .agg #[.int .i64 500, .int .i64 500] := hd 6 (by omega)
    have e7 : val 7 = .agg #[.int .i64 500, .int .i64 500] := hd 7 (by omega)
    have e8 : val 8 = .agg #[.int .i64 500, .int .i64 500] := hd 8 (by omega)
    have e9 : val 9 = .agg #[.int .i64 500, .int .i64 500] := hd 9 (by omega)
    obtain ⟨ga10, e10, qa10, hga10⟩ := hd 10 (by omega)
    change val 10 = _ at e10
    change Blk w' ga10 23 #[.int .i64 500, .int .i64 500, .int .i64 500, .int .i64 500, .int .i64 500, .int .i64 500, .int .i64 500, .int .i64 500] at qa10
    obtain ⟨ga11, e11, qa11, hga11⟩ := hd 11 (by omega)
    change val 11 = _ at e11
    change Blk w' ga11 28 #[val 5, val 10] at qa11
    rw [e5, e10] at qa11
    refine EL.ends (cs := [.agg #[.slice (some ⟨g4, 0, none⟩) 2 2, .slice (some ⟨g5, 0, none⟩) 1 1], .agg #[.int .i64 2000, .int .i64 3000], .agg #[.int .i64 2000, .int .i64 3000], .agg #[.int .i64 2000, .int .i64 3000], .agg #[.int .i64 2000, .int .i64 3000], .slice (some ⟨ga5, 0, none⟩) 4 4, .agg #[.int .i64 500, .int .i64 500], .agg #[.int .i64 500, .int .i64 500], .agg #[.int .i64 500, .int .i64 500], .agg #[.int .i64 500, .int .i64 500], .slice (some ⟨ga10, 0, none⟩) 4 4, .slice (some ⟨ga11, 0, none⟩) 2 2, val 12]) ⟨e0, e1, e2, e3, e4, e5, e6, e7, e8, e9, e10, e11, rfl, trivial⟩ rfl ?_
    have q1 : Blk w' g1 47 #[.slice (some ⟨g4, 0, none⟩) 2 2, .slice (some ⟨g5, 0, none⟩) 1 1] := hd 12 (by omega)
    replace q2 := q2.grown hb (fun h => n1_2.symm (Option.some.inj h))
    replace q3 := q3.grown hb (fun h => n1_3.symm (Option.some.inj h))
    replace q4 := q4.grown hb (fun h => n1_4.symm (Option.some.inj h))
    replace q5 := q5.grown hb (fun h => n1_5.symm (Option.some.inj h))
    replace q6 := q6.grown hb (fun h => n1_6.symm (Option.some.inj h))
    replace q8 := q8.grown hb (fun h => n1_8.symm (Option.some.inj h))
    replace q9 := q9.grown hb (fun h => n1_9.symm (Option.some.inj h))
    have bge12 := hga5
    have n1_12 : g1 ≠ ga5 := Nat.ne_of_lt (Nat.lt_of_lt_of_le lt_1 bge12)
    have n2_12 : g2 ≠ ga5 := Nat.ne_of_lt (Nat.lt_of_lt_of_le lt_2 bge12)
    have n3_12 : g3 ≠ ga5 := Nat.ne_of_lt (Nat.lt_of_lt_of_le lt_3 bge12)
    have n4_12 : g4 ≠ ga5 := Nat.ne_of_lt (Nat.lt_of_lt_of_le lt_4 bge12)
    have n5_12 : g5 ≠ ga5 := Nat.ne_of_lt (Nat.lt_of_lt_of_le lt_5 bge12)
    have n6_12 : g6 ≠ ga5 := Nat.ne_of_lt (Nat.lt_of_lt_of_le lt_6 bge12)
    have n8_12 : g8 ≠ ga5 := Nat.ne_of_lt (Nat.lt_of_lt_of_le lt_8 bge12)
    have n9_12 : g9 ≠ ga5 := Nat.ne_of_lt (Nat.lt_of_lt_of_le lt_9 bge12)
    have bhbw_12 := Nat.le_trans hbw.size bge12
    have bge13 := hga10
    have n1_13 : g1 ≠ ga10 := Nat.ne_of_lt (Nat.lt_of_lt_of_le lt_1 bge13)
    have n2_13 : g2 ≠ ga10 := Nat.ne_of_lt (Nat.lt_of_lt_of_le lt_2 bge13)
    have n3_13 : g3 ≠ ga10 := Nat.ne_of_lt (Nat.lt_of_lt_of_le lt_3 bge13)
    have n4_13 : g4 ≠ ga10 := Nat.ne_of_lt (Nat.lt_of_lt_of_le lt_4 bge13)
    have n5_13 : g5 ≠ ga10 := Nat.ne_of_lt (Nat.lt_of_lt_of_le lt_5 bge13)
    have n6_13 : g6 ≠ ga10 := Nat.ne_of_lt (Nat.lt_of_lt_of_le lt_6 bge13)
    have n8_13 : g8 ≠ ga10 := Nat.ne_of_lt (Nat.lt_of_lt_of_le lt_8 bge13)
    have n9_13 : g9 ≠ ga10 := Nat.ne_of_lt (Nat.lt_of_lt_of_le lt_9 bge13)
    have bhbw_13 := Nat.le_trans hbw.size bge13
    have bge14 := hga11
    have n1_14 : g1 ≠ ga11 := Nat.ne_of_lt (Nat.lt_of_lt_of_le lt_1 bge14)
    have n2_14 : g2 ≠ ga11 := Nat.ne_of_lt (Nat.lt_of_lt_of_le lt_2 bge14)
    have n3_14 : g3 ≠ ga11 := Nat.ne_of_lt (Nat.lt_of_lt_of_le lt_3 bge14)
    have n4_14 : g4 ≠ ga11 := Nat.ne_of_lt (Nat.lt_of_lt_of_le lt_4 bge14)
    have n5_14 : g5 ≠ ga11 := Nat.ne_of_lt (Nat.lt_of_lt_of_le lt_5 bge14)
    have n6_14 : g6 ≠ ga11 := Nat.ne_of_lt (Nat.lt_of_lt_of_le lt_6 bge14)
    have n8_14 : g8 ≠ ga11 := Nat.ne_of_lt (Nat.lt_of_lt_of_le lt_8 bge14)
    have n9_14 : g9 ≠ ga11 := Nat.ne_of_lt (Nat.lt_of_lt_of_le lt_9 bge14)
    have bhbw_14 := Nat.le_trans hbw.size bge14
    replace hbw := below_store hbw hb bhbw_1
    refine EL.val (x_assign rfl) rfl ?_
    refine EL.nil ?_
    refine EX.seq ?_
    refine EC.ret ?_
    refine EX.done (resct rfl rfl rfl (lv_47 (q1.at rfl) (q1.at rfl))) ⟨⟨_, _, _, [_, _], [_, _], rfl, ⟨⟨rfl, rd_blk q4 rfl, ?_⟩, rd_blk q5 rfl⟩, ⟨rfl, rd_blk qa11 rfl, ?_⟩⟩, hbw⟩
    · intro i hi
      match i, hi with
      | 0, _ => exact rd_blk q2 rfl
      | 1, _ => exact rd_blk q3 rfl
    · intro i hi
      match i, hi with
      | 0, _ => exact rd_blk qa5 rfl
      | 1, _ => exact rd_blk qa10 rfl
def twoF0 : List Bd := [⟨2000, 3000⟩, ⟨2000, 3000⟩, ⟨2000, 3000⟩, ⟨2000, 3000⟩]
def twoF1 : List Bd := [⟨1500, 1500⟩, ⟨1500, 1500⟩, ⟨2500, 3500⟩, ⟨2500, 3500⟩]
theorem two_start : startErr twoR twoS = 0 := by decide
theorem two_flows : flowsUp twoR.reaches twoS twoS.length = [twoF0, twoF1] := by rfl
theorem two_depth : depthAt twoR twoS 120 3 = ⟨98, 110⟩ := by rfl
def twoLand : Land := ⟨10, 50, 2, ⟨100, 150⟩⟩
def twoSky : List Sky := [⟨⟨200, 300⟩, ⟨10, 40⟩⟩]
theorem two_catch : catchErr twoLand twoSky = 0 := by decide
theorem two_runoff : flowsTo twoLand twoSky 1 = [⟨11000, 19000⟩] := by rfl
theorem two_curves : CurvesB twoR.reaches := fun i hi => by
  match i, hi with
  | 0, _ => decide
  | 1, _ => decide
theorem two_sides : SidesB twoS := fun i hi => by
  match i, hi with
  | 0, _ => decide
  | 1, _ => decide
theorem flows_two (v u s : Value) (vs ss : List Value) (w : World) (B : Nat) (hr : RdRiver w B v u twoR vs) (hs : RdSides w B s twoS ss) (hB : B ≤ w.heap.size) :
    Calls Try.prog 40 #[.agg #[v, u], s] w fun e w' => (∃ b o c A1 c1 b1 o1, e = .returned (.tuple #[.slice (some ⟨b, o, none⟩) 2 c, .int .i64 0]) ∧ A1 = some ⟨b1, o1, none⟩ ∧ w'.cell? ⟨b, o + 1, none⟩ = some (.slice A1 4 c1) ∧
      w'.cell? ⟨b1, o1 + 1 * 2, none⟩ = some (.int .i64 1500) ∧ w'.cell? ⟨b1, o1 + 1 * 2 + 1, none⟩ = some (.int .i64 1500) ∧ w'.cell? ⟨b1, o1 + 2 * 2, none⟩ = some (.int .i64 2500) ∧ w'.cell? ⟨b1, o1 + 2 * 2 + 1, none⟩ = some (.int .i64 3500)) ∧ Below w.heap.size w w' := by
  refine (flows_any twoR twoS v u s vs ss w B hr hs hB (by decide) (by decide) two_curves (by decide) two_sides).mono fun e w' h => ?_
  obtain ⟨⟨v', fs, rfl, _, h2⟩, hb⟩ := h
  have hS := h2 two_start
  rw [two_flows] at hS
  rw [two_start]
  obtain ⟨A, c, rfl, _⟩ := hS.rd.shape
  obtain ⟨b, o, rfl, _, h3⟩ := sides_cell hS 1 (by decide)
  have h4 := hS.side 1 (by decide)
  obtain ⟨A1, c1, e1, _⟩ := h4.shape
  rw [e1] at h3 h4
  obtain ⟨b1, o1, rfl, _, h5, h6⟩ := bds_cells twoF1 1 (by decide) _ _ _ _ _ h4
  obtain ⟨b2, o2, e2, _, h7, h8⟩ := bds_cells twoF1 2 (by decide) _ _ _ _ _ h4
  injection e2 with e2
  injection e2 with e2 e3
  subst e2 e3
  exact ⟨⟨b, o, c, _, c1, b1, o1, rfl, rfl, h3, h5, h6, h7, h8⟩, hb⟩
theorem runoff_two (w : World) {g T : Nat} (hq : Blk w g T #[.int .i64 200, .int .i64 300, .int .i64 10, .int .i64 40]) :
    Calls Try.prog 17 #[.agg #[.int .i64 10, .int .i64 50, .int .i64 2, .int .i64 100, .int .i64 150], .slice (some ⟨g, 0, none⟩) 1 1] w fun e w' => (∃ b o c, e = .returned (.tuple #[.slice (some ⟨b, o, none⟩) 1 c, .int .i64 0]) ∧ w'.cell? ⟨b, o + 0 * 2, none⟩ = some (.int .i64 11000) ∧ w'.cell? ⟨b, o + 0 * 2 + 1, none⟩ = some (.int .i64 19000)) ∧ Below w.heap.size w w' := by
  refine (runoff_any twoLand twoSky _ w w.heap.size (rd_one (l := [.int .i64 200, .int .i64 300, .int .i64 10, .int .i64 40]) hq rfl) (Nat.le_refl _) (by decide)).mono fun e w' h => ?_
  obtain ⟨⟨v, rfl, _, h2⟩, hb⟩ := h
  have ho := Rd.of_own (h2 two_catch)
  rw [two_catch]
  rw [show flowsTo twoLand twoSky twoSky.length = [⟨11000, 19000⟩] from two_runoff] at ho
  obtain ⟨A, c, rfl, _⟩ := ho.shape
  obtain ⟨b, o, rfl, _, h3, h4⟩ := bds_cells [⟨11000, 19000⟩] 0 (by decide) _ _ _ _ _ ho
  exact ⟨⟨b, o, c, rfl, h3, h4⟩, hb⟩
theorem known_any (w : World) : Calls Try.prog 16 #[] w fun e w' => e = .returned (.bool true) ∧ Below w.heap.size w w' := by
  have hbw := Below.refl w.heap.size w
  refine EC.enter 90 Try.func16 rfl rfl rfl ?_
  refine EC.seq ?_
  refine EC.region ?_
  refine EL.val (x_assign rfl) rfl ?_
  refine EL.nil ?_
  refine EX.seq ?_
  refine EC.seq ?_
  refine EC.region ?_
  refine EL.call cl_56 rfl (two_any _) ?_
  rintro e w1 ⟨⟨v, u, s, vs, ss, rfl, hr, hs⟩, hc1⟩
  obtain ⟨A1, c1, rfl, _⟩ := hr.reaches.shape
  obtain ⟨A2, c2, rfl, _⟩ := hr.shoals.shape
  obtain ⟨A3, c3, rfl, _⟩ := hs.rd.shape
  refine ⟨_, rfl, ?_⟩
  replace hbw := Below.on hbw hc1 hbw.size
  have ha := Below.refl w1.heap.size w1
  refine EL.val (x_move rfl) rfl ?_
  refine EL.val (x_extract rfl rfl) rfl ?_
  refine EL.val (x_extract rfl rfl) rfl ?_
  refine EL.newP al_47 rfl ?_
  intro g2 w2 q2 hb2 hg2 hl2
  have bhbw_2 := Nat.le_trans hbw.size hg2
  have bha_2 := Nat.le_trans ha.size hg2
  replace hbw := Below.on hbw hb2 hbw.size
  replace ha := Below.on ha hb2 ha.size
  clear hb2 hg2 hl2
  refine EL.store rfl rfl q2 sz_47 rfl rfl rfl rfl ?_
  intro w3 hq3 hg3
  replace hbw := below_store hbw hg3 bhbw_2
  replace ha := below_store ha hg3 bha_2
  replace q2 := hq3
  clear hg3 hq3
  refine EL.val (x_assign rfl) rfl ?_
  refine EL.nil ?_
  refine EX.seq ?_
  refine EC.seq ?_
  refine EC.region ?_
  refine EL.val (ld_47 rfl (q2.at (j := 0) rfl) (q2.at (j := 1) rfl)) rfl ?_
  refine EL.val (x_move rfl) rfl ?_
  refine EL.call (cl_40 rfl rfl) rfl (flows_two _ _ _ vs ss _ _ (hr.below ha) (hs.below ha) ha.size) ?_
  rintro e w4 ⟨⟨fb, fo, fc, _, fc1, fb1, fo1, rfl, rfl, f1, f2, f3, f4, f5⟩, hc4⟩
  refine ⟨_, rfl, ?_⟩
  replace q2 := q2.below hc4 q2.lt
  replace hbw := Below.on hbw hc4 hbw.size
  replace ha := Below.on ha hc4 ha.size
  have hfl := Below.refl w4.heap.size w4
  refine EL.val (x_move rfl) rfl ?_
  refine EL.val (x_extract rfl rfl) rfl ?_
  refine EL.val (x_extract rfl rfl) rfl ?_
  refine EL.val (x_assign rfl) rfl ?_
  refine EL.val (x_assign rfl) rfl ?_
  refine EL.nil ?_
  refine EX.seq ?_
  refine EC.seq ?_
  refine EC.region ?_
  refine EL.val (ld_47 rfl (q2.at (j := 0) rfl) (q2.at (j := 1) rfl)) rfl ?_
  refine EL.val (x_move rfl) rfl ?_
  refine EL.call (cl_33 rfl rfl rfl rfl) rfl (by have h := dep_ok twoR twoS _ _ _ vs ss _ _ (hr.below ha) (hs.below ha) ha.size (by decide) (by decide) two_curves (by decide) two_sides 120 3 two_start (by decide) (by decide); rw [two_depth] at h; exact h) ?_
  rintro e w5 ⟨rfl, hc5⟩
  refine ⟨_, rfl, ?_⟩
  replace q2 := q2.below hc5 q2.lt
  replace hbw := Below.on hbw hc5 hbw.size
  replace ha := Below.on ha hc5 ha.size
  replace hfl := Below.on hfl hc5 hfl.size
  clear hc5
  refine EL.val (x_move rfl) rfl ?_
  refine EL.val (x_extract rfl rfl) rfl ?_
  refine EL.val (x_extract rfl rfl) rfl ?_
  refine EL.newP al_23 rfl ?_
  intro g6 w6 q6 hb6 hg6 hl6
  have n2_6 : g2 ≠ g6 := Nat.ne_of_lt (Nat.lt_of_lt_of_le q2.lt hg6)
  have bhbw_6 := Nat.le_trans hbw.size hg6
  have bha_6 := Nat.le_trans ha.size hg6
  have bhfl_6 := Nat.le_trans hfl.size hg6
  replace q2 := q2.below hb6 q2.lt
  replace hbw := Below.on hbw hb6 hbw.size
  replace ha := Below.on ha hb6 ha.size
  replace hfl := Below.on hfl hb6 hfl.size
  clear hb6 hg6 hl6
  refine EL.store rfl rfl q6 sz_23 rfl rfl rfl rfl ?_
  intro w7 hq7 hg7
  replace q2 := q2.grown hg7 (fun h => n2_6 (Option.some.inj h))
  replace hbw := below_store hbw hg7 bhbw_6
  replace ha := below_store ha hg7 bha_6
  replace hfl := below_store hfl hg7 bhfl_6
  replace q6 := hq7
  clear hg7 hq7
  refine EL.val (x_assign rfl) rfl ?_
  refine EL.nil ?_
  refine EX.seq ?_
  refine EC.seq ?_
  refine EC.region ?_
  refine EL.val (bd_23_0_1 rfl rfl) rfl ?_
  refine EL.val (bd_25_0_1_2_3 rfl rfl rfl rfl) rfl ?_
  refine EL.val (bd_23_0_1 rfl rfl) rfl ?_
  refine EL.val (bd_23_0_1 rfl rfl) rfl ?_
  refine EL.val (bd_33_0_1 rfl rfl) rfl ?_
  refine EL.newS (bs_26_1 rfl) rfl ?_
  intro g8 w8 q8 hb8 hg8 hl8
  have n2_8 : g2 ≠ g8 := Nat.ne_of_lt (Nat.lt_of_lt_of_le q2.lt hg8)
  have n6_8 : g6 ≠ g8 := Nat.ne_of_lt (Nat.lt_of_lt_of_le q6.lt hg8)
  have bhbw_8 := Nat.le_trans hbw.size hg8
  have bha_8 := Nat.le_trans ha.size hg8
  have bhfl_8 := Nat.le_trans hfl.size hg8
  replace q2 := q2.below hb8 q2.lt
  replace q6 := q6.below hb8 q6.lt
  replace hbw := Below.on hbw hb8 hbw.size
  replace ha := Below.on ha hb8 ha.size
  replace hfl := Below.on hfl hb8 hfl.size
  clear hb8 hg8 hl8
  refine EL.call (cl_17 rfl rfl) rfl (runoff_two _ q8) ?_
  rintro e w9 ⟨⟨ob, oo, oc, rfl, o1, o2⟩, hc9⟩
  refine ⟨_, rfl, ?_⟩
  replace q2 := q2.below hc9 q2.lt
  replace q6 := q6.below hc9 q6.lt
  replace q8 := q8.below hc9 q8.lt
  replace hbw := Below.on hbw hc9 hbw.size
  replace ha := Below.on ha hc9 ha.size
  replace hfl := Below.on hfl hc9 hfl.size
  have hro := Below.refl w9.heap.size w9
  refine EL.val (x_move rfl) rfl ?_
  refine EL.val (x_extract rfl rfl) rfl ?_
  refine EL.val (x_extract rfl rfl) rfl ?_
  refine EL.val (x_assign rfl) rfl ?_
  refine EL.val (x_assign rfl) rfl ?_
  refine EL.nil ?_
  refine EX.seq ?_
  refine EC.seq ?_
  refine EC.seq ?_
  refine EC.region ?_
  refine EL.val (x_move rfl) rfl ?_
  refine EL.val (x_neq rfl rfl (by first | assumption | exact decide_eq_false (by omega))) rfl ?_
  refine EL.val (x_move rfl) rfl ?_
  refine EL.valg rfl rfl (x_move rfl) rfl ?_
  refine EL.valg rfl rfl (x_neq rfl rfl (by first | assumption | exact decide_eq_false (by omega))) rfl ?_
  refine EL.val (x_pick_f rfl rfl) rfl ?_
  refine EL.val (x_move rfl) rfl ?_
  refine EL.valg rfl rfl (x_move rfl) rfl ?_
  refine EL.valg rfl rfl (x_neq rfl rfl (by first | assumption | exact decide_eq_false (by omega))) rfl ?_
  refine EL.val (x_pick_f rfl rfl) rfl ?_
  refine EL.val (x_move rfl) rfl ?_
  refine EL.valg rfl rfl (x_move rfl) rfl ?_
  refine EL.valg rfl rfl (ln_52 rfl) rfl ?_
  refine EL.valg rfl rfl (x_neq rfl rfl (by first | assumption | exact decide_eq_false (by omega))) rfl ?_
  refine EL.val (x_pick_f rfl rfl) rfl ?_
  refine EL.val (x_move rfl) rfl ?_
  refine EL.valg rfl rfl (x_move rfl) rfl ?_
  refine EL.valg rfl rfl (ix_52 (k := 1) rfl rfl (by omega)) rfl ?_
  refine EL.valg rfl rfl (ld_28 rfl (below_load hfl f1)) rfl ?_
  refine EL.valg rfl rfl (ln_28 rfl) rfl ?_
  refine EL.valg rfl rfl (x_neq rfl rfl (by first | assumption | exact decide_eq_false (by omega))) rfl ?_
  refine EL.val (x_pick_f rfl rfl) rfl ?_
  refine EL.val (x_move rfl) rfl ?_
  refine EL.valg rfl rfl (x_move rfl) rfl ?_
  refine EL.valg rfl rfl (ln_28 rfl) rfl ?_
  refine EL.valg rfl rfl (x_neq rfl rfl (by first | assumption | exact decide_eq_false (by omega))) rfl ?_
  refine EL.val (x_pick_f rfl rfl) rfl ?_
  refine EL.nil ?_
  refine EX.seq ?_
  refine EC.no rfl ?_
  refine EC.skip ?_
  refine EX.seq ?_
  refine EC.seq ?_
  refine EC.region ?_
  refine EL.val (x_move rfl) rfl ?_
  refine EL.val (ix_52 (k := 1) rfl rfl (by omega)) rfl ?_
  refine EL.val (ld_28 rfl (below_load hfl f1)) rfl ?_
  refine EL.val (ix_28 (k := 1) rfl rfl (by omega)) rfl ?_
  refine EL.val (ld_23 rfl (below_load hfl f2) (below_load hfl f3)) rfl ?_
  refine EL.val (bd_23_0_1 rfl rfl) rfl ?_
  refine EL.val (eql_23 (r := true) rfl rfl (by decide)) rfl ?_
  refine EL.val (x_move rfl) rfl ?_
  refine EL.valg rfl rfl (x_move rfl) rfl ?_
  refine EL.valg rfl rfl (ix_52 (k := 1) rfl rfl (by omega)) rfl ?_
  refine EL.valg rfl rfl (ld_28 rfl (below_load hfl f1)) rfl ?_
  refine EL.valg rfl rfl (ix_28 (k := 2) rfl rfl (by omega)) rfl ?_
  refine EL.valg rfl rfl (ld_23 rfl (below_load hfl f4) (below_load hfl f5)) rfl ?_
  refine EL.valg rfl rfl (bd_23_0_1 rfl rfl) rfl ?_
  refine EL.valg rfl rfl (eql_23 (r := true) rfl rfl (by decide)) rfl ?_
  refine EL.val (x_pick_t rfl rfl) rfl ?_
  refine EL.val (x_move rfl) rfl ?_
  refine EL.valg rfl rfl (ld_23 rfl (q6.at (j := 0) rfl) (q6.at (j := 1) rfl)) rfl ?_
  refine EL.valg rfl rfl (bd_23_0_1 rfl rfl) rfl ?_
  refine EL.valg rfl rfl (eql_23 (r := true) rfl rfl (by decide)) rfl ?_
  refine EL.val (x_pick_t rfl rfl) rfl ?_
  refine EL.val (x_move rfl) rfl ?_
  refine EL.valg rfl rfl (x_move rfl) rfl ?_
  refine EL.valg rfl rfl (ix_28 (k := 0) rfl rfl (by omega)) rfl ?_
  refine EL.valg rfl rfl (ld_23 rfl (below_load hro o1) (below_load hro o2)) rfl ?_
  refine EL.valg rfl rfl (bd_23_0_1 rfl rfl) rfl ?_
  refine EL.valg rfl rfl (eql_23 (r := true) rfl rfl (by decide)) rfl ?_
  refine EL.val (x_pick_t rfl rfl) rfl ?_
  refine EL.val (x_assign rfl) rfl ?_
  refine EL.nil ?_
  refine EX.seq ?_
  refine EC.ret ?_
  exact EX.done (res1 rfl rfl) ⟨rfl, hbw⟩
end Go.Proofs.Ytncnlhkmdljgpaa
set_option linter.unusedVariables false
namespace Go.Proofs.Ytncnlhkmdljgpaa
open Go Go.RowKit
theorem mono_riv {k : Nat} {rv : River} : Mono fun r w => ∃ a b vs, r k = .agg #[a, b] ∧ RdRiver w w.heap.size a b rv vs := fun _ _ _ hb ⟨a, b, vs, h1, h2⟩ => ⟨a, b, vs, h1, h2.go hb⟩
theorem mono_sid {k : Nat} {l : List (List Bd)} : Mono fun r w => ∃ v ss, r k = v ∧ RdSides w w.heap.size v l ss := fun _ _ _ hb ⟨v, ss, h1, h2⟩ => ⟨v, ss, h1, h2.go hb⟩
theorem Fine.curves {rv : River} {sides : List (List Bd)} (h : Fine rv sides) : CurvesB rv.reaches := fun i hi => Nat.le_trans (h.curve i hi) (by decide)
theorem Fine.sidesB {rv : River} {sides : List (List Bd)} (h : Fine rv sides) : SidesB sides := fun i hi => Nat.le_trans (h.side i hi) (by decide)
section
variable {rv : River} {sides : List (List Bd)} {p t : Int}
end
end Go.Proofs.Ytncnlhkmdljgpaa
set_option linter.unusedVariables false
namespace Go.Proofs.Ytncnlhkmdljgpaa
open Go Go.RowKit
section
variable {w w' : World} {base base' e size n g T : Nat} {v u : Value} {xs : List Value} {cs : Array Value}
theorem own_type (h : w.ownsRow base e size v n xs) (hq : Blk w g T cs) (hT : Nat.beq T e = false) (hg : w.grownBy w' (some g)) : w'.ownsRow base e size v n xs :=
  h.kept hg (by
    obtain ⟨_, ⟨rfl, _⟩ | ⟨k, cap, cur, rfl, _, hk, _⟩⟩ := h
    · exact .inl rfl
    · refine .inr fun h' => ?_
      have h1 : k = g := by simpa [Value.ownBlock] using h'
      subst h1
      unfold Blk at hq
      have h2 : some (Obj.cells cs T (0, 0)) = some (Obj.cells cur e (0, 0)) := hq.symm.trans hk
      injection h2 with h2
      injection h2 with _ h3
      exact Nat.ne_of_beq_eq_false hT h3)
theorem Rows.type {osize tb : Nat} {outer : List Value} {fs : List Value} {F : List (Nat × List Value)} (h : Rows w base e osize v n outer tb size fs F) (hq : Blk w g T cs) (hT : Nat.beq T e = false) (hT2 : Nat.beq T tb = false) (hg : w.grownBy w' (some g)) : Rows w' base e osize v n outer tb size fs F :=
  ⟨own_type h.own hq hT hg, h.len, fun i hi => own_type (h.each i hi) hq hT2 hg, h.apart⟩
end
/-- a river, a forecast that one owns -/
structure OwnRiver (w : World) (base : Nat) (v u : Value) (r : River) (vs : List Value) : Prop where
  rows : Rows w base 50 9 v r.reaches.length ((r.reaches.zip vs).flatMap reachC) 126 2 vs (rowsR r.reaches)
  sh : w.ownsRow base 97 6 u r.shoals.length (shoalsC r.shoals)
def OwnSides (w : World) (base : Nat) (v : Value) (l : List (List Bd)) (fs : List Value) : Prop := Rows w base 28 1 v l.length fs 23 2 fs (rowsB l)
section
variable {w w' : World} {base base' : Nat} {v u s : Value} {r : River} {vs ss : List Value} {l : List (List Bd)}
theorem OwnRiver.rd (h : OwnRiver w base v u r vs) : RdRiver w w.heap.size v u r vs := ⟨h.rows.reaches, Rd.of_own h.sh⟩
theorem OwnSides.rd (h : OwnSides w base s l ss) : RdSides w w.heap.size s l ss := Rows.sides h
theorem OwnRiver.below (h : OwnRiver w base v u r vs) (hb : Below w.heap.size w w') : OwnRiver w' base v u r vs := ⟨h.rows.below hb, own_below h.sh hb (Nat.le_refl _)⟩
theorem OwnSides.below (h : OwnSides w base s l ss) (hb : Below w.heap.size w w') : OwnSides w' base s l ss := Rows.below h hb
theorem OwnRiver.type {g T : Nat} {cs : Array Value} (h : OwnRiver w base v u r vs) (hq : Blk w g T cs) (h1 : Nat.beq T 50 = false) (h2 : Nat.beq T 126 = false) (h3 : Nat.beq T 97 = false) (hg : w.grownBy w' (some g)) : OwnRiver w' base v u r vs :=
  ⟨h.rows.type hq h1 h2 hg, own_type h.sh hq h3 hg⟩
theorem OwnSides.type {g T : Nat} {cs : Array Value} (h : OwnSides w base s l ss) (hq : Blk w g T cs) (h1 : Nat.beq T 28 = false) (h2 : Nat.beq T 23 = false) (hg : w.grownBy w' (some g)) : OwnSides w' base s l ss := Rows.type h hq h1 h2 hg
end
end Go.Proofs.Ytncnlhkmdljgpaa
set_option linter.unusedVariables false
namespace Go.Proofs.Ytncnlhkmdljgpaa
open Go Go.RowKit
section
variable {P : Program} {w : World}
theorem run_copy {t e : TypeId} {size bytes base B m ty g : Nat} (E : Elem P t e size bytes) {src : Value} {news : List Value} (hq : Blk w g e #[]) (hg : base ≤ g) (hr : Rd w B size src m news) (h1 : ∀ u ∈ news, u.oneCell' = true) (hm : m ≤ 1048576) (hby : bytes ≤ 1048576) (hbase : base ≤ w.heap.size) :
    ∃ v' w', (Builtin.append_ #[t, t] ty #[.slice (some ⟨g, 0, none⟩) 0 0, src]).run P w = .ok v' w' ∧ w'.ownsRow base e size v' m news ∧ Below w.heap.size w w' := by
  have hown := own_empty (base := base) size hq hg
  obtain ⟨v', w', h2, h3, h4, h5, _⟩ := run_push (ty := ty) E hown hr h1 (by omega) hby hbase
  rw [Nat.zero_add, List.nil_append] at h3
  refine ⟨v', w', h2, h3, ?_⟩
  have key : w'.heap[g]? = w.heap[g]? := by
    obtain ⟨i, z, hi, hz, hsize, hb, hzs⟩ := E.hi
    obtain ⟨hl, A, c, rfl, hnc, hr⟩ := hr
    rcases Nat.eq_zero_or_pos m with hm0 | hm0
    · subst hm0
      have hn : news = [] := List.eq_nil_of_length_eq_zero (by simpa using hl)
      subst hn
      rcases A with _ | ad
      · have h6 := run_append_of_nil (P := P) w base t ty e i size E.ht hi _ 0 [] hown c
        rw [h2] at h6
        injection h6 with _ h6
        rw [h6]
      · have h6 := run_append_room (P := P) w t ty e i E.ht hi g 0 0 #[] hq ad 0 c [] (by simp) (by simp) (by simp) (by simp) (by simp)
        rw [h2] at h6
        injection h6 with _ h6
        have h7 := setRow_blk (ds := (List.take (0 * i.size) (#[] : Array Value).toList ++ [] ++ List.drop (0 * i.size + ([] : List Value).length) (#[] : Array Value).toList).toArray) hq
        rw [← h6] at h7
        unfold Blk at h7 hq
        rw [h7, hq]
        simp
    · obtain ⟨b, off, rfl, _, hc⟩ := hr hm0
      have hmul : m * i.bytes ≤ 1048576 * i.bytes := Nat.mul_le_mul_right _ hm
      have h6 := run_append_grow (P := P) w t ty e i z E.ht hi hz ⟨g, 0, none⟩ 0 0 [] (by simp) (by simp) ⟨b, off, none⟩ m c news (by rw [hsize]; exact hl) (fun j u hu => by rw [Addr.add_lit]; exact hc j u hu) (by omega) (by omega) (by rw [Nat.zero_add, nextslicecap_zero hm0]; omega)
      rw [h2] at h6
      injection h6 with _ h6
      rw [h6]
      have hlt := hq.lt
      simp only [World.alloc, World.drew]
      rw [Array.getElem?_push_lt hlt, Array.getElem?_eq_getElem hlt]
  exact ⟨h4.os, h4.tape, h4.output, h4.size, fun k hk => by
    by_cases e : k = g
    · subst e; exact key
    · exact h4.block k hk (fun h => e (by simpa [Value.ownBlock] using h))⟩
end
section
variable {P : Program} {n : Nat} {σ : Sg} {L : List Oper} {cls : List (List Nat)} {alc : List Nat} {val : Nat → Value} {a : Act} {w1 : World} {i : Nat} {Q : Exit → Act → World → Prop}
theorem ss_copy {fl : Nat → Bool} {Φ : Nat → (Nat → Bool) → (Nat → Value) → World → Prop} {d ty t e size bytes base B mm g : Nat} {s x : Operand} {pos : String} {af : Array Edge} (E : Elem P t e size bytes) {src : Value} {news : List Value} (ha : Env n σ a) (ho : nthO L i = some ⟨some d, .call { callee := .builtin .append, args := #[s, x], argTypes := #[t, t] }, ty, pos, af, none⟩) (hs : evS σ s = some (.slice (some ⟨g, 0, none⟩) 0 0)) (hx : evS σ x = some src)
    (hq : Blk w1 g e #[]) (hg : base ≤ g) (hr : Rd w1 B size src mm news) (h1 : ∀ u ∈ news, u.oneCell' = true) (hm : mm ≤ 1048576) (hby : Nat.ble bytes 1048576 = true) (hbase : base ≤ w1.heap.size) (halc : memB alc i = false)
    (hΦ : ∀ v' w', w'.ownsRow base e size v' mm news → Φ i fl (res (upd val i v') i (clsAt cls i)) w') : wpOp P L.toArray Q i (SK fl L cls alc Φ i val a w1) a w1 := by
  obtain ⟨v', w', h2, h3, h4⟩ := run_copy (P := P) (ty := ty) E hq hg hr h1 hm (by simpa [Nat.ble_eq] using hby) hbase
  exact ss_run ho rfl (run_append_call rfl (ha.eval hs) (ha.eval hx) h2) h4 (hΦ v' w' h3) fun h => by rw [memB_mem.2 h] at halc; cases halc
end
/-- a world of which some blocks are turned -/
structure Touch (w w1 : World) (gs : List Nat) : Prop where
  os : w1.os = w.os
  tape : w1.tape = w.tape
  output : w1.output = w.output
  size : w.heap.size ≤ w1.heap.size
  block : ∀ k, k < w.heap.size → k ∉ gs → w1.heap[k]? = w.heap[k]?
section
variable {w w1 w2 : World} {gs : List Nat} {g T : Nat} {cs : Array Value}
theorem Touch.start (w : World) (gs : List Nat) : Touch w { w with drawn := w.drawn + 1 } gs := ⟨rfl, rfl, rfl, Nat.le_refl _, fun _ _ _ => rfl⟩
theorem Touch.below (h : Touch w w1 gs) (hb : Below w1.heap.size w1 w2) : Touch w w2 gs :=
  ⟨hb.os.trans h.os, hb.tape.trans h.tape, hb.output.trans h.output, Nat.le_trans h.size hb.size, fun k hk hn => (hb.block k (Nat.lt_of_lt_of_le hk h.size)).trans (h.block k hk hn)⟩
theorem Touch.grown (h : Touch w w1 gs) (hg : w1.grownBy w2 (some g)) (hm : g ∈ gs) : Touch w w2 gs :=
  ⟨hg.os.trans h.os, hg.tape.trans h.tape, hg.output.trans h.output, Nat.le_trans h.size hg.size, fun k hk hn => (hg.block k (Nat.lt_of_lt_of_le hk h.size) (fun e => hn (by injection e with e; rw [e]; exact hm))).trans (h.block k hk hn)⟩
end
theorem mono_row {k base e size n : Nat} {xs : List Value} : Mono fun r w => ∃ v, r k = v ∧ w.ownsRow base e size v n xs := fun _ _ _ hb ⟨v, h1, h2⟩ => ⟨v, h1, own_below h2 hb (Nat.le_refl _)⟩
end Go.Proofs.Ytncnlhkmdljgpaa
set_option linter.unusedVariables false
namespace Go.Proofs.Ytncnlhkmdljgpaa
open Go Go.RowKit
/-- what pick and part return -/
def pickI (b : Bd) (y : Int) : Int := b.lo + ((b.hi - b.lo) * y).tdiv 255
def partI (l : List Int) (i : Nat) : Int := if l.length = 0 then 0 else l.getD (i % l.length) 0
theorem pick_bd {b : Bd} {y : Int} (h : b.lo ≤ b.hi) (h0 : 0 ≤ y) (h1 : y ≤ 255) : b.lo ≤ pickI b y ∧ pickI b y ≤ b.hi := by
  have h2 : 0 ≤ (b.hi - b.lo) * y := Int.mul_nonneg (by omega) h0
  have h3 : (b.hi - b.lo) * y ≤ (b.hi - b.lo) * 255 := Int.mul_le_mul_of_nonneg_left h1 (by omega)
  unfold pickI
  rw [Int.tdiv_eq_ediv_of_nonneg h2]
  have h4 : 0 ≤ (b.hi - b.lo) * y / 255 := Int.ediv_nonneg h2 (by omega)
  have h5 : (b.hi - b.lo) * y / 255 ≤ b.hi - b.lo := Int.ediv_le_of_le_mul (by omega) h3
  omega
theorem part_bd {l : List Int} (hl : ∀ x ∈ l, 0 ≤ x ∧ x ≤ 255) (i : Nat) : 0 ≤ partI l i ∧ partI l i ≤ 255 := by
  unfold partI
  split
  · omega
  · rename_i h
    exact hl _ (getD_mem (Nat.mod_lt _ (by omega)))
section
variable {c : Land} {sky : List Sky} {s : Int} {heat : Nat → Int}
end
/-- what holds of land and sky -/
structure MeltOk (c : Land) (sky : List Sky) : Prop where
  area : 0 ≤ c.area ∧ c.area ≤ 10000
  percent : 0 ≤ c.percent ∧ c.percent ≤ 100
  melt : 0 ≤ c.melt ∧ c.melt ≤ 100
  snow : 0 ≤ c.snow.lo ∧ c.snow.lo ≤ c.snow.hi ∧ c.snow.hi ≤ 1000000
  rain : ∀ i, i < sky.length → 0 ≤ (sky.getD i sky0).rain.lo ∧ (sky.getD i sky0).rain.lo ≤ (sky.getD i sky0).rain.hi ∧ (sky.getD i sky0).rain.hi ≤ 20000
  heat : ∀ i, i < sky.length → -500 ≤ (sky.getD i sky0).heat.lo ∧ (sky.getD i sky0).heat.lo ≤ (sky.getD i sky0).heat.hi ∧ (sky.getD i sky0).heat.hi ≤ 500
section
variable {c : Land} {sky : List Sky} {i : Nat}
end
end Go.Proofs.Ytncnlhkmdljgpaa
set_option linter.unusedVariables false
set_option linter.unusedSimpArgs false
namespace Go.Proofs.Ytncnlhkmdljgpaa
open Go Go.RowKit
/-- all of a slice's elements at once -/
theorem sides_all {l : List (List Bd)} {vs : List Value} {w : World} {B : Nat} {A : Option Addr} {n c : Nat} (hr : RdSides w B (.slice A n c) l vs) (h0 : 0 < l.length) :
    ∃ b o, A = some ⟨b, o, none⟩ ∧ b < B ∧ ∀ k, k < l.length → w.cell? ⟨b, o + k, none⟩ = some (vs.getD k undef) := by
  obtain ⟨hv, hrd, _⟩ := hr
  have hn : n = l.length := by obtain ⟨_, _, _, e, _⟩ := hrd; injection e
  subst hn
  obtain ⟨b, off, rfl, hb, hc⟩ := hrd.at_ (by omega)
  exact ⟨b, off, rfl, hb, fun k hk => hc k _ (by simp [show k < vs.length by omega])⟩
set_option maxRecDepth 100000 in
theorem valid_any (rv : River) (sides : List (List Bd)) (v u s : Value) (vs ss : List Value) (w : World) (B : Nat) (hr : RdRiver w B v u rv vs) (hs : RdSides w B s sides ss) (hB : B ≤ w.heap.size) :
    Calls Try.prog 44 #[.agg #[v, u, s]] w fun e w' => (e = .returned (.bool false) ∨ e = .returned (.bool true) ∧ Fine rv sides ∧ startErr rv sides = 0) ∧ Below w.heap.size w w' := by
  obtain ⟨A, c, rfl, _⟩ := hr.reaches.shape
  obtain ⟨A', c', rfl, _⟩ := hr.shoals.shape
  obtain ⟨D, d, rfl, _⟩ := hs.rd.shape
  have hbw := Below.refl w.heap.size w
  refine EC.enter 98 Try.func44 rfl rfl rfl ?_
  refine EC.seq ?_
  refine EC.region ?_
  refine EL.newP (bx_54 rfl) rfl ?_
  intro g1 w1 q1 hb1 hg1 hl1
  have bhbw_1 := Nat.le_trans hbw.size hg1
  replace hbw := Below.on hbw hb1 hbw.size
  clear hb1 hg1 hl1
  refine EL.val (x_assign rfl) rfl ?_
  refine EL.nil ?_
  refine EX.seq ?_
  refine EC.seq ?_
  refine EC.seq ?_
  refine EC.region ?_
  refine EL.val (ld_54 rfl (q1.at (j := 0) rfl) (q1.at (j := 1) rfl) (q1.at (j := 2) rfl)) rfl ?_
  refine EL.call (cl_23 rfl) rfl (large_any rv sides _ _ _ vs ss _ _ (hr.below (hbw.mono hB)) (hs.below (hbw.mono hB)) (Nat.le_trans hB hbw.size)) ?_
  rintro e w_l ⟨rfl | ⟨rfl, hfine⟩, hc_⟩
  ·
    refine ⟨_, rfl, ?_⟩
    replace q1 := q1.below hc_ q1.lt
    replace hbw := Below.on hbw hc_ hbw.size
    clear hc_
    refine EL.val (x_move rfl) rfl ?_
    refine EL.skip rfl rfl rfl rfl ?_
    refine EL.skip rfl rfl rfl rfl ?_
    refine EL.skip rfl rfl rfl rfl ?_
    refine EL.skip rfl rfl rfl rfl ?_
    refine EL.skip rfl rfl rfl rfl ?_
    refine EL.val (x_pick_t rfl rfl) rfl ?_
    refine EL.val (x_move rfl) rfl ?_
    refine EL.skip rfl rfl rfl rfl ?_
    refine EL.skip rfl rfl rfl rfl ?_
    refine EL.skip rfl rfl rfl rfl ?_
    refine EL.skip rfl rfl rfl rfl ?_
    refine EL.skip rfl rfl rfl rfl ?_
    refine EL.skip rfl rfl rfl rfl ?_
    refine EL.skip rfl rfl rfl rfl ?_
    refine EL.skip rfl rfl rfl rfl ?_
    refine EL.val (x_pick_t rfl rfl) rfl ?_
    refine EL.val (x_move rfl) rfl ?_
    refine EL.skip rfl rfl rfl rfl ?_
    refine EL.skip rfl rfl rfl rfl ?_
    refine EL.skip rfl rfl rfl rfl ?_
    refine EL.skip rfl rfl rfl rfl ?_
    refine EL.skip rfl rfl rfl rfl ?_
    refine EL.skip rfl rfl rfl rfl ?_
    refine EL.val (x_pick_t rfl rfl) rfl ?_
    refine EL.val (x_move rfl) rfl ?_
    refine EL.skip rfl rfl rfl rfl ?_
    refine EL.skip rfl rfl rfl rfl ?_
    refine EL.skip rfl rfl rfl rfl ?_
    refine EL.skip rfl rfl rfl rfl ?_
    refine EL.skip rfl rfl rfl rfl ?_
    refine EL.val (x_pick_t rfl rfl) rfl ?_
    refine EL.nil ?_
    refine EX.seq ?_
    refine EC.yes rfl ?_
    refine EC.seq ?_
    refine EC.region ?_
    refine EL.val (x_assign rfl) rfl ?_
    refine EL.nil ?_
    refine EX.seq ?_
    refine EC.ret ?_
    refine EX.seq_ret ?_
    exact EX.done (res1 rfl rfl) ⟨.inl rfl, hbw⟩
  ·
    have f1 := hfine.nreaches
    have f2 := hfine.nshoals
    have f3 := hfine.curves
    have f4 := hfine.sidesB
    have f5 := hfine.nsides
    refine ⟨_, rfl, ?_⟩
    replace q1 := q1.below hc_ q1.lt
    replace hbw := Below.on hbw hc_ hbw.size
    clear hc_
    refine EL.val (x_move rfl) rfl ?_
    refine EL.valg rfl rfl (fa_54_0 rfl) rfl ?_
    refine EL.valg rfl rfl (fa_47_0 rfl) rfl ?_
    refine EL.valg rfl rfl (ld_44 rfl (q1.at (j := 0) rfl)) rfl ?_
    refine EL.valg rfl rfl (ln_44 rfl) rfl ?_
    by_cases h1_7 : rv.reaches.length < 1
    ·
      refine EL.valg rfl rfl (x_lss rfl rfl (by first | assumption | exact decide_eq_true (by omega))) rfl ?_
      refine EL.val (x_pick_f rfl rfl) rfl ?_
      refine EL.val (x_move rfl) rfl ?_
      refine EL.skip rfl rfl rfl rfl ?_
      refine EL.skip rfl rfl rfl rfl ?_
      refine EL.skip rfl rfl rfl rfl ?_
      refine EL.skip rfl rfl rfl rfl ?_
      refine EL.skip rfl rfl rfl rfl ?_
      refine EL.skip rfl rfl rfl rfl ?_
      refine EL.skip rfl rfl rfl rfl ?_
      refine EL.skip rfl rfl rfl rfl ?_
      refine EL.val (x_pick_t rfl rfl) rfl ?_
      refine EL.val (x_move rfl) rfl ?_
      refine EL.skip rfl rfl rfl rfl ?_
      refine EL.skip rfl rfl rfl rfl ?_
      refine EL.skip rfl rfl rfl rfl ?_
      refine EL.skip rfl rfl rfl rfl ?_
      refine EL.skip rfl rfl rfl rfl ?_
      refine EL.skip rfl rfl rfl rfl ?_
      refine EL.val (x_pick_t rfl rfl) rfl ?_
      refine EL.val (x_move rfl) rfl ?_
      refine EL.skip rfl rfl rfl rfl ?_
      refine EL.skip rfl rfl rfl rfl ?_
      refine EL.skip rfl rfl rfl rfl ?_
      refine EL.skip rfl rfl rfl rfl ?_
      refine EL.skip rfl rfl rfl rfl ?_
      refine EL.val (x_pick_t rfl rfl) rfl ?_
      refine EL.nil ?_
      refine EX.seq ?_
      refine EC.yes rfl ?_
      refine EC.seq ?_
      refine EC.region ?_
      refine EL.val (x_assign rfl) rfl ?_
      refine EL.nil ?_
      refine EX.seq ?_
      refine EC.ret ?_
      refine EX.seq_ret ?_
      exact EX.done (res1 rfl rfl) ⟨.inl rfl, hbw⟩
    ·
      refine EL.valg rfl rfl (x_lss rfl rfl (by first | assumption | exact decide_eq_false (by omega))) rfl ?_
      refine EL.val (x_pick_f rfl rfl) rfl ?_
      refine EL.val (x_move rfl) rfl ?_
      refine EL.valg rfl rfl (fa_54_1 rfl) rfl ?_
      refine EL.valg rfl rfl (ld_52 rfl (q1.at (j := 2) rfl)) rfl ?_
      refine EL.valg rfl rfl (ln_52 rfl) rfl ?_
      refine EL.valg rfl rfl (fa_54_0 rfl) rfl ?_
      refine EL.valg rfl rfl (fa_47_0 rfl) rfl ?_
      refine EL.valg rfl rfl (ld_44 rfl (q1.at (j := 0) rfl)) rfl ?_
      refine EL.valg rfl rfl (ln_44 rfl) rfl ?_
      by_cases h1_17 : sides.length ≠ rv.reaches.length
      ·
        refine EL.valg rfl rfl (x_neq rfl rfl (by first | assumption | exact decide_eq_true (by omega))) rfl ?_
        refine EL.val (x_pick_f rfl rfl) rfl ?_
        refine EL.val (x_move rfl) rfl ?_
        refine EL.skip rfl rfl rfl rfl ?_
        refine EL.skip rfl rfl rfl rfl ?_
        refine EL.skip rfl rfl rfl rfl ?_
        refine EL.skip rfl rfl rfl rfl ?_
        refine EL.skip rfl rfl rfl rfl ?_
        refine EL.skip rfl rfl rfl rfl ?_
        refine EL.val (x_pick_t rfl rfl) rfl ?_
        refine EL.val (x_move rfl) rfl ?_
        refine EL.skip rfl rfl rfl rfl ?_
        refine EL.skip rfl rfl rfl rfl ?_
        refine EL.skip rfl rfl rfl rfl ?_
        refine EL.skip rfl rfl rfl rfl ?_
        refine EL.skip rfl rfl rfl rfl ?_
        refine EL.val (x_pick_t rfl rfl) rfl ?_
        refine EL.nil ?_
        refine EX.seq ?_
        refine EC.yes rfl ?_
        refine EC.seq ?_
        refine EC.region ?_
        refine EL.val (x_assign rfl) rfl ?_
        refine EL.nil ?_
        refine EX.seq ?_
        refine EC.ret ?_
        refine EX.seq_ret ?_
        exact EX.done (res1 rfl rfl) ⟨.inl rfl, hbw⟩
      ·
        obtain ⟨bS, oS, rfl, _, hsc⟩ := sides_all hs (by omega)
        have hs0 := hs.side 0 (by omega)
        obtain ⟨As, cs, es, _⟩ := hs0.shape
        have c0 := hsc 0 (by omega)
        rw [es] at c0
        refine EL.valg rfl rfl (x_neq rfl rfl (by first | assumption | exact decide_eq_false (by omega))) rfl ?_
        refine EL.val (x_pick_f rfl rfl) rfl ?_
        refine EL.val (x_move rfl) rfl ?_
        refine EL.valg rfl rfl (fa_54_1 rfl) rfl ?_
        refine EL.valg rfl rfl (ld_52 rfl (q1.at (j := 2) rfl)) rfl ?_
        refine EL.valg rfl rfl (ix_52 (k := 0) rfl rfl (by omega)) rfl ?_
        refine EL.valg rfl rfl (ld_28 rfl (below_load hbw c0)) rfl ?_
        refine EL.valg rfl rfl (ln_28 rfl) rfl ?_
        by_cases h1_25 : (sides.getD 0 []).length < 1
        ·
          refine EL.valg rfl rfl (x_lss rfl rfl (by first | assumption | exact decide_eq_true (by omega))) rfl ?_
          refine EL.val (x_pick_f rfl rfl) rfl ?_
          refine EL.val (x_move rfl) rfl ?_
          refine EL.skip rfl rfl rfl rfl ?_
          refine EL.skip rfl rfl rfl rfl ?_
          refine EL.skip rfl rfl rfl rfl ?_
          refine EL.skip rfl rfl rfl rfl ?_
          refine EL.skip rfl rfl rfl rfl ?_
          refine EL.val (x_pick_t rfl rfl) rfl ?_
          refine EL.nil ?_
          refine EX.seq ?_
          refine EC.yes rfl ?_
          refine EC.seq ?_
          refine EC.region ?_
          refine EL.val (x_assign rfl) rfl ?_
          refine EL.nil ?_
          refine EX.seq ?_
          refine EC.ret ?_
          refine EX.seq_ret ?_
          exact EX.done (res1 rfl rfl) ⟨.inl rfl, hbw⟩
        ·
          refine EL.valg rfl rfl (x_lss rfl rfl (by first | assumption | exact decide_eq_false (by omega))) rfl ?_
          refine EL.val (x_pick_f rfl rfl) rfl ?_
          refine EL.val (x_move rfl) rfl ?_
          refine EL.valg rfl rfl (fa_54_0 rfl) rfl ?_
          refine EL.valg rfl rfl (ld_47 rfl (q1.at (j := 0) rfl) (q1.at (j := 1) rfl)) rfl ?_
          refine EL.callg rfl rfl (cl_24 rfl) rfl (copied_any rv _ _ vs _ B (hr.below (hbw.mono hB)) (Nat.le_trans hB hbw.size) (by omega) (by omega) f3) ?_
          rintro e w2 ⟨⟨v1, u1, vs1, rfl, hcp⟩, hc2⟩
          refine ⟨_, rfl, ?_⟩
          replace q1 := q1.below hc2 q1.lt
          replace hbw := Below.on hbw hc2 hbw.size
          clear hc2
          refine EL.callg rfl rfl (cl_25 rfl) rfl (check_any rv _ _ vs1 _ _ hcp (Nat.le_refl _) (by omega) (by omega) f3) ?_
          rintro e w3 ⟨rfl, hc3⟩
          refine ⟨_, rfl, ?_⟩
          replace q1 := q1.below hc3 q1.lt
          replace hbw := Below.on hbw hc3 hbw.size
          clear hc3
          rcases Bool.eq_false_or_eq_true (riverB rv) with hok | hok
          ·
            have hd : errB (riverB rv) = 0 := by rw [hok]; rfl
            refine EL.valg rfl rfl (x_neq rfl rfl (by first | assumption | exact decide_eq_false (by omega))) rfl ?_
            refine EL.val (x_pick_f rfl rfl) rfl ?_
            refine EL.nil ?_
            refine EX.seq ?_
            refine EC.no rfl ?_
            refine EC.skip ?_
            refine EX.seq ?_
            refine EC.seq ?_
            refine EC.seq ?_
            refine EC.region ?_
            refine EL.val (x_assign rfl) rfl ?_
            refine EL.nil ?_
            refine EX.seq ?_
            refine EC.block ?_
            refine EC.loopD [2, 3, 4, 5, 40, 41, 42, 43, 44, 45, 46, 47, 48, 49, 50, 51, 52, 53, 54, 55, 56, 57, 58, 59, 60, 61, 62, 63, 64, 65, 66, 67, 68, 69, 70, 71, 72, 73, 74, 75, 76, 77, 78, 79, 80, 81, 82, 83, 84, 85, 86, 87, 88, 89, 90, 91] (fun x : Nat => [(3, .int .i64 (x : Nat))]) (fun x W => x ≤ sides.length ∧ (∀ j, j < x → (sides.getD j []).length = (sides.getD 0 []).length ∧ ∀ y, y < (sides.getD j []).length → bdOk 0 10000000000 ((sides.getD j []).getD y bd0) = true) ∧ Blk W g1 54 #[.slice A rv.reaches.length c, .slice A' rv.shoals.length c', .slice (some ⟨bS, oS, none⟩) sides.length d] ∧ Below w.heap.size w W) (fun x => sides.length - x) 0 ⟨Nat.zero_le _, fun j hj => absurd hj (Nat.not_lt_zero _), q1, hbw⟩ ⟨rfl, trivial⟩ ?_
            clear q1 hbw
            rintro i wr ⟨hi, hI, q1, hbw⟩
            by_cases hlt : i < sides.length
            ·
              have ci := hsc i hlt
              have hs450 := hfine.side i hlt
              have hsi := hs.side i hlt
              obtain ⟨Ai, cai, ei, _⟩ := hsi.shape
              rw [ei] at ci hsi
              refine EC.seq ?_
              refine EC.seq ?_
              refine EC.region ?_
              refine EL.val (x_move rfl) rfl ?_
              refine EL.val (fa_54_1 rfl) rfl ?_
              refine EL.val (ld_52 rfl (q1.at (j := 2) rfl)) rfl ?_
              refine EL.val (ln_52 rfl) rfl ?_
              refine EL.val (x_lss rfl rfl (by first | assumption | exact decide_eq_true (by omega))) rfl ?_
              refine EL.nil ?_
              refine EX.seq ?_
              refine EC.yes rfl ?_
              refine EC.skip ?_
              refine EX.seq ?_
              refine EC.seq ?_
              refine EC.block ?_
              refine EC.seq ?_
              refine EC.seq ?_
              by_cases hsame : (sides.getD i []).length = (sides.getD 0 []).length
              ·
                refine EC.regionQ (by kernel_rfl) (by kernel_rfl) ?_
                refine EQ.val (fun _ hw => (fa_54_1 rfl)) rfl ?_
                refine EQ.val (fun _ hw => (ld_52 rfl (below_load hw (q1.at (j := 2) rfl)))) rfl ?_
                refine EQ.val (fun _ hw => (x_move rfl)) rfl ?_
                refine EQ.val (fun _ hw => (ix_52 rfl rfl hlt)) rfl ?_
                refine EQ.val (fun _ hw => (ld_28 rfl (below_load hw (below_load hbw ci)))) rfl ?_
                refine EQ.val (fun _ hw => (ln_28 rfl)) rfl ?_
                refine EQ.val (fun _ hw => (fa_54_1 rfl)) rfl ?_
                refine EQ.val (fun _ hw => (ld_52 rfl (below_load hw (q1.at (j := 2) rfl)))) rfl ?_
                refine EQ.val (fun _ hw => (ix_52 (k := 0) rfl rfl (by omega))) rfl ?_
                refine EQ.val (fun _ hw => (ld_28 rfl (below_load hw (below_load hbw c0)))) rfl ?_
                refine EQ.val (fun _ hw => (ln_28 rfl)) rfl ?_
                refine EQ.val (fun _ hw => (x_neq rfl rfl (by first | assumption | exact decide_eq_false (by omega)))) rfl ?_
                refine EQ.fin (fun w_ hw_ => ?_)
                replace q1 := q1.below hw_ q1.lt
                replace hbw := Below.on hbw hw_ hbw.size
                clear hw_
                refine EX.seq ?_
                refine EC.no rfl ?_
                refine EC.skip ?_
                refine EX.seq ?_
                refine EC.seq ?_
                refine EC.region ?_
                refine EL.val (x_assign rfl) rfl ?_
                refine EL.nil ?_
                refine EX.seq ?_
                refine EC.block ?_
                refine EC.loopD [2, 4, 5, 59, 60, 61, 62, 63, 64, 65, 66, 67, 68, 69, 70, 71, 72, 73, 74, 75, 76, 77, 78, 79, 80, 81, 82, 83, 84, 85, 86, 87, 88, 89, 90, 91] (fun x : Nat => [(4, .int .i64 (x : Nat))]) (fun x W => x ≤ (sides.getD i []).length ∧ (∀ y, y < x → bdOk 0 10000000000 ((sides.getD i []).getD y bd0) = true) ∧ Blk W g1 54 #[.slice A rv.reaches.length c, .slice A' rv.shoals.length c', .slice (some ⟨bS, oS, none⟩) sides.length d] ∧ Below w.heap.size w W) (fun x => (sides.getD i []).length - x) 0 ⟨Nat.zero_le _, fun j hj => absurd hj (Nat.not_lt_zero _), q1, hbw⟩ ⟨rfl, trivial⟩ ?_
                clear q1 hbw
                rintro k wk ⟨hk, hK, q1, hbw⟩
                by_cases hkl : k < (sides.getD i []).length
                ·
                  obtain ⟨bR, oR, rfl, _, d0, d1⟩ := bds_cells _ k hkl _ _ _ _ _ hsi
                  obtain ⟨y, ey⟩ : ∃ y, y = (sides.getD i []).getD k bd0 := ⟨_, rfl⟩
                  rw [← ey] at d0 d1
                  refine EC.seq ?_
                  refine EC.seq ?_
                  refine EC.region ?_
                  refine EL.val (x_move rfl) rfl ?_
                  refine EL.val (fa_54_1 rfl) rfl ?_
                  refine EL.val (ld_52 rfl (q1.at (j := 2) rfl)) rfl ?_
                  refine EL.val (x_move rfl) rfl ?_
                  refine EL.val (ix_52 rfl rfl hlt) rfl ?_
                  refine EL.val (ld_28 rfl (below_load hbw ci)) rfl ?_
                  refine EL.val (ln_28 rfl) rfl ?_
                  refine EL.val (x_lss rfl rfl (by first | assumption | exact decide_eq_true (by omega))) rfl ?_
                  refine EL.nil ?_
                  refine EX.seq ?_
                  refine EC.yes rfl ?_
                  refine EC.skip ?_
                  refine EX.seq ?_
                  refine EC.seq ?_
                  refine EC.block ?_
                  refine EC.seq ?_
                  refine EC.region ?_
                  refine EL.val (fa_54_1 rfl) rfl ?_
                  refine EL.val (ld_52 rfl (q1.at (j := 2) rfl)) rfl ?_
                  refine EL.val (x_move rfl) rfl ?_
                  refine EL.val (ix_52 rfl rfl hlt) rfl ?_
                  refine EL.val (ld_28 rfl (below_load hbw ci)) rfl ?_
                  refine EL.val (x_move rfl) rfl ?_
                  refine EL.val (ix_28 rfl rfl hkl) rfl ?_
                  refine EL.val (ld_23 rfl (below_load hbw d0) (below_load hbw d1)) rfl ?_
                  refine EL.newP al_23 rfl ?_
                  intro g4 w4 q4 hb4 hg4 hl4
                  have n1_4 : g1 ≠ g4 := Nat.ne_of_lt (Nat.lt_of_lt_of_le q1.lt hg4)
                  have bhbw_4 := Nat.le_trans hbw.size hg4
                  replace q1 := q1.below hb4 q1.lt
                  replace hbw := Below.on hbw hb4 hbw.size
                  clear hb4 hg4 hl4
                  refine EL.store rfl rfl q4 sz_23 rfl rfl rfl rfl ?_
                  intro w5 hq5 hg5
                  replace q1 := q1.grown hg5 (fun h => n1_4 (Option.some.inj h))
                  replace hbw := below_store hbw hg5 bhbw_4
                  replace q4 := hq5
                  clear hg5 hq5
                  refine EL.nil ?_
                  refine EX.seq ?_
                  refine EC.seq ?_
                  refine EC.region ?_
                  refine EL.val (fa_23_0 rfl) rfl ?_
                  refine EL.val (ld_3 rfl (q4.at (j := 0) rfl)) rfl ?_
                  by_cases h12_2 : y.lo < 0
                  ·
                    refine EL.val (x_lss rfl rfl (by first | assumption | exact decide_eq_true (by omega))) rfl ?_
                    refine EL.val (x_move rfl) rfl ?_
                    refine EL.skip rfl rfl rfl rfl ?_
                    refine EL.skip rfl rfl rfl rfl ?_
                    refine EL.skip rfl rfl rfl rfl ?_
                    refine EL.skip rfl rfl rfl rfl ?_
                    refine EL.skip rfl rfl rfl rfl ?_
                    refine EL.val (x_pick_t rfl rfl) rfl ?_
                    refine EL.val (x_move rfl) rfl ?_
                    refine EL.skip rfl rfl rfl rfl ?_
                    refine EL.skip rfl rfl rfl rfl ?_
                    refine EL.skip rfl rfl rfl rfl ?_
                    refine EL.val (x_pick_t rfl rfl) rfl ?_
                    refine EL.nil ?_
                    refine EX.seq ?_
                    refine EC.yes rfl ?_
                    refine EC.seq ?_
                    refine EC.region ?_
                    refine EL.val (x_assign rfl) rfl ?_
                    refine EL.nil ?_
                    refine EX.seq ?_
                    refine EC.ret ?_
                    refine EX.blk_ret ?_
                    refine EX.seq_ret ?_
                    refine EX.seq_ret ?_
                    refine EX.blk_ret ?_
                    refine EX.blk_ret ?_
                    refine EX.seq_ret ?_
                    refine EX.seq_ret ?_
                    refine EX.blk_ret ?_
                    refine EX.seq_ret ?_
                    exact EX.done (res1 rfl rfl) ⟨.inl rfl, hbw⟩
                  ·
                    refine EL.val (x_lss rfl rfl (by first | assumption | exact decide_eq_false (by omega))) rfl ?_
                    refine EL.val (x_move rfl) rfl ?_
                    refine EL.valg rfl rfl (fa_23_0 rfl) rfl ?_
                    refine EL.valg rfl rfl (ld_3 rfl (q4.at (j := 0) rfl)) rfl ?_
                    refine EL.valg rfl rfl (fa_23_1 rfl) rfl ?_
                    refine EL.valg rfl rfl (ld_3 rfl (q4.at (j := 1) rfl)) rfl ?_
                    by_cases h12_8 : y.hi < y.lo
                    ·
                      refine EL.valg rfl rfl (x_gtr rfl rfl (by first | assumption | exact decide_eq_true (by omega))) rfl ?_
                      refine EL.val (x_pick_f rfl rfl) rfl ?_
                      refine EL.val (x_move rfl) rfl ?_
                      refine EL.skip rfl rfl rfl rfl ?_
                      refine EL.skip rfl rfl rfl rfl ?_
                      refine EL.skip rfl rfl rfl rfl ?_
                      refine EL.val (x_pick_t rfl rfl) rfl ?_
                      refine EL.nil ?_
                      refine EX.seq ?_
                      refine EC.yes rfl ?_
                      refine EC.seq ?_
                      refine EC.region ?_
                      refine EL.val (x_assign rfl) rfl ?_
                      refine EL.nil ?_
                      refine EX.seq ?_
                      refine EC.ret ?_
                      refine EX.blk_ret ?_
                      refine EX.seq_ret ?_
                      refine EX.seq_ret ?_
                      refine EX.blk_ret ?_
                      refine EX.blk_ret ?_
                      refine EX.seq_ret ?_
                      refine EX.seq_ret ?_
                      refine EX.blk_ret ?_
                      refine EX.seq_ret ?_
                      exact EX.done (res1 rfl rfl) ⟨.inl rfl, hbw⟩
                    ·
                      refine EL.valg rfl rfl (x_gtr rfl rfl (by first | assumption | exact decide_eq_false (by omega))) rfl ?_
                      refine EL.val (x_pick_f rfl rfl) rfl ?_
                      refine EL.val (x_move rfl) rfl ?_
                      refine EL.valg rfl rfl (fa_23_1 rfl) rfl ?_
                      refine EL.valg rfl rfl (ld_3 rfl (q4.at (j := 1) rfl)) rfl ?_
                      by_cases h12_13 : 10000000000 < y.hi
                      ·
                        refine EL.valg rfl rfl (x_gtr rfl rfl (by first | assumption | exact decide_eq_true (by omega))) rfl ?_
                        refine EL.val (x_pick_f rfl rfl) rfl ?_
                        refine EL.nil ?_
                        refine EX.seq ?_
                        refine EC.yes rfl ?_
                        refine EC.seq ?_
                        refine EC.region ?_
                        refine EL.val (x_assign rfl) rfl ?_
                        refine EL.nil ?_
                        refine EX.seq ?_
                        refine EC.ret ?_
                        refine EX.blk_ret ?_
                        refine EX.seq_ret ?_
                        refine EX.seq_ret ?_
                        refine EX.blk_ret ?_
                        refine EX.blk_ret ?_
                        refine EX.seq_ret ?_
                        refine EX.seq_ret ?_
                        refine EX.blk_ret ?_
                        refine EX.seq_ret ?_
                        exact EX.done (res1 rfl rfl) ⟨.inl rfl, hbw⟩
                      ·
                        refine EL.valg rfl rfl (x_gtr rfl rfl (by first | assumption | exact decide_eq_false (by omega))) rfl ?_
                        refine EL.val (x_pick_f rfl rfl) rfl ?_
                        refine EL.nil ?_
                        refine EX.seq ?_
                        refine EC.no rfl ?_
                        refine EC.skip ?_
                        refine EX.blk ?_
                        refine EX.seq ?_
                        refine EC.region ?_
                        refine EL.val (x_move rfl) rfl ?_
                        refine EL.val (x_add rfl rfl (by first | assumption | exact IntWalk.i64_in _ ⟨by omega, by omega⟩)) rfl ?_
                        refine EL.val (x_assign rfl) rfl ?_
                        refine EL.nil ?_
                        refine EX.roundD (k + 1) ⟨rfl, trivial⟩ (by repeat first | exact Sub.refl _ | refine sub_past rfl ?_ | refine sub_del rfl ?_ | refine sub_insL_nil ?_) ⟨hkl, fun j hj => ?_, q1, hbw⟩ (by omega)
                        rcases Nat.lt_or_ge j k with h | h
                        · exact hK j h
                        · obtain rfl : j = k := by omega
                          rw [← ey]
                          exact bdOk_iff.2 (by omega)
                ·
                  obtain rfl : k = (sides.getD i []).length := by omega
                  refine EC.seq ?_
                  refine EC.seq ?_
                  refine EC.region ?_
                  refine EL.val (x_move rfl) rfl ?_
                  refine EL.val (fa_54_1 rfl) rfl ?_
                  refine EL.val (ld_52 rfl (q1.at (j := 2) rfl)) rfl ?_
                  refine EL.val (x_move rfl) rfl ?_
                  refine EL.val (ix_52 rfl rfl hlt) rfl ?_
                  refine EL.val (ld_28 rfl (below_load hbw ci)) rfl ?_
                  refine EL.val (ln_28 rfl) rfl ?_
                  refine EL.val (x_lss rfl rfl (by first | assumption | exact decide_eq_false (by omega))) rfl ?_
                  refine EL.nil ?_
                  refine EX.seq ?_
                  refine EC.no rfl ?_
                  refine EC.exit ?_
                  refine EX.seq_exit ?_
                  refine EX.seq_exit ?_
                  refine EX.blk_here ?_
                  refine EX.blk ?_
                  refine EX.seq ?_
                  refine EC.region ?_
                  refine EL.val (x_move rfl) rfl ?_
                  refine EL.val (x_add rfl rfl (by first | assumption | exact IntWalk.i64_in _ ⟨by omega, by omega⟩)) rfl ?_
                  refine EL.val (x_assign rfl) rfl ?_
                  refine EL.nil ?_
                  refine EX.roundD (i + 1) ⟨rfl, trivial⟩ (by repeat first | exact Sub.refl _ | refine sub_past rfl ?_ | refine sub_del rfl ?_ | refine sub_insL_nil ?_) ⟨hlt, fun j hj => ?_, q1, hbw⟩ (by omega)
                  rcases Nat.lt_or_ge j i with h | h
                  · exact hI j h
                  · obtain rfl : j = i := by omega
                    exact ⟨hsame, hK⟩
              ·
                refine EC.regionQ (by kernel_rfl) (by kernel_rfl) ?_
                refine EQ.val (fun _ hw => (fa_54_1 rfl)) rfl ?_
                refine EQ.val (fun _ hw => (ld_52 rfl (below_load hw (q1.at (j := 2) rfl)))) rfl ?_
                refine EQ.val (fun _ hw => (x_move rfl)) rfl ?_
                refine EQ.val (fun _ hw => (ix_52 rfl rfl hlt)) rfl ?_
                refine EQ.val (fun _ hw => (ld_28 rfl (below_load hw (below_load hbw ci)))) rfl ?_
                refine EQ.val (fun _ hw => (ln_28 rfl)) rfl ?_
                refine EQ.val (fun _ hw => (fa_54_1 rfl)) rfl ?_
                refine EQ.val (fun _ hw => (ld_52 rfl (below_load hw (q1.at (j := 2) rfl)))) rfl ?_
                refine EQ.val (fun _ hw => (ix_52 (k := 0) rfl rfl (by omega))) rfl ?_
                refine EQ.val (fun _ hw => (ld_28 rfl (below_load hw (below_load hbw c0)))) rfl ?_
                refine EQ.val (fun _ hw => (ln_28 rfl)) rfl ?_
                refine EQ.val (fun _ hw => (x_neq rfl rfl (by first | assumption | exact decide_eq_true (by omega)))) rfl ?_
                refine EQ.fin (fun w_ hw_ => ?_)
                replace q1 := q1.below hw_ q1.lt
                replace hbw := Below.on hbw hw_ hbw.size
                clear hw_
                refine EX.seq ?_
                refine EC.yes rfl ?_
                refine EC.seq ?_
                refine EC.region ?_
                refine EL.val (x_assign rfl) rfl ?_
                refine EL.nil ?_
                refine EX.seq ?_
                refine EC.ret ?_
                refine EX.seq_ret ?_
                refine EX.blk_ret ?_
                refine EX.seq_ret ?_
                refine EX.seq_ret ?_
                refine EX.blk_ret ?_
                refine EX.seq_ret ?_
                exact EX.done (res1 rfl rfl) ⟨.inl rfl, hbw⟩
            ·
              obtain rfl : i = sides.length := by omega
              refine EC.seq ?_
              refine EC.seq ?_
              refine EC.region ?_
              refine EL.val (x_move rfl) rfl ?_
              refine EL.val (fa_54_1 rfl) rfl ?_
              refine EL.val (ld_52 rfl (q1.at (j := 2) rfl)) rfl ?_
              refine EL.val (ln_52 rfl) rfl ?_
              refine EL.val (x_lss rfl rfl (by first | assumption | exact decide_eq_false (by omega))) rfl ?_
              refine EL.nil ?_
              refine EX.seq ?_
              refine EC.no rfl ?_
              refine EC.exit ?_
              refine EX.seq_exit ?_
              refine EX.seq_exit ?_
              refine EX.blk_here ?_
              refine EX.seq ?_
              refine EC.seq ?_
              refine EC.region ?_
              refine EL.val (fa_54_1 rfl) rfl ?_
              refine EL.val (ld_52 rfl (q1.at (j := 2) rfl)) rfl ?_
              refine EL.val (ix_52 (k := 0) rfl rfl (by omega)) rfl ?_
              refine EL.val (ld_28 rfl (below_load hbw c0)) rfl ?_
              refine EL.val (ln_28 rfl) rfl ?_
              by_cases h14_5 : (sides.getD 0 []).length ≤ 400
              ·
                refine EL.val (x_leq rfl rfl (by first | assumption | exact decide_eq_true (by omega))) rfl ?_
                refine EL.val (x_assign rfl) rfl ?_
                refine EL.nil ?_
                refine EX.seq ?_
                refine EC.ret ?_
                exact EX.done (res1 rfl rfl) ⟨.inr ⟨rfl, hfine, start0 hok (by omega) (fun j hj => (hI j hj).1) (by omega) (fun j hj => (hI j hj).2)⟩, hbw⟩
              ·
                refine EL.val (x_leq rfl rfl (by first | assumption | exact decide_eq_false (by omega))) rfl ?_
                refine EL.val (x_assign rfl) rfl ?_
                refine EL.nil ?_
                refine EX.seq ?_
                refine EC.ret ?_
                exact EX.done (res1 rfl rfl) ⟨.inl rfl, hbw⟩
          ·
            have hd : errB (riverB rv) = 2 := by rw [hok]; rfl
            refine EL.valg rfl rfl (x_neq rfl rfl (by first | assumption | exact decide_eq_true (by omega))) rfl ?_
            refine EL.val (x_pick_f rfl rfl) rfl ?_
            refine EL.nil ?_
            refine EX.seq ?_
            refine EC.yes rfl ?_
            refine EC.seq ?_
            refine EC.region ?_
            refine EL.val (x_assign rfl) rfl ?_
            refine EL.nil ?_
            refine EX.seq ?_
            refine EC.ret ?_
            refine EX.seq_ret ?_
            exact EX.done (res1 rfl rfl) ⟨.inl rfl, hbw⟩
end Go.Proofs.Ytncnlhkmdljgpaa
set_option linter.unusedVariables false
set_option linter.unusedSimpArgs false
namespace Go.Proofs.Ytncnlhkmdljgpaa
open Go Go.RowKit
def u8s (l : List Int) : List Value := l.map fun x => .int .u8 x
theorem pick_any (b : Bd) (y : Int) (w : World) (h0 : -1000000000000 ≤ b.lo) (h1 : b.lo ≤ b.hi) (h2 : b.hi ≤ 1000000000000) (hy : 0 ≤ y ∧ y ≤ 255) :
    Calls Try.prog 21 #[.agg #[.int .i64 b.lo, .int .i64 b.hi], .int .u8 y] w fun e w' => e = .returned (.int .i64 (pickI b y)) ∧ Below w.heap.size w w' := by
  have hbw := Below.refl w.heap.size w
  have m1 : 0 ≤ (b.hi - b.lo) * y := Int.mul_nonneg (by omega) hy.1
  have m2 : (b.hi - b.lo) * y ≤ (b.hi - b.lo) * 255 := Int.mul_le_mul_of_nonneg_left hy.2 (by omega)
  have hp := pick_bd h1 hy.1 hy.2
  unfold pickI at hp ⊢
  refine EC.enter 17 Try.func21 rfl rfl rfl ?_
  refine EC.seq ?_
  refine EC.region ?_
  refine EL.newP (bx_23 rfl) rfl ?_
  intro g1 w1 q1 hb1 hg1 hl1
  have bhbw_1 := Nat.le_trans hbw.size hg1
  replace hbw := Below.on hbw hb1 hbw.size
  clear hb1 hg1 hl1
  refine EL.val (x_assign rfl) rfl ?_
  refine EL.nil ?_
  refine EX.seq ?_
  refine EC.seq ?_
  refine EC.region ?_
  refine EL.val (fa_23_0 rfl) rfl ?_
  refine EL.val (ld_3 rfl (q1.at (j := 0) rfl)) rfl ?_
  refine EL.val (fa_23_1 rfl) rfl ?_
  refine EL.val (ld_3 rfl (q1.at (j := 1) rfl)) rfl ?_
  refine EL.val (fa_23_0 rfl) rfl ?_
  refine EL.val (ld_3 rfl (q1.at (j := 0) rfl)) rfl ?_
  refine EL.val (x_sub rfl rfl (by first | assumption | exact IntWalk.i64_in _ ⟨by omega, by omega⟩)) rfl ?_
  refine EL.val (x_move rfl) rfl ?_
  refine EL.val (cv_5_3 rfl (IntWalk.i64_in _ ⟨by omega, by omega⟩)) rfl ?_
  refine EL.val (x_mul rfl rfl (IntWalk.i64_in _ ⟨by omega, by omega⟩)) rfl ?_
  refine EL.val (x_quo rfl rfl (by decide) (IntWalk.i64_in _ ⟨by omega, by omega⟩)) rfl ?_
  refine EL.val (x_add rfl rfl (IntWalk.i64_in _ ⟨by omega, by omega⟩)) rfl ?_
  refine EL.val (x_assign rfl) rfl ?_
  refine EL.nil ?_
  refine EX.seq ?_
  refine EC.ret ?_
  exact EX.done (res1 rfl rfl) ⟨rfl, hbw⟩
theorem part_any (l : List Int) (v : Value) (i : Nat) (w : World) (B : Nat) (hr : Rd w B 1 v l.length (u8s l)) (hn : l.length ≤ 9223372036854775807) :
    Calls Try.prog 22 #[v, .int .i64 (i : Nat)] w fun e w' => e = .returned (.int .u8 (partI l i)) ∧ Below w.heap.size w w' := by
  obtain ⟨A, c, rfl, _⟩ := hr.shape
  have hbw := Below.refl w.heap.size w
  refine EC.enter 15 Try.func22 rfl rfl rfl ?_
  refine EC.seq ?_
  refine EC.region ?_
  refine EL.val (x_assign rfl) rfl ?_
  refine EL.nil ?_
  refine EX.seq ?_
  refine EC.seq ?_
  refine EC.seq ?_
  refine EC.region ?_
  refine EL.val (x_move rfl) rfl ?_
  refine EL.val (ln_38 rfl) rfl ?_
  by_cases h0 : l.length = 0
  ·
    have hp : partI l i = 0 := by rw [partI, if_pos h0]
    refine EL.val (x_eql rfl rfl (by first | assumption | exact decide_eq_true (by omega))) rfl ?_
    refine EL.nil ?_
    refine EX.seq ?_
    refine EC.yes rfl ?_
    refine EC.seq ?_
    refine EC.region ?_
    refine EL.val (x_assign rfl) rfl ?_
    refine EL.nil ?_
    refine EX.seq ?_
    refine EC.ret ?_
    refine EX.seq_ret ?_
    exact EX.done (res1 rfl rfl) ⟨by rw [hp], hbw⟩
  ·
    have hk : i % l.length < l.length := Nat.mod_lt _ (by omega)
    have hp : partI l i = l.getD (i % l.length) 0 := by rw [partI, if_neg h0]
    obtain ⟨b, o, rfl, _, hc⟩ := hr.at_ (by omega)
    have c0 := hc (i % l.length) (.int .u8 (partI l i)) (by rw [hp]; simp [u8s, hk])
    have t1 : ((i : Nat) : Int).tmod ((l.length : Nat) : Int) = ((i % l.length : Nat) : Int) := by rw [Int.ofNat_tmod]
    refine EL.val (x_eql rfl rfl (by first | assumption | exact decide_eq_false (by omega))) rfl ?_
    refine EL.nil ?_
    refine EX.seq ?_
    refine EC.no rfl ?_
    refine EC.skip ?_
    refine EX.seq ?_
    refine EC.seq ?_
    refine EC.region ?_
    refine EL.val (x_move rfl) rfl ?_
    refine EL.val (x_move rfl) rfl ?_
    refine EL.val (x_move rfl) rfl ?_
    refine EL.val (ln_38 rfl) rfl ?_
    refine EL.val (x_rem rfl rfl (by omega) t1) rfl ?_
    refine EL.val (ix_38 rfl rfl hk) rfl ?_
    refine EL.val (ld_5 rfl c0) rfl ?_
    refine EL.val (x_assign rfl) rfl ?_
    refine EL.nil ?_
    refine EX.seq ?_
    refine EC.ret ?_
    exact EX.done (res1 rfl rfl) ⟨rfl, hbw⟩
end Go.Proofs.Ytncnlhkmdljgpaa
set_option linter.unusedVariables false
namespace Go.Proofs.Ytncnlhkmdljgpaa
open Go Go.ChangeShapes Go.WideShapes Go.Deep Go.RowKit Go.Joins
section
variable {H : Type} {enc : TypeId × Value → H} {w : World} {base : Nat} {spare : Nat → Bool} {held : Bool}
theorem co_5 : Try.prog.cellsOf 5 = 1 := by kernel_rfl
theorem co_38 : Try.prog.cellsOf 38 = 1 := by kernel_rfl
theorem co_40 : Try.prog.cellsOf 40 = 5 := by kernel_rfl
theorem flat_u8s : ∀ l : List Int, l.flatMap (fun x => [Value.int .u8 x]) = u8s l
  | [] => rfl
  | x :: l => by
    have := flat_u8s l
    simp only [u8s, List.flatMap_cons, List.map_cons, List.singleton_append] at this ⊢
    rw [this]
theorem rd_u8s {fuel : Nat} {v : Value} {x : DataW H × List MemPlace} (h : DataW.trod enc Try.prog w base spare held fuel 38 [v] = some x) : ∃ l : List Int, Rd w w.heap.size 1 v l.length (u8s l) ∧ (∀ y ∈ l, 0 ≤ y ∧ y ≤ 255) ∧ l.length ≤ maxLen := by
  obtain ⟨l, h1, h3, h2⟩ := rd_list (α := Int) (s := 1) (f := fun x => [Value.int .u8 x]) (Good := fun x => 0 ≤ x ∧ x ≤ 255) (fun _ => rfl) (by omega) Try.underlying38 co_5 (fun _ cs _ hl ht => by
    match cs, hl with
    | [u], _ =>
      obtain ⟨z, hz, _, wf⟩ := DataW.trod_int Try.underlying5 ht
      injection hz with hz
      subst hz
      exact ⟨z, rfl, wf_u8 wf⟩) h
  rw [flat_u8s] at h1
  exact ⟨l, h1, h3, h2⟩
set_option maxRecDepth 100000 in
theorem truth_of {v : Value} {d : DataW H} {p : List MemPlace} (h : DataW.Trod enc Try.prog w base spare held 40 v d p) : ∃ (b s e g : List Int) (vb vs ve vg : Value) (x : Int), v = .agg #[vb, vs, ve, vg, .int .u8 x] ∧ Rd w w.heap.size 1 vb b.length (u8s b) ∧ Rd w w.heap.size 1 vs s.length (u8s s) ∧ Rd w w.heap.size 1 ve e.length (u8s e) ∧ Rd w w.heap.size 1 vg g.length (u8s g) ∧ ((∀ y ∈ b, 0 ≤ y ∧ y ≤ 255) ∧ (∀ y ∈ s, 0 ≤ y ∧ y ≤ 255) ∧ (∀ y ∈ e, 0 ≤ y ∧ y ≤ 255) ∧ ∀ y ∈ g, 0 ≤ y ∧ y ≤ 255) ∧ (0 ≤ x ∧ x ≤ 255) ∧ b.length ≤ maxLen ∧ s.length ≤ maxLen ∧ e.length ≤ maxLen ∧ g.length ≤ maxLen := by
  obtain ⟨fuel, hf0⟩ := h
  obtain ⟨ys, n, _, _, hlen, hyl, hf⟩ := DataW.trod_struct Try.underlying40 hf0
  rw [show Try.prog.cellsOf 40 = 5 from co_40] at hlen
  have hv : ∃ c0 c1 c2 c3 c4, v = .agg #[c0, c1, c2, c3, c4] := by
    cases v <;> simp [Value.cells] at hlen
    rename_i cs
    obtain ⟨l⟩ := cs
    match l, hlen with
    | [c0, c1, c2, c3, c4], _ => exact ⟨c0, c1, c2, c3, c4, rfl⟩
  obtain ⟨u0, u1, u2, u3, u4, rfl⟩ := hv
  match ys, hyl with
  | [y0, y1, y2, y3, y4], _ =>
    have q0 : DataW.trod enc Try.prog w base spare held n 38 [u0] = some y0 := fld_of hf (j := 0) rfl rfl rfl co_38
    have q1 : DataW.trod enc Try.prog w base spare held n 38 [u1] = some y1 := fld_of hf (j := 1) rfl rfl rfl co_38
    have q2 : DataW.trod enc Try.prog w base spare held n 38 [u2] = some y2 := fld_of hf (j := 2) rfl rfl rfl co_38
    have q3 : DataW.trod enc Try.prog w base spare held n 38 [u3] = some y3 := fld_of hf (j := 3) rfl rfl rfl co_38
    have q4 : DataW.trod enc Try.prog w base spare held n 5 [u4] = some y4 := fld_of hf (j := 4) rfl rfl rfl co_5
    obtain ⟨b, h1, h2, h3⟩ := rd_u8s q0
    obtain ⟨s, i1, i2, i3⟩ := rd_u8s q1
    obtain ⟨e, j1, j2, j3⟩ := rd_u8s q2
    obtain ⟨g, k1, k2, k3⟩ := rd_u8s q3
    obtain ⟨x, hx, _, wf⟩ := DataW.trod_int Try.underlying5 q4
    injection hx with hx
    subst hx
    exact ⟨b, s, e, g, u0, u1, u2, u3, x, rfl, h1, i1, j1, k1, ⟨h2, i2, j2, k2⟩, wf_u8 wf, h3, i3, j3, k3⟩
end
end Go.Proofs.Ytncnlhkmdljgpaa
set_option linter.unusedVariables false
set_option linter.unusedSimpArgs false
namespace Go.Proofs.Ytncnlhkmdljgpaa
open Go Go.RowKit
/-- rows that are apart from each other -/
def PW (fs : List Value) : Prop := ∀ i j, i < j → j < fs.length → Apart (fs.getD i undef) (fs.getD j undef)
theorem PW.nil : PW [] := fun i j _ h => absurd h (by simp)
theorem PW.ne {fs : List Value} (h : PW fs) {i j : Nat} (hi : i < fs.length) (hj : j < fs.length) (hij : i ≠ j) : Apart (fs.getD i undef) (fs.getD j undef) := by
  rcases Nat.lt_or_ge i j with h1 | h1
  · exact h i j h1 hj
  · exact (h j i (by omega) hi).symm
theorem getD_setR {α : Type} {l : List α} {i j : Nat} {x d : α} (hi : i < l.length) : (l.set i x).getD j d = if i = j then x else l.getD j d := by
  simp only [List.getD_eq_getElem?_getD, List.getElem?_set]
  by_cases h : i = j
  · subst h; simp [hi]
  · simp [h]
/-- one end of bounds -/
def pB (hi : Bool) (b : Bd) : Int := if hi then b.hi else b.lo
def bdP (hi : Bool) (b : Bd) : Bd := ⟨pB hi b, pB hi b⟩
def withB (hi : Bool) (x : Reach) : Reach := { x with base := bdP hi x.base }
def mkR (hi : Bool) (l : List Reach) : Nat → List Reach
  | 0 => l
  | i + 1 => (mkR hi l i).set i (withB hi (l.getD i reach0))
def mkB (hi : Bool) (l : List Bd) : Nat → List Bd
  | 0 => l
  | i + 1 => (mkB hi l i).set i (bdP hi (l.getD i bd0))
def mkS (hi : Bool) (l : List (List Bd)) : Nat → List (List Bd)
  | 0 => l
  | i + 1 => (mkS hi l i).set i (mkB hi (l.getD i []) (l.getD i []).length)
section
variable {hi : Bool}
theorem mkR_len (l : List Reach) : ∀ i, (mkR hi l i).length = l.length
  | 0 => rfl
  | i + 1 => by rw [mkR, List.length_set, mkR_len l i]
theorem mkB_len (l : List Bd) : ∀ i, (mkB hi l i).length = l.length
  | 0 => rfl
  | i + 1 => by rw [mkB, List.length_set, mkB_len l i]
theorem mkS_len (l : List (List Bd)) : ∀ i, (mkS hi l i).length = l.length
  | 0 => rfl
  | i + 1 => by rw [mkS, List.length_set, mkS_len l i]
theorem mkR_at (l : List Reach) : ∀ {i j : Nat}, i ≤ l.length → (mkR hi l i).getD j reach0 = if j < i then withB hi (l.getD j reach0) else l.getD j reach0
  | 0, j, _ => by simp [mkR]
  | i + 1, j, hi_ => by
    rw [mkR, getD_setR (by rw [mkR_len]; omega), mkR_at l (i := i) (by omega)]
    by_cases h : i = j
    · subst h; simp
    · by_cases h2 : j < i
      · rw [if_neg h, if_pos h2, if_pos (by omega)]
      · rw [if_neg h, if_neg h2, if_neg (by omega)]
theorem mkB_at (l : List Bd) : ∀ {i j : Nat}, i ≤ l.length → (mkB hi l i).getD j bd0 = if j < i then bdP hi (l.getD j bd0) else l.getD j bd0
  | 0, j, _ => by simp [mkB]
  | i + 1, j, hi_ => by
    rw [mkB, getD_setR (by rw [mkB_len]; omega), mkB_at l (i := i) (by omega)]
    by_cases h : i = j
    · subst h; simp
    · by_cases h2 : j < i
      · rw [if_neg h, if_pos h2, if_pos (by omega)]
      · rw [if_neg h, if_neg h2, if_neg (by omega)]
theorem mkS_at (l : List (List Bd)) : ∀ {i j : Nat}, i ≤ l.length → (mkS hi l i).getD j [] = if j < i then mkB hi (l.getD j []) (l.getD j []).length else l.getD j []
  | 0, j, _ => by simp [mkS]
  | i + 1, j, hi_ => by
    rw [mkS, getD_setR (by rw [mkS_len]; omega), mkS_at l (i := i) (by omega)]
    by_cases h : i = j
    · subst h; simp
    · by_cases h2 : j < i
      · rw [if_neg h, if_pos h2, if_pos (by omega)]
      · rw [if_neg h, if_neg h2, if_neg (by omega)]
end
theorem own_blk {w : World} {base e size n m c g : Nat} {xs : List Value} (h : w.ownsRow base e size (.slice (some ⟨g, 0, none⟩) n c) m xs) : ∃ cs, Blk w g e cs := by
  obtain ⟨_, ⟨h0, _⟩ | ⟨g', cap, cur, h1, _, hg, _⟩⟩ := h
  · cases h0
  · injection h1 with h1
    injection h1 with h1
    injection h1 with h1 _
    subst h1
    exact ⟨cur, hg⟩
theorem OwnRiver.set {w w' : World} {base g n c i : Nat} {u : Value} {r : River} {vs : List Value} {x' : Reach} (h : OwnRiver w base (.slice (some ⟨g, 0, none⟩) n c) u r vs) (hi : i < r.reaches.length) (hc : x'.curve = (r.reaches.getD i reach0).curve) (hown : w'.ownsRow base 50 9 (.slice (some ⟨g, 0, none⟩) n c) n (((r.reaches.set i x').zip vs).flatMap reachC)) (hn : n = r.reaches.length) (hg : w.grownBy w' (some g)) : OwnRiver w' base (.slice (some ⟨g, 0, none⟩) n c) u ⟨r.reaches.set i x', r.shoals⟩ vs := by
  subst hn
  obtain ⟨cs, hq⟩ := own_blk h.rows.own
  have hrw : rowsR (r.reaches.set i x') = rowsR r.reaches := by
    unfold rowsR
    apply List.ext_getElem?
    intro j
    simp only [List.getElem?_map, List.getElem?_set]
    by_cases e : i = j
    · subst e
      have h2 : r.reaches.getD i reach0 = r.reaches[i] := by simp [hi]
      rw [h2] at hc
      simp [hi, hc]
    · simp [e]
  refine ⟨⟨by simpa using hown, by rw [hrw]; exact h.rows.len, fun j hj => ?_, fun j hj => ?_⟩, own_type h.sh hq rfl hg⟩
  · rw [hrw] at hj ⊢
    exact own_type (h.rows.each j hj) hq rfl hg
  · rw [hrw] at hj
    exact h.rows.apart j hj
theorem OwnSides.set {w w' : World} {base g i c : Nat} {s : Value} {l : List (List Bd)} {fs : List Value} {row : List Bd} (h : OwnSides w base s l fs) (hpw : PW fs) (hi : i < l.length) (hv : fs.getD i undef = .slice (some ⟨g, 0, none⟩) row.length c) (hrow : row.length = (l.getD i []).length) (hown : w'.ownsRow base 23 2 (.slice (some ⟨g, 0, none⟩) row.length c) row.length (bdsC row)) (hg : w.grownBy w' (some g)) : OwnSides w' base s (l.set i row) fs := by
  have hlen : fs.length = l.length := by have := h.len; rwa [rowsB_len] at this
  have hgv : w.grownBy w' (fs.getD i undef).ownBlock := by rw [hv]; exact hg
  refine ⟨?_, by rw [h.len, rowsB_len, rowsB_len, List.length_set], fun j hj => ?_, fun j hj => ?_⟩
  · have := own_apart h.own hgv (h.apart i (by rw [rowsB_len]; exact hi)).symm
    simpa using this
  · rw [rowsB_len, List.length_set] at hj
    have e1 : (rowsB (l.set i row)).getD j (0, []) = (((l.set i row).getD j []).length, bdsC ((l.set i row).getD j [])) := rowsB_at _ j (by rw [List.length_set]; exact hj)
    rw [e1, getD_setR hi]
    by_cases e : i = j
    · subst e
      rw [if_pos rfl, hv]
      exact hown
    · rw [if_neg e]
      have h2 := h.each j (by rw [rowsB_len]; exact hj)
      have e2 : (rowsB l).getD j (0, []) = ((l.getD j []).length, bdsC (l.getD j [])) := by simp [rowsB, hj]
      rw [e2] at h2
      exact own_apart h2 hgv (hpw.ne (by omega) (by omega) e)
  · rw [rowsB_len, List.length_set] at hj
    exact h.apart j (by rw [rowsB_len]; exact hj)
end Go.Proofs.Ytncnlhkmdljgpaa
set_option linter.unusedVariables false
set_option linter.unusedSimpArgs false
namespace Go.Proofs.Ytncnlhkmdljgpaa
open Go Go.RowKit
/-- the levels of a reach, of all reaches -/
def lvIn (rv : River) (sides : List (List Bd)) (i : Nat) (t : Int) : Bd := levelAt (rv.reaches.getD i reach0) (flowIn rv.reaches sides i t)
def lvOf (rv : River) (sides : List (List Bd)) (i : Nat) : List Bd := (List.range (sides.getD 0 []).length).map fun h : Nat => lvIn rv sides i h
def lvUp (rv : River) (sides : List (List Bd)) : List (List Bd) := (List.range rv.reaches.length).map (lvOf rv sides)
theorem lvUp_len (rv : River) (sides : List (List Bd)) : (lvUp rv sides).length = rv.reaches.length := by simp [lvUp]
theorem lvUp_at (rv : River) (sides : List (List Bd)) {i : Nat} (hi : i < rv.reaches.length) : (lvUp rv sides).getD i [] = lvOf rv sides i := by simp [lvUp, hi]
theorem lvOf_len (rv : River) (sides : List (List Bd)) (i : Nat) : (lvOf rv sides i).length = (sides.getD 0 []).length := by simp [lvOf]
theorem lvOf_at (rv : River) (sides : List (List Bd)) {i t : Nat} (ht : t < (sides.getD 0 []).length) : (lvOf rv sides i).getD t bd0 = lvIn rv sides i (t : Int) := by
  unfold lvOf
  rw [List.getD_eq_getElem?_getD, List.getElem?_map, List.getElem?_range ht]
  rfl
theorem lvOf_take (rv : River) (sides : List (List Bd)) {i j : Nat} (hj : j < (sides.getD 0 []).length) : (lvOf rv sides i).take (j + 1) = (lvOf rv sides i).take j ++ [lvIn rv sides i (j : Int)] := by
  rw [List.take_succ_eq_append_getElem (by rw [lvOf_len]; exact hj)]
  simp [lvOf]
/-- what Levels returns -/
def LevelsPost (w : World) (rv : River) (sides : List (List Bd)) (e : Ending) (w' : World) : Prop :=
  (∃ v fs, e = .returned (.tuple #[v, .int .i64 (startErr rv sides)]) ∧ (startErr rv sides ≠ 0 → v = .slice none 0 0) ∧ (startErr rv sides = 0 → RdSides w' w'.heap.size v (lvUp rv sides) fs)) ∧ Below w.heap.size w w'
set_option maxHeartbeats 4000000 in
set_option maxRecDepth 100000 in
theorem levels_any (rv : River) (sides : List (List Bd)) (v u s : Value) (vs ss : List Value) (w : World) (B : Nat) (hr : RdRiver w B v u rv vs) (hs : RdSides w B s sides ss) (hB : B ≤ w.heap.size) (hl : rv.reaches.length ≤ 1048576) (hl2 : rv.shoals.length ≤ 1048576) (hcv : CurvesB rv.reaches) (hl3 : sides.length ≤ 1048576) (hsb : SidesB sides) :
    Calls Try.prog 41 #[.agg #[v, u], s] w (LevelsPost w rv sides) := by
  obtain ⟨A, c, rfl, _⟩ := hr.reaches.shape
  obtain ⟨A', c', rfl, _⟩ := hr.shoals.shape
  obtain ⟨D, d, rfl, _⟩ := hs.rd.shape
  have hbw := Below.refl w.heap.size w
  refine EC.enter 47 Try.func41 rfl rfl rfl ?_
  refine EC.seq ?_
  refine EC.region ?_
  refine EL.newP (bx_47 rfl) rfl ?_
  intro g1 w1 q1 hb1 hg1 hl1
  have bhbw_1 := Nat.le_trans hbw.size hg1
  replace hbw := Below.on hbw hb1 hbw.size
  clear hb1 hg1 hl1
  refine EL.val (x_assign rfl) rfl ?_
  refine EL.val (x_assign rfl) rfl ?_
  refine EL.nil ?_
  refine EX.seq ?_
  refine EC.seq ?_
  refine EC.region ?_
  refine EL.val (ld_47 rfl (q1.at (j := 0) rfl) (q1.at (j := 1) rfl)) rfl ?_
  refine EL.val (x_move rfl) rfl ?_
  by_cases hst : startErr rv sides = 0
  ·
    obtain ⟨hok, hO⟩ := startErr_ok hst
    have hhr := hO.hours
    have hsm := hO.river.some
    refine EL.call (cl_73 rfl rfl) rfl (open_ok rv sides _ _ _ vs ss _ B (hr.below (hbw.mono hB)) (hs.below (hbw.mono hB)) (Nat.le_trans hB hbw.size) hl hl2 hcv hl3 hsb hst) ?_
    rintro e w2 ⟨⟨g, vf, fs_, rfl, hge_, hS, _⟩, hc2⟩
    refine ⟨_, rfl, ?_⟩
    replace q1 := q1.below hc2 q1.lt
    replace hbw := Below.on hbw hc2 hbw.size
    clear hc2 hge_
    have hin := Below.refl w2.heap.size w2
    have hwS := hbw.size
    refine EL.val (x_move rfl) rfl ?_
    refine EL.val (x_extract rfl rfl) rfl ?_
    refine EL.val (x_extract rfl rfl) rfl ?_
    refine EL.val (x_assign rfl) rfl ?_
    refine EL.val (x_assign rfl) rfl ?_
    refine EL.nil ?_
    refine EX.seq ?_
    refine EC.seq ?_
    refine EC.seq ?_
    refine EC.region ?_
    refine EL.val (x_move rfl) rfl ?_
    refine EL.val (x_neq rfl rfl (by first | assumption | exact decide_eq_false (by omega))) rfl ?_
    refine EL.nil ?_
    refine EX.seq ?_
    refine EC.no rfl ?_
    refine EC.skip ?_
    refine EX.seq ?_
    refine EC.seq ?_
    refine EC.seq ?_
    refine EC.region ?_
    refine EL.val (x_move rfl) rfl ?_
    refine EL.val (x_nilCheck rfl) rfl ?_
    refine EL.val (fa_141_0 rfl) rfl ?_
    refine EL.val (fa_47_0 rfl) rfl ?_
    refine EL.val (ld_44 rfl ((hS.below hin).blk.at (j := 0) rfl)) rfl ?_
    refine EL.val (ln_44 rfl) rfl ?_
    refine EL.val (x_move rfl) rfl ?_
    refine EL.nil ?_
    refine EX.seq ?_
    refine EC.block ?_
    refine EC.loopD [4, 7, 8, 9, 25, 26, 27, 28, 29, 30, 31, 32, 33, 34, 35, 36, 37, 38, 39, 40, 41, 42, 43, 44, 45] (fun x : Nat × Value × List Value => [(25, .int .i64 (x.1 : Nat)), (4, x.2.1)]) (fun x W => x.1 ≤ rv.reaches.length ∧ Rows W w2.heap.size 28 1 x.2.1 x.1 x.2.2 23 2 x.2.2 (rowsB ((lvUp rv sides).take x.1)) ∧ w2.heap.size ≤ W.heap.size ∧ Below w2.heap.size w2 W ∧ Below w.heap.size w W) (fun x => rv.reaches.length - x.1) (0, _, []) ⟨Nat.zero_le _, Rows.start (own_nil _ _ _ _), hin.size, hin, hbw⟩ ⟨rfl, rfl, trivial⟩ ?_
    clear hin hbw
    rintro ⟨i, vo, fs⟩ wr ⟨hi, hR, hbo, hin, hbw⟩
    simp only at hi hR
    by_cases hlt : i < rv.reaches.length
    ·
      have hbr := Below.refl wr.heap.size wr
      refine EC.seq ?_
      refine EC.region ?_
      refine EL.val (x_lss rfl rfl (by first | assumption | exact decide_eq_true (by omega))) rfl ?_
      refine EL.nil ?_
      refine EX.seq ?_
      refine EC.seq ?_
      refine EC.yes rfl ?_
      refine EC.skip ?_
      refine EX.seq ?_
      refine EC.seq ?_
      refine EC.block ?_
      refine EC.seq ?_
      refine EC.region ?_
      refine EL.val (x_move rfl) rfl ?_
      refine EL.val (x_assign rfl) rfl ?_
      refine EL.nil ?_
      refine EX.seq ?_
      refine EC.seq ?_
      refine EC.region ?_
      refine EL.val (x_assign rfl) rfl ?_
      refine EL.nil ?_
      refine EX.seq ?_
      refine EC.seq ?_
      refine EC.seq ?_
      refine EC.region ?_
      refine EL.val (x_move rfl) rfl ?_
      refine EL.call (cl_77 rfl) rfl (hours_any (hS.below hin)) ?_
      rintro e _ ⟨rfl, rfl⟩
      refine ⟨_, rfl, ?_⟩
      refine EL.val (x_move rfl) rfl ?_
      refine EL.nil ?_
      refine EX.seq ?_
      refine EC.block ?_
      refine EC.loopD [8, 9, 30, 31, 32, 33, 34, 35, 36, 37, 38, 39, 40] (fun x : Nat × Value => [(30, .int .i64 (x.1 : Nat)), (8, x.2)]) (fun x W => x.1 ≤ (sides.getD 0 []).length ∧ W.ownsRow wr.heap.size 23 2 x.2 x.1 (bdsC ((lvOf rv sides i).take x.1)) ∧ Below w2.heap.size w2 W ∧ Below w.heap.size w W ∧ Below wr.heap.size wr W) (fun x => (sides.getD 0 []).length - x.1) (0, _) ⟨Nat.zero_le _, own_nil _ _ _ _, hin, hbw, hbr⟩ ⟨rfl, rfl, trivial⟩ ?_
      clear hin hbw hbr
      rintro ⟨k, vi⟩ wk ⟨hk, ho, hin, hbw, hbr⟩
      simp only at hk ho
      by_cases hkl : k < (sides.getD 0 []).length
      ·
        refine EC.seq ?_
        refine EC.region ?_
        refine EL.val (x_lss rfl rfl (by first | assumption | exact decide_eq_true (by omega))) rfl ?_
        refine EL.nil ?_
        refine EX.seq ?_
        refine EC.seq ?_
        refine EC.yes rfl ?_
        refine EC.skip ?_
        refine EX.seq ?_
        refine EC.seq ?_
        refine EC.block ?_
        refine EC.seq ?_
        refine EC.region ?_
        refine EL.val (x_move rfl) rfl ?_
        refine EL.val (x_assign rfl) rfl ?_
        refine EL.nil ?_
        refine EX.seq ?_
        refine EC.region ?_
        refine EL.val (x_move rfl) rfl ?_
        refine EL.val (x_move rfl) rfl ?_
        refine EL.val (x_move rfl) rfl ?_
        refine EL.val (x_move rfl) rfl ?_
        refine EL.call (cl_78 rfl rfl rfl) rfl (slevel_any (hS.below hin) hin.size i (k : Int) hlt (by omega)) ?_
        rintro e w3 ⟨rfl, hc3⟩
        refine ⟨_, rfl, ?_⟩
        replace ho := own_below ho hc3 (Nat.le_refl _)
        replace hin := Below.on hin hc3 hin.size
        replace hbw := Below.on hbw hc3 hbw.size
        replace hbr := Below.on hbr hc3 hbr.size
        clear hc3
        refine EL.newS (bs_28_1 rfl) rfl ?_
        intro g4 w4 q4 hb4 hg4 hl4
        have bhin_4 := Nat.le_trans hin.size hg4
        have bhbw_4 := Nat.le_trans hbw.size hg4
        have bhbr_4 := Nat.le_trans hbr.size hg4
        replace ho := own_below ho hb4 (Nat.le_refl _)
        replace hin := Below.on hin hb4 hin.size
        replace hbw := Below.on hbw hb4 hbw.size
        replace hbr := Below.on hbr hb4 hbr.size
        clear hb4 hg4 hl4
        refine EL.push bds_elem rfl rfl ho (rd_one (l := bdC (lvIn rv sides i (k : Int))) q4 rfl) (by simp [bdC, Value.oneCell']) (by omega) rfl hbr.size rfl ?_
        intro v2 w5 ho2 hgr5 hb5 _
        have hsz_ := hbr.size
        replace hin := hin.trans (hb5.mono (by omega))
        replace hbw := hbw.trans (hb5.mono (by omega))
        replace hbr := hbr.trans hb5
        refine EL.val (x_assign rfl) rfl ?_
        refine EL.nil ?_
        refine EX.blk ?_
        refine EX.seq ?_
        refine EC.region ?_
        refine EL.val (x_add rfl rfl (by first | assumption | exact IntWalk.i64_in _ ⟨by omega, by omega⟩)) rfl ?_
        refine EL.val (x_move rfl) rfl ?_
        refine EL.nil ?_
        refine EX.roundD (k + 1, v2) ⟨rfl, rfl, trivial⟩ (by repeat first | exact Sub.refl _ | refine sub_past rfl ?_ | refine sub_del rfl ?_ | refine sub_insL_nil ?_) ⟨hkl, by rw [lvOf_take rv sides hkl, bdsC_snoc]; exact ho2, hin, hbw, hbr⟩ (by simp only; omega)
      ·
        obtain rfl : k = (sides.getD 0 []).length := by omega
        rw [List.take_of_length_le (by rw [lvOf_len]; exact Nat.le_refl _)] at ho
        obtain ⟨Al, cl, rfl, _⟩ := (Rd.of_own ho).shape
        refine EC.seq ?_
        refine EC.region ?_
        refine EL.val (x_lss rfl rfl (by first | assumption | exact decide_eq_false (by omega))) rfl ?_
        refine EL.nil ?_
        refine EX.seq ?_
        refine EC.seq ?_
        refine EC.no rfl ?_
        refine EC.exit ?_
        refine EX.seq_exit ?_
        refine EX.seq_exit ?_
        refine EX.blk_here ?_
        refine EX.seq ?_
        refine EC.region ?_
        refine EL.val (x_move rfl) rfl ?_
        refine EL.val (x_move rfl) rfl ?_
        refine EL.newS (bs_52_1 rfl) rfl ?_
        intro g6 w6 q6 hb6 hg6 hl6
        have bhin_6 := Nat.le_trans hin.size hg6
        have bhbw_6 := Nat.le_trans hbw.size hg6
        have bhbr_6 := Nat.le_trans hbr.size hg6
        replace ho := own_below ho hb6 (Nat.le_refl _)
        replace hin := Below.on hin hb6 hin.size
        replace hbw := Below.on hbw hb6 hbw.size
        replace hbr := Below.on hbr hb6 hbr.size
        clear hb6 hg6 hl6
        have hR2 := hR.below hbr
        have hap := apart_fresh hR.own (fun g h => (ho.lt g h).1)
        have ho3 := own_less ho hbo
        have hsz_ := hbr.size
        refine EL.push lists_elem rfl rfl hR2.own (rd_one (l := [.slice Al (sides.getD 0 []).length cl]) q6 rfl) (by simp [Value.oneCell']) (by omega) rfl (Nat.le_trans hbo hbr.size) rfl ?_
        intro v' w7 ho4 hgr7 hb7 hat7
        have hR3 := hR2.push0 ho3 hap ho4 hgr7 hat7
        have hbo2 := Nat.le_trans (Nat.le_trans hbo hbr.size) hb7.size
        replace hin := hin.trans (hb7.mono (Nat.le_refl _))
        replace hbw := hbw.trans (hb7.mono hwS)
        refine EL.val (x_assign rfl) rfl ?_
        refine EL.nil ?_
        refine EX.blk ?_
        refine EX.seq ?_
        refine EC.region ?_
        refine EL.val (x_add rfl rfl (by first | assumption | exact IntWalk.i64_in _ ⟨by omega, by omega⟩)) rfl ?_
        refine EL.val (x_move rfl) rfl ?_
        refine EL.nil ?_
        refine EX.roundD (i + 1, v', fs ++ [_]) ⟨rfl, rfl, trivial⟩ (by repeat first | exact Sub.refl _ | refine sub_past rfl ?_ | refine sub_del rfl ?_ | refine sub_insL_nil ?_) ⟨hlt, by rw [rowsB_take (by rw [lvUp_len]; exact hlt), lvUp_at rv sides hlt, lvOf_len]; exact hR3, hbo2, hin, hbw⟩ (by simp only; omega)
    ·
      obtain rfl : i = rv.reaches.length := by omega
      rw [List.take_of_length_le (by rw [lvUp_len]; exact Nat.le_refl _)] at hR
      refine EC.seq ?_
      refine EC.region ?_
      refine EL.val (x_lss rfl rfl (by first | assumption | exact decide_eq_false (by omega))) rfl ?_
      refine EL.nil ?_
      refine EX.seq ?_
      refine EC.seq ?_
      refine EC.no rfl ?_
      refine EC.exit ?_
      refine EX.seq_exit ?_
      refine EX.seq_exit ?_
      refine EX.blk_here ?_
      refine EX.seq ?_
      refine EC.seq ?_
      refine EC.region ?_
      refine EL.val (x_move rfl) rfl ?_
      refine EL.val (x_assign rfl) rfl ?_
      refine EL.val (x_assign rfl) rfl ?_
      refine EL.nil ?_
      refine EX.seq ?_
      refine EC.ret ?_
      exact EX.done (res2 rfl rfl rfl) ⟨⟨_, _, by rw [hst], fun h => absurd hst h, fun _ => hR.sides⟩, hbw⟩
  ·
    refine EL.call (cl_73 rfl rfl) rfl (open_bad rv sides _ _ _ vs ss _ B (hr.below (hbw.mono hB)) (hs.below (hbw.mono hB)) (Nat.le_trans hB hbw.size) hl hl2 hcv hl3 hsb hst) ?_
    rintro e w8 ⟨rfl, hc8⟩
    refine ⟨_, rfl, ?_⟩
    replace q1 := q1.below hc8 q1.lt
    replace hbw := Below.on hbw hc8 hbw.size
    clear hc8
    refine EL.val (x_move rfl) rfl ?_
    refine EL.val (x_extract rfl rfl) rfl ?_
    refine EL.val (x_extract rfl rfl) rfl ?_
    refine EL.val (x_assign rfl) rfl ?_
    refine EL.val (x_assign rfl) rfl ?_
    refine EL.nil ?_
    refine EX.seq ?_
    refine EC.seq ?_
    refine EC.seq ?_
    refine EC.region ?_
    refine EL.val (x_move rfl) rfl ?_
    refine EL.val (x_neq rfl rfl (by first | assumption | exact decide_eq_true (by omega))) rfl ?_
    refine EL.nil ?_
    refine EX.seq ?_
    refine EC.yes rfl ?_
    refine EC.seq ?_
    refine EC.region ?_
    refine EL.val (x_move rfl) rfl ?_
    refine EL.val (x_assign rfl) rfl ?_
    refine EL.val (x_assign rfl) rfl ?_
    refine EL.nil ?_
    refine EX.seq ?_
    refine EC.ret ?_
    refine EX.seq_ret ?_
    exact EX.done (res2 rfl rfl rfl) ⟨⟨_, [], rfl, fun _ => rfl, fun h => absurd h hst⟩, hbw⟩
end Go.Proofs.Ytncnlhkmdljgpaa
set_option linter.unusedVariables false
set_option linter.unusedSimpArgs false
namespace Go.Proofs.Ytncnlhkmdljgpaa
open Go Go.RowKit
section
variable {hi : Bool}
theorem ext_getD {α : Type} {l m : List α} (d : α) (h : l.length = m.length) (h2 : ∀ i, i < l.length → l.getD i d = m.getD i d) : l = m := by
  apply List.ext_getElem h
  intro i h3 h4
  have := h2 i h3
  simpa [h3, h4] using this
theorem getD_mapR {α β : Type} {l : List α} {f : α → β} {d : α} {e : β} {i : Nat} (h : i < l.length) : (l.map f).getD i e = f (l.getD i d) := by
  simp [h]
theorem mkR_all (l : List Reach) : mkR hi l l.length = l.map (withB hi) := by
  apply ext_getD reach0 (by rw [mkR_len]; simp)
  intro i h
  rw [mkR_len] at h
  rw [mkR_at l (Nat.le_refl _), if_pos h, getD_mapR (d := reach0) h]
theorem mkB_all (l : List Bd) : mkB hi l l.length = l.map (bdP hi) := by
  apply ext_getD bd0 (by rw [mkB_len]; simp)
  intro i h
  rw [mkB_len] at h
  rw [mkB_at l (Nat.le_refl _), if_pos h, getD_mapR (d := bd0) h]
theorem mkS_all (l : List (List Bd)) : mkS hi l l.length = l.map (List.map (bdP hi)) := by
  apply ext_getD [] (by rw [mkS_len]; simp)
  intro i h
  rw [mkS_len] at h
  rw [mkS_at l (Nat.le_refl _), if_pos h, getD_mapR (d := []) h, mkB_all]
theorem bdOk_P {a b : Int} {x : Bd} (h : bdOk a b x = true) : bdOk a b (bdP hi x) = true := by
  rw [bdOk_iff] at h ⊢
  cases hi <;> simp [bdP, pB] <;> omega
theorem reachB_P {x : Reach} (h : reachB x = true) : reachB (withB hi x) = true := by
  simp only [reachB, Bool.and_eq_true] at h ⊢
  exact ⟨h.1, h.2.1, bdOk_P h.2.2.1, h.2.2.2⟩
theorem getD_map_len (l : List (List Bd)) (i : Nat) (f : Bd → Bd) : ((l.map (List.map f)).getD i []).length = (l.getD i []).length := by
  by_cases h : i < l.length
  · rw [getD_mapR (d := []) h, List.length_map]
  · rw [List.getD_eq_getElem?_getD, List.getD_eq_getElem?_getD, List.getElem?_eq_none (by simpa using h), List.getElem?_eq_none (by omega)]
theorem startErr_P {r : River} {s : List (List Bd)} (h : startErr r s = 0) : startErr ⟨r.reaches.map (withB hi), r.shoals⟩ (s.map (List.map (bdP hi))) = 0 := by
  have h1 := (startErr_ok h).1
  have hS := (startErr_ok h).2
  have e1 : riverB ⟨r.reaches.map (withB hi), r.shoals⟩ = true := by
    simp only [riverB, Bool.and_eq_true] at h1 ⊢
    refine ⟨by simpa using h1.1, h1.2.1, ?_, ?_⟩
    · rw [List.all_map]
      rw [List.all_eq_true] at *
      exact fun x hx => reachB_P (h1.2.2.1 x hx)
    · have e : placesOf (r.reaches.map (withB hi)) = placesOf r.reaches := by
        unfold placesOf; rw [List.map_map]; rfl
      rw [e]; exact h1.2.2.2
  unfold startErr at h ⊢
  rw [if_neg (by rw [e1]; simp), if_neg (by rw [getD_map_len, List.length_map, List.length_map]; have := hS.many; have := hS.hours; omega), if_neg, if_neg (by rw [getD_map_len]; have := hS.hours; omega), if_neg]
  · rw [Bool.not_eq_false, List.all_map, List.all_eq_true]
    intro l hl
    show (l.map (bdP hi)).all _ = true
    rw [List.all_map, List.all_eq_true]
    intro x hx
    apply bdOk_P
    rw [if_neg (by rw [h1]; simp)] at h
    split at h
    · omega
    · split at h
      · omega
      · split at h
        · omega
        · split at h
          · omega
          · rename_i h5
            rw [Bool.not_eq_false, List.all_eq_true] at h5
            exact List.all_eq_true.1 (h5 l hl) x hx
  · rw [Bool.not_eq_false, List.all_map, List.all_eq_true]
    intro l hl
    obtain ⟨i, hi_, rfl⟩ := List.getElem_of_mem hl
    have h3 := hS.same i hi_
    rw [List.getD_eq_getElem?_getD, List.getElem?_eq_getElem hi_] at h3
    show decide ((s[i].map (bdP hi)).length = _) = true
    rw [getD_map_len, List.length_map]
    simpa using h3
theorem flowIn_P {r : River} {s : List (List Bd)} (hS : StartOk r s) : ∀ (i : Nat) (t : Int), i < r.reaches.length → t < (s.getD 0 []).length → flowIn (r.reaches.map (withB hi)) (s.map (List.map (bdP hi))) i t = bdP hi (flowIn r.reaches s i t)
  | 0, t, h, ht => by
    have hm := hS.many
    rw [flowIn, flowIn]
    split
    · rw [getD_mapR (d := reach0) h]; rfl
    · rw [getD_mapR (d := []) (by omega), getD_mapR (d := bd0) (by omega)]
  | i + 1, t, h, ht => by
    have hm := hS.many
    rw [flowIn, flowIn]
    split
    · rw [getD_mapR (d := reach0) h]; rfl
    · have h2 := hS.same (i + 1) (by omega)
      have hd := (hS.river.reach i (by omega)).delay
      have hdl : (withB hi (r.reaches.getD i reach0)).delay = (r.reaches.getD i reach0).delay := rfl
      rw [getD_mapR (d := []) (by omega), getD_mapR (d := bd0) (by omega), getD_mapR (d := reach0) (by omega), hdl, flowIn_P hS i _ (by omega) (by omega)]
      cases hi <;> rfl
/-- the forecast that keeps one end only -/
structure Kept (hi : Bool) (r r' : River) (s s' : List (List Bd)) : Prop where
  err : startErr r' s' = 0
  len : r'.reaches.length = r.reaches.length
  shoals : r'.shoals = r.shoals
  slen : s'.length = s.length
  h0 : (s'.getD 0 []).length = (s.getD 0 []).length
  curves : CurvesB r'.reaches
  sides : SidesB s'
  flow : ∀ i t, i < r.reaches.length → t < (((s.getD 0 []).length : Nat) : Int) → flowIn r'.reaches s' i t = bdP hi (flowIn r.reaches s i t)
  lev : ∀ i f, i < r.reaches.length → levelAt (r'.reaches.getD i reach0) f = levelAt (r.reaches.getD i reach0) f
theorem kept {r : River} {s : List (List Bd)} (h : startErr r s = 0) (f3 : CurvesB r.reaches) (f4 : SidesB s) : Kept hi r ⟨mkR hi r.reaches r.reaches.length, r.shoals⟩ s (mkS hi s s.length) := by
  rw [mkR_all, mkS_all]
  refine ⟨startErr_P h, by simp, rfl, by simp, getD_map_len _ _ _, fun i hi_ => ?_, fun i hi_ => ?_, fun i t hi_ ht => flowIn_P (startErr_ok h).2 i t hi_ ht, fun i f hi_ => ?_⟩
  · rw [List.length_map] at hi_
    rw [getD_mapR (d := reach0) hi_]
    exact f3 i hi_
  · rw [List.length_map] at hi_
    rw [getD_map_len]
    exact f4 i hi_
  · rw [getD_mapR (d := reach0) hi_]; rfl
end
theorem mono_stup {k n : Nat} {l : List (List Bd)} {y : Value} : Mono fun r w => ∃ A c ss, r k = .tuple #[.slice A n c, y] ∧ RdSides w w.heap.size (.slice A n c) l ss := fun _ _ _ hb ⟨A, c, ss, h1, h2⟩ => ⟨A, c, ss, h1, h2.go hb⟩
theorem mono_sslc {k n : Nat} {l : List (List Bd)} : Mono fun r w => ∃ A c ss, r k = .slice A n c ∧ RdSides w w.heap.size (.slice A n c) l ss := fun _ _ _ hb ⟨A, c, ss, h1, h2⟩ => ⟨A, c, ss, h1, h2.go hb⟩
theorem flows_ok (r : River) (sides : List (List Bd)) (v u s : Value) (vs ss : List Value) (w : World) (B : Nat) (hr : RdRiver w B v u r vs) (hs : RdSides w B s sides ss) (hB : B ≤ w.heap.size)
    (hl : r.reaches.length ≤ 1048576) (hl2 : r.shoals.length ≤ 1048576) (hcv : CurvesB r.reaches) (hl3 : sides.length ≤ 1048576) (hsb : SidesB sides) (h0 : startErr r sides = 0) :
    Calls Try.prog 40 #[.agg #[v, u], s] w fun e w' => (∃ A c fs, e = .returned (.tuple #[.slice A sides.length c, .int .i64 0]) ∧ RdSides w' w'.heap.size (.slice A sides.length c) (flowsUp r.reaches sides sides.length) fs) ∧ Below w.heap.size w w' :=
  (flows_any r sides v u s vs ss w B hr hs hB hl hl2 hcv hl3 hsb).mono fun e w' ⟨⟨v', fs, h1, _, h2⟩, h3⟩ => by
    have h4 := h2 h0
    obtain ⟨A, c, h5, _⟩ := h4.rd.shape
    rw [flowsUp_len] at h5
    subst h5
    exact ⟨⟨A, c, fs, by rw [h1, h0], h4⟩, h3⟩
theorem levels_ok (r : River) (sides : List (List Bd)) (v u s : Value) (vs ss : List Value) (w : World) (B : Nat) (hr : RdRiver w B v u r vs) (hs : RdSides w B s sides ss) (hB : B ≤ w.heap.size)
    (hl : r.reaches.length ≤ 1048576) (hl2 : r.shoals.length ≤ 1048576) (hcv : CurvesB r.reaches) (hl3 : sides.length ≤ 1048576) (hsb : SidesB sides) (h0 : startErr r sides = 0) :
    Calls Try.prog 41 #[.agg #[v, u], s] w fun e w' => (∃ A c fs, e = .returned (.tuple #[.slice A sides.length c, .int .i64 0]) ∧ RdSides w' w'.heap.size (.slice A sides.length c) (lvUp r sides) fs) ∧ Below w.heap.size w w' :=
  (levels_any r sides v u s vs ss w B hr hs hB hl hl2 hcv hl3 hsb).mono fun e w' ⟨⟨v', fs, h1, _, h2⟩, h3⟩ => by
    have h4 := h2 h0
    obtain ⟨A, c, h5, _⟩ := h4.rd.shape
    rw [lvUp_len, ← (startErr_ok h0).2.many] at h5
    subst h5
    exact ⟨⟨A, c, fs, by rw [h1, h0], h4⟩, h3⟩
end Go.Proofs.Ytncnlhkmdljgpaa
set_option linter.unusedVariables false
namespace Go.Proofs.Ytncnlhkmdljgpaa
open Go Go.RowKit
/-! ### The curve is monotone -/
theorem floor_le_ceil {a b k : Int} (hk : 0 < k) (h : a ≤ b) : floorD a k ≤ ceilD b k := by
  unfold floorD ceilD
  have h1 := Int.mul_ediv_self_le (x := a) (k := k) (by omega)
  have h2 := Int.mul_ediv_self_le (x := -b) (k := k) (by omega)
  have h3 : k * (a / k + -b / k) ≤ 0 := by rw [Int.mul_add]; omega
  have h4 : ¬ (1 ≤ a / k + -b / k) := fun h5 => by
    have := Int.mul_le_mul_of_nonneg_left h5 (show 0 ≤ k by omega)
    omega
  omega
theorem curve_lo {c : List Row} (h : curveB c = true) (hl : 2 ≤ c.length) {f : Int} {j : Nat} (hj : j < c.length) (hf : nextR c f ≤ j) : curveAt false c f ≤ (c.getD j row0).level := by
  unfold curveAt
  by_cases h0 : nextR c f = 0
  · rw [if_pos h0]; exact (curve_mono h (Nat.zero_le j) hj).2
  · rw [if_neg h0, if_neg (by omega)]
    have hb := between_next h h0 (by omega)
    have := hb.rnd_bd false
    have := (curve_mono h hf hj).2
    omega
theorem curve_hi {c : List Row} (h : curveB c = true) (hl : 2 ≤ c.length) {f : Int} {j : Nat} (hj : j < nextR c f) : (c.getD j row0).level ≤ curveAt true c f := by
  have hle := nextR_le c f
  unfold curveAt
  rw [if_neg (by omega)]
  by_cases h1 : nextR c f = c.length
  · rw [if_pos h1]; exact (curve_mono h (show j ≤ c.length - 1 by omega) (by omega)).2
  · rw [if_neg h1]
    have hb := between_next h (by omega) h1
    have := hb.rnd_bd true
    have := (curve_mono h (show j ≤ nextR c f - 1 by omega) (by omega)).2
    omega
theorem nextR_mono {c : List Row} (h : curveB c = true) {f g : Int} (hfg : f ≤ g) : nextR c f ≤ nextR c g := by
  rcases Nat.lt_or_ge (nextR c g) (nextR c f) with hlt | hge
  · have h1 := nextR_lt c f _ hlt
    have h2 := nextR_at c g (by have := nextR_le c f; omega)
    omega
  · exact hge
theorem curve_le {c : List Row} (h : curveB c = true) (hl : 2 ≤ c.length) {f g : Int} (hfg : f ≤ g) : curveAt false c f ≤ curveAt true c g := by
  have hn := nextR_mono h hfg
  have hle := nextR_le c g
  rcases Nat.lt_or_ge (nextR c f) (nextR c g) with hlt | hge
  · exact Int.le_trans (curve_lo h hl (j := nextR c f) (by omega) (Nat.le_refl _)) (curve_hi h hl hlt)
  · have e : nextR c g = nextR c f := by omega
    unfold curveAt
    rw [e]
    by_cases h0 : nextR c f = 0
    · rw [if_pos h0, if_pos h0]; exact Int.le_refl _
    · rw [if_neg h0, if_neg h0]
      by_cases h1 : nextR c f = c.length
      · rw [if_pos h1, if_pos h1]; exact Int.le_refl _
      · rw [if_neg h1, if_neg h1]
        have hb := between_next h h0 h1
        have a1 := hb.f1
        have a2 := hb.f2
        have a3 := hb.l1
        have := floor_le_ceil (a := (f - (c.getD (nextR c f - 1) row0).flow) * ((c.getD (nextR c f) row0).level - (c.getD (nextR c f - 1) row0).level)) (b := (g - (c.getD (nextR c f - 1) row0).flow) * ((c.getD (nextR c f) row0).level - (c.getD (nextR c f - 1) row0).level)) (k := (c.getD (nextR c f) row0).flow - (c.getD (nextR c f - 1) row0).flow) (by omega) (Int.mul_le_mul_of_nonneg_right (by omega) (by omega))
        simp only [rnd]
        simp only [Bool.false_eq_true, if_false, if_true]
        omega
theorem level_le {x : Reach} (hx : ReachOk x) {f : Bd} (hf : f.lo ≤ f.hi) : (levelAt x f).lo ≤ (levelAt x f).hi := by
  have := curve_le hx.curve hx.rows.1 hf
  simp only [levelAt]
  omega
theorem bedOf_le {n : Int} {s : Shoal} (hs : shoalB n s = true) (t : Int) : (bedOf s t).lo ≤ (bedOf s t).hi := by
  simp only [shoalB, Bool.and_eq_true, bdOk_iff] at hs
  have h1 : s.grow.lo * max 0 (t - s.sounded) ≤ s.grow.hi * max 0 (t - s.sounded) := Int.mul_le_mul_of_nonneg_right hs.2.2.2.2.1 (by omega)
  have h2 := floor_le_ceil (k := 24) (by omega) h1
  simp only [bedOf]
  omega
theorem topOf_le {n t : Int} : ∀ {l : List Shoal} {b : Bd}, (∀ s ∈ l, shoalB n s = true) → b.lo ≤ b.hi → (topOf t b l).lo ≤ (topOf t b l).hi
  | [], _, _, h => h
  | s :: l, b, hs, h => by
    have h1 := bedOf_le (hs s (by simp)) t
    exact topOf_le (l := l) (b := b.top (bedOf s t)) (fun x hx => hs x (by simp [hx])) (by simp only [Bd.top]; omega)
theorem depth_le {rv : River} {sides : List (List Bd)} (hS : StartOk rv sides) {p t : Int} (hp1 : 0 ≤ p) (hp2 : p < placesOf rv.reaches) (ht2 : t < (sides.getD 0 []).length) : (depthAt rv sides p t).lo ≤ (depthAt rv sides p t).hi := by
  have hlt := reachOf_lt rv.reaches p hp1 hp2
  have hx := hS.river.reach _ hlt
  have h1 := level_le hx (flowIn_small hS _ t hlt ht2).2.1
  have h2 : (bedAt rv p t).lo ≤ (bedAt rv p t).hi := topOf_le (n := placesOf rv.reaches) (fun s hs => by
    have hm := (List.mem_filter.1 hs).1
    obtain ⟨k, hk, e⟩ := List.getElem_of_mem hm
    have := hS.river.shoal k hk
    rwa [show rv.shoals.getD k shoal0 = s by simp [hk, e]] at this) hx.bottom.2.1
  simp only [depthAt]
  omega
def mxN (D : Int → Bd) (k0 a : Int) : Nat → Int
  | 0 => a
  | n + 1 => max (mxN D k0 a n) (D (k0 + n)).hi
section
variable {D : Int → Bd} {i k0 a b : Int} {s : Sh} {n : Nat}
theorem shIn_most : ∀ {n : Nat}, (shIn D i k0 s n).most = mxN D k0 s.most n
  | 0 => rfl
  | n + 1 => by
    rw [shIn, shStep, mxN, ← shIn_most (n := n)]
    split <;> rfl
theorem mxN_ge : ∀ {n : Nat}, a ≤ mxN D k0 a n ∧ ∀ m, m < n → (D (k0 + m)).hi ≤ mxN D k0 a n
  | 0 => ⟨Int.le_refl _, fun m h => absurd h (Nat.not_lt_zero _)⟩
  | n + 1 => by
    obtain ⟨h1, h2⟩ := mxN_ge (n := n)
    rw [mxN]
    refine ⟨by omega, fun m hm => ?_⟩
    rcases Nat.lt_or_ge m n with h | h
    · have := h2 m h; omega
    · obtain rfl : m = n := by omega
      omega
end
section
variable {rv : River} {sides : List (List Bd)} {l l' : List Pass}
theorem shUp_hi (j : Nat) : (shUp rv sides l (j + 1)).hi = min (shUp rv sides l j).hi (mxN (depthAt rv sides (l.getD j pass0).place) (l.getD j pass0).hours.lo 0 (hoursN (l.getD j pass0).hours)) := congrArg (min _) shIn_most
/-- the first pass and hour with the least Low -/
def Best (rv : River) (sides : List (List Bd)) (l : List Pass) (vis : Nat → Nat → Prop) (lo pass hour : Int) : Prop :=
  ∃ i m, vis i m ∧ pass = (i : Nat) ∧ hour = (l.getD i pass0).hours.lo + (m : Nat) ∧ lo = (depthAt rv sides (l.getD i pass0).place ((l.getD i pass0).hours.lo + (m : Nat))).lo ∧
    ∀ i' m', vis i' m' → lo ≤ (depthAt rv sides (l.getD i' pass0).place ((l.getD i' pass0).hours.lo + (m' : Nat))).lo ∧ (i' < i ∨ (i' = i ∧ m' < m) → lo < (depthAt rv sides (l.getD i' pass0).place ((l.getD i' pass0).hours.lo + (m' : Nat))).lo)
def visN (l : List Pass) (j n i m : Nat) : Prop := (i < j ∧ m < hoursN (l.getD i pass0).hours) ∨ (i = j ∧ m < n)
theorem best_in {j : Nat} {s : Sh} (h0 : (s.lo = 1000000 ∧ ∀ i m, ¬ visN l j 0 i m) ∨ Best rv sides l (visN l j 0) s.lo s.pass s.hour) (hD : ∀ n : Nat, n < hoursN (l.getD j pass0).hours → (depthAt rv sides (l.getD j pass0).place ((l.getD j pass0).hours.lo + n)).lo ≤ 30000) : ∀ {n : Nat}, n ≤ hoursN (l.getD j pass0).hours →
    ((shIn (depthAt rv sides (l.getD j pass0).place) j (l.getD j pass0).hours.lo s n).lo = 1000000 ∧ ∀ i m, ¬ visN l j n i m) ∨ Best rv sides l (visN l j n) (shIn (depthAt rv sides (l.getD j pass0).place) j (l.getD j pass0).hours.lo s n).lo (shIn (depthAt rv sides (l.getD j pass0).place) j (l.getD j pass0).hours.lo s n).pass (shIn (depthAt rv sides (l.getD j pass0).place) j (l.getD j pass0).hours.lo s n).hour
  | 0, _ => h0
  | n + 1, hn => by
    have ih := best_in h0 hD (n := n) (by omega)
    have hd := hD n (by omega)
    have hv : ∀ i m, visN l j (n + 1) i m → visN l j n i m ∨ (i = j ∧ m = n) := fun i m h => by
      rcases h with h | ⟨h1, h2⟩
      · exact .inl (.inl h)
      · by_cases e : m = n
        · exact .inr ⟨h1, e⟩
        · exact .inl (.inr ⟨h1, by omega⟩)
    have hself : visN l j (n + 1) j n := .inr ⟨rfl, by omega⟩
    rw [shIn, shStep]
    generalize shIn (depthAt rv sides (l.getD j pass0).place) j (l.getD j pass0).hours.lo s n = t at ih ⊢
    refine .inr ?_
    by_cases hlt : (depthAt rv sides (l.getD j pass0).place ((l.getD j pass0).hours.lo + n)).lo < t.lo
    · rw [if_pos hlt]
      refine ⟨j, n, hself, rfl, rfl, rfl, fun i' m' h' => ?_⟩
      rcases hv i' m' h' with h | ⟨rfl, rfl⟩
      · rcases ih with ⟨_, hno⟩ | ⟨i, m, _, _, _, _, hall⟩
        · exact absurd h (hno i' m')
        · have := (hall i' m' h).1
          simp only
          exact ⟨by omega, fun _ => by omega⟩
      · exact ⟨Int.le_refl _, fun h => by omega⟩
    · rw [if_neg hlt]
      rcases ih with ⟨h1, _⟩ | ⟨i, m, hvis, e1, e2, e3, hall⟩
      · omega
      · refine ⟨i, m, ?_, e1, e2, e3, fun i' m' h' => ?_⟩
        · rcases hvis with h | ⟨h1, h2⟩
          · exact .inl h
          · exact .inr ⟨h1, by omega⟩
        · rcases hv i' m' h' with h | ⟨rfl, rfl⟩
          · exact hall i' m' h
          · refine ⟨by simp only; omega, fun h => ?_⟩
            rcases hvis with ⟨h1, h2⟩ | ⟨h1, h2⟩ <;> omega
theorem best_up (hD : ∀ j n : Nat, j < l.length → n < hoursN (l.getD j pass0).hours → (depthAt rv sides (l.getD j pass0).place ((l.getD j pass0).hours.lo + n)).lo ≤ 30000) : ∀ {j : Nat}, j ≤ l.length →
    ((shUp rv sides l j).lo = 1000000 ∧ ∀ i m, ¬ visN l j 0 i m) ∨ Best rv sides l (visN l j 0) (shUp rv sides l j).lo (shUp rv sides l j).pass (shUp rv sides l j).hour
  | 0, _ => .inl ⟨rfl, fun i m h => by rcases h with ⟨h, _⟩ | ⟨_, h⟩ <;> omega⟩
  | j + 1, hj => by
    have ih := best_up hD (j := j) (by omega)
    have h1 := best_in (rv := rv) (sides := sides) (j := j) (s := ⟨(shUp rv sides l j).lo, (shUp rv sides l j).pass, (shUp rv sides l j).hour, 0⟩) ih (fun n hn => hD j n (by omega) hn) (Nat.le_refl _)
    have hv : ∀ i m, visN l (j + 1) 0 i m ↔ visN l j (hoursN (l.getD j pass0).hours) i m := fun i m => by
      constructor
      · rintro (⟨h, h2⟩ | ⟨_, h⟩)
        · by_cases e : i = j
          · subst e; exact .inr ⟨rfl, h2⟩
          · exact .inl ⟨by omega, h2⟩
        · omega
      · rintro (⟨h, h2⟩ | ⟨rfl, h⟩)
        · exact .inl ⟨by omega, h2⟩
        · exact .inl ⟨by omega, h⟩
    rw [shUp, shNext]
    rcases h1 with ⟨h2, h3⟩ | ⟨i, m, h2, h4, h5, h6, h7⟩
    · exact .inl ⟨h2, fun i m h => h3 i m ((hv i m).1 h)⟩
    · exact .inr ⟨i, m, (hv i m).2 h2, h4, h5, h6, fun i' m' h' => h7 i' m' ((hv i' m').1 h')⟩
/-- what holds of a valid way -/
structure WayOk (rv : River) (sides : List (List Bd)) (l : List Pass) : Prop where
  some : 1 ≤ l.length ∧ l.length ≤ 60
  ok : ∀ j, j < l.length → passOk (placesOf rv.reaches) ((sides.getD 0 []).length : Nat) (l.getD j pass0)
theorem way_ok_of {n : Nat} (h : wayErr (placesOf rv.reaches) ((sides.getD 0 []).length : Nat) l = 0) : WayOk rv sides l := by
  unfold wayErr at h
  split at h
  · omega
  · split at h
    · omega
    · exact ⟨by omega, passBad_mem h⟩
theorem way_zero (h : WayOk rv sides l) : wayErr (placesOf rv.reaches) ((sides.getD 0 []).length : Nat) l = 0 := by
  have := h.some
  rw [way_in (by omega) (by omega)]
  exact passBad_ok h.ok
variable (hS : StartOk rv sides) (hw : WayOk rv sides l)
include hS hw
theorem way_depth {j n : Nat} (hj : j < l.length) (hn : n < hoursN (l.getD j pass0).hours) :
    ((l.getD j pass0).hours.lo ≤ (l.getD j pass0).hours.lo + (n : Nat) ∧ (l.getD j pass0).hours.lo + (n : Nat) ≤ (l.getD j pass0).hours.hi) ∧ (0 ≤ (depthAt rv sides (l.getD j pass0).place ((l.getD j pass0).hours.lo + n)).lo ∧ (depthAt rv sides (l.getD j pass0).place ((l.getD j pass0).hours.lo + n)).lo ≤ 30000) ∧ (depthAt rv sides (l.getD j pass0).place ((l.getD j pass0).hours.lo + n)).lo ≤ (depthAt rv sides (l.getD j pass0).place ((l.getD j pass0).hours.lo + n)).hi := by
  obtain ⟨h1, h2⟩ := hw.ok j hj
  have h1 := inB_iff.1 h1
  have h2 := bdOk_iff.1 h2
  have h3 := hoursN_eq h2.2.1
  have h4 := depth_bd hS (p := (l.getD j pass0).place) (t := (l.getD j pass0).hours.lo + n) (by omega) (by omega) (by omega) (by omega)
  have h5 := depth_le hS (p := (l.getD j pass0).place) (t := (l.getD j pass0).hours.lo + n) (by omega) (by omega) (by omega)
  exact ⟨by omega, h4.1, h5⟩
theorem way_best : Best rv sides l (fun i m => i < l.length ∧ m < hoursN (l.getD i pass0).hours) (shUp rv sides l l.length).lo (shUp rv sides l l.length).pass (shUp rv sides l l.length).hour := by
  have h := best_up (rv := rv) (sides := sides) (l := l) (fun j n hj hn => (way_depth hS hw hj hn).2.1.2) (Nat.le_refl _)
  have hv : ∀ i m, visN l l.length 0 i m ↔ (i < l.length ∧ m < hoursN (l.getD i pass0).hours) := fun i m => ⟨fun h => by rcases h with h | ⟨_, h⟩; exact h; omega, fun h => .inl h⟩
  have hs := hw.some
  obtain ⟨_, h2⟩ := hw.ok 0 (by omega)
  have h2 := bdOk_iff.1 h2
  have h3 := hoursN_eq h2.2.1
  rcases h with ⟨_, hno⟩ | ⟨i, m, h1, h4, h5, h6, h7⟩
  · exact absurd ((hv 0 0).2 ⟨by omega, by omega⟩) (hno 0 0)
  · exact ⟨i, m, (hv i m).1 h1, h4, h5, h6, fun i' m' h' => h7 i' m' ((hv i' m').2 h')⟩
end
end Go.Proofs.Ytncnlhkmdljgpaa
set_option linter.unusedVariables false
set_option linter.unusedSimpArgs false
namespace Go.Proofs.Ytncnlhkmdljgpaa
open Go Go.RowKit
/-! ### The curve, rounded one way, is monotone; the two ways differ by one at most -/
theorem rnd_mono {up : Bool} {a b k : Int} (hk : 0 < k) (h : a ≤ b) : rnd up a k ≤ rnd up b k := by
  cases up
  · exact Int.ediv_le_ediv hk h
  · have : -b / k ≤ -a / k := Int.ediv_le_ediv hk (by omega)
    simp only [rnd, ceilD, if_true]
    omega
theorem rnd_one {n k : Int} (hk : 0 < k) : rnd true n k ≤ rnd false n k + 1 := by
  simp only [rnd, ceilD, floorD, if_true, Bool.false_eq_true, if_false]
  have h1 := Int.emod_lt_of_pos n hk
  have h2 := Int.emod_lt_of_pos (-n) hk
  have h3 := Int.mul_ediv_add_emod n k
  have h4 := Int.mul_ediv_add_emod (-n) k
  have h5 : ¬ (n / k + -n / k ≤ -2) := fun h6 => by
    have h7 := Int.mul_le_mul_of_nonneg_left h6 (show 0 ≤ k by omega)
    rw [Int.mul_add] at h7
    omega
  omega
theorem curve_lo' {up : Bool} {c : List Row} (h : curveB c = true) (hl : 2 ≤ c.length) {f : Int} {j : Nat} (hj : j < c.length) (hf : nextR c f ≤ j) : curveAt up c f ≤ (c.getD j row0).level := by
  unfold curveAt
  by_cases h0 : nextR c f = 0
  · rw [if_pos h0]; exact (curve_mono h (Nat.zero_le j) hj).2
  · rw [if_neg h0, if_neg (by omega)]
    have hb := between_next h h0 (by omega)
    have := hb.rnd_bd up
    have := (curve_mono h hf hj).2
    omega
theorem curve_hi' {up : Bool} {c : List Row} (h : curveB c = true) (hl : 2 ≤ c.length) {f : Int} {j : Nat} (hj : j < nextR c f) : (c.getD j row0).level ≤ curveAt up c f := by
  have hle := nextR_le c f
  unfold curveAt
  rw [if_neg (by omega)]
  by_cases h1 : nextR c f = c.length
  · rw [if_pos h1]; exact (curve_mono h (show j ≤ c.length - 1 by omega) (by omega)).2
  · rw [if_neg h1]
    have hb := between_next h (by omega) h1
    have := hb.rnd_bd up
    have := (curve_mono h (show j ≤ nextR c f - 1 by omega) (by omega)).2
    omega
theorem curve_le' {up : Bool} {c : List Row} (h : curveB c = true) (hl : 2 ≤ c.length) {f g : Int} (hfg : f ≤ g) : curveAt up c f ≤ curveAt up c g := by
  have hn := nextR_mono h hfg
  have hle := nextR_le c g
  rcases Nat.lt_or_ge (nextR c f) (nextR c g) with hlt | hge
  · exact Int.le_trans (curve_lo' h hl (j := nextR c f) (by omega) (Nat.le_refl _)) (curve_hi' h hl hlt)
  · have e : nextR c g = nextR c f := by omega
    unfold curveAt
    rw [e]
    by_cases h0 : nextR c f = 0
    · rw [if_pos h0, if_pos h0]; exact Int.le_refl _
    · rw [if_neg h0, if_neg h0]
      by_cases h1 : nextR c f = c.length
      · rw [if_pos h1, if_pos h1]; exact Int.le_refl _
      · rw [if_neg h1, if_neg h1]
        have hb := between_next h h0 h1
        have a1 := hb.f1
        have a2 := hb.f2
        have a3 := hb.l1
        have := rnd_mono (up := up) (a := (f - (c.getD (nextR c f - 1) row0).flow) * ((c.getD (nextR c f) row0).level - (c.getD (nextR c f - 1) row0).level)) (b := (g - (c.getD (nextR c f - 1) row0).flow) * ((c.getD (nextR c f) row0).level - (c.getD (nextR c f - 1) row0).level)) (k := (c.getD (nextR c f) row0).flow - (c.getD (nextR c f - 1) row0).flow) (by omega) (Int.mul_le_mul_of_nonneg_right (by omega) (by omega))
        omega
theorem curve_one {c : List Row} (h : curveB c = true) (f : Int) : curveAt true c f ≤ curveAt false c f + 1 := by
  unfold curveAt
  by_cases h0 : nextR c f = 0
  · rw [if_pos h0, if_pos h0]; omega
  · rw [if_neg h0, if_neg h0]
    by_cases h1 : nextR c f = c.length
    · rw [if_pos h1, if_pos h1]; omega
    · rw [if_neg h1, if_neg h1]
      have hb := between_next h h0 h1
      have a1 := hb.f1
      have a2 := hb.f2
      have := rnd_one (n := (f - (c.getD (nextR c f - 1) row0).flow) * ((c.getD (nextR c f) row0).level - (c.getD (nextR c f - 1) row0).level)) (k := (c.getD (nextR c f) row0).flow - (c.getD (nextR c f - 1) row0).flow) (by omega)
      omega
/-- the level of a flow within the bounds -/
theorem level_in {x : Reach} (hx : ReachOk x) {f : Bd} {n : Int} (h1 : f.lo ≤ n) (h2 : n ≤ f.hi) : (levelAt x f).lo ≤ (levelAt x ⟨n, n⟩).lo ∧ (levelAt x ⟨n, n⟩).hi ≤ (levelAt x f).hi ∧ (levelAt x ⟨n, n⟩).lo ≤ (levelAt x ⟨n, n⟩).hi ∧ (levelAt x ⟨n, n⟩).hi ≤ (levelAt x ⟨n, n⟩).lo + 1 ∧ x.weir ≤ (levelAt x ⟨n, n⟩).lo := by
  have a1 := curve_le' (up := false) hx.curve hx.rows.1 h1
  have a2 := curve_le' (up := true) hx.curve hx.rows.1 h2
  have a3 := curve_le hx.curve hx.rows.1 (Int.le_refl n)
  have a4 := curve_one hx.curve n
  simp only [levelAt]
  omega
/-! ### The bed in a truth, in 24th parts -/
def trShoal (es gs : List Int) (h : Int) (j : Nat) (s : Shoal) : Int := 24 * pickI s.bed (partI es j) + pickI s.grow (partI gs j) * max 0 (h - s.sounded)
def trTop (r : River) (es gs : List Int) (p h : Int) : Nat → Int
  | 0 => 24 * pickI (r.reaches.getD (reachOf r.reaches p) reach0).bottom (partI es (reachOf r.reaches p))
  | j + 1 => if (r.shoals.getD j shoal0).place = p then max (trTop r es gs p h j) (trShoal es gs h j (r.shoals.getD j shoal0)) else trTop r es gs p h j
theorem trShoal_bd {es gs : List Int} (h1 : ∀ y ∈ es, 0 ≤ y ∧ y ≤ 255) (h2 : ∀ y ∈ gs, 0 ≤ y ∧ y ≤ 255) {n h : Int} {j : Nat} {s : Shoal} (hs : shoalB n s = true) : 24 * (bedOf s h).lo ≤ trShoal es gs h j s ∧ trShoal es gs h j s ≤ 24 * (bedOf s h).hi := by
  simp only [shoalB, Bool.and_eq_true, bdOk_iff] at hs
  have p1 := part_bd h1 j
  have p2 := part_bd h2 j
  have b1 := pick_bd (b := s.bed) hs.2.1.2.1 p1.1 p1.2
  have b2 := pick_bd (b := s.grow) hs.2.2.2.2.1 p2.1 p2.2
  obtain ⟨m, em⟩ : ∃ m, m = max 0 (h - s.sounded) := ⟨_, rfl⟩
  have m1 : s.grow.lo * m ≤ pickI s.grow (partI gs j) * m := Int.mul_le_mul_of_nonneg_right b2.1 (by omega)
  have m2 : pickI s.grow (partI gs j) * m ≤ s.grow.hi * m := Int.mul_le_mul_of_nonneg_right b2.2 (by omega)
  have d1 := Int.mul_ediv_self_le (x := s.grow.lo * m) (k := 24) (by omega)
  have d2 := Int.mul_ediv_self_le (x := -(s.grow.hi * m)) (k := 24) (by omega)
  unfold trShoal
  simp only [bedOf, floorD, ceilD]
  rw [← em]
  omega
theorem topOf_append (h : Int) (b : Bd) (l : List Shoal) (s : Shoal) : topOf h b (l ++ [s]) = (topOf h b l).top (bedOf s h) := by
  simp [topOf, List.foldl_append]
theorem trTop_bd {r : River} (hR : RiverOk r) {es gs : List Int} (h1 : ∀ y ∈ es, 0 ≤ y ∧ y ≤ 255) (h2 : ∀ y ∈ gs, 0 ≤ y ∧ y ≤ 255) {p h : Int} (hlt : reachOf r.reaches p < r.reaches.length) : ∀ {j : Nat}, j ≤ r.shoals.length →
    24 * (topOf h (r.reaches.getD (reachOf r.reaches p) reach0).bottom (shoalsAt (r.shoals.take j) p)).lo ≤ trTop r es gs p h j ∧ trTop r es gs p h j ≤ 24 * (topOf h (r.reaches.getD (reachOf r.reaches p) reach0).bottom (shoalsAt (r.shoals.take j) p)).hi
  | 0, _ => by
    have hb := (hR.reach _ hlt).bottom
    have p1 := part_bd h1 (reachOf r.reaches p)
    have b1 := pick_bd (b := (r.reaches.getD (reachOf r.reaches p) reach0).bottom) hb.2.1 p1.1 p1.2
    simp only [trTop, shoalsAt, List.take_zero, List.filter_nil, topOf, List.foldl_nil]
    omega
  | j + 1, hj => by
    have ih := trTop_bd hR h1 h2 (h := h) hlt (j := j) (by omega)
    have hs := trShoal_bd h1 h2 (h := h) (j := j) (hR.shoal j (by omega))
    have e : r.shoals.take (j + 1) = r.shoals.take j ++ [r.shoals.getD j shoal0] := by
      rw [List.take_succ_eq_append_getElem (by omega)]
      simp [show j < r.shoals.length by omega]
    have e2 : shoalsAt (r.shoals.take (j + 1)) p = shoalsAt (r.shoals.take j) p ++ (if (r.shoals.getD j shoal0).place = p then [r.shoals.getD j shoal0] else []) := by
      rw [e]
      simp only [shoalsAt, List.filter_append]
      congr 1
      by_cases hp : (r.shoals.getD j shoal0).place = p <;> simp [List.filter_cons, hp]
    rw [e2, trTop]
    by_cases hp : (r.shoals.getD j shoal0).place = p
    · rw [if_pos hp, if_pos hp, topOf_append]
      simp only [Bd.top]
      omega
    · rw [if_neg hp, if_neg hp, List.append_nil]
      exact ih
theorem trTop_all {r : River} (hR : RiverOk r) {es gs : List Int} (h1 : ∀ y ∈ es, 0 ≤ y ∧ y ≤ 255) (h2 : ∀ y ∈ gs, 0 ≤ y ∧ y ≤ 255) {p h : Int} (hlt : reachOf r.reaches p < r.reaches.length) : 24 * (bedAt r p h).lo ≤ trTop r es gs p h r.shoals.length ∧ trTop r es gs p h r.shoals.length ≤ 24 * (bedAt r p h).hi := by
  have := trTop_bd hR h1 h2 (h := h) hlt (Nat.le_refl _)
  rw [List.take_length] at this
  exact this
theorem trTop_sm {r : River} (hR : RiverOk r) {es gs : List Int} (h1 : ∀ y ∈ es, 0 ≤ y ∧ y ≤ 255) (h2 : ∀ y ∈ gs, 0 ≤ y ∧ y ≤ 255) {p h : Int} (hh : -400 ≤ h ∧ h ≤ 400) (hlt : reachOf r.reaches p < r.reaches.length) : ∀ {j : Nat}, j ≤ r.shoals.length → 0 ≤ trTop r es gs p h j ∧ trTop r es gs p h j ≤ 1000000
  | 0, _ => by
    have hb := (hR.reach _ hlt).bottom
    have p1 := part_bd h1 (reachOf r.reaches p)
    have b1 := pick_bd (b := (r.reaches.getD (reachOf r.reaches p) reach0).bottom) hb.2.1 p1.1 p1.2
    simp only [trTop]
    omega
  | j + 1, hj => by
    have ih := trTop_sm hR h1 h2 hh hlt (j := j) (by omega)
    have hs := hR.shoal j (by omega)
    simp only [shoalB, Bool.and_eq_true, bdOk_iff, inB_iff] at hs
    have p1 := part_bd h1 j
    have p2 := part_bd h2 j
    have b1 := pick_bd (b := (r.shoals.getD j shoal0).bed) hs.2.1.2.1 p1.1 p1.2
    have b2 := pick_bd (b := (r.shoals.getD j shoal0).grow) hs.2.2.2.2.1 p2.1 p2.2
    obtain ⟨m, em⟩ : ∃ m, m = max 0 (h - (r.shoals.getD j shoal0).sounded) := ⟨_, rfl⟩
    have m1 : pickI (r.shoals.getD j shoal0).grow (partI gs j) * m ≤ 500 * m := Int.mul_le_mul_of_nonneg_right (by omega) (by omega)
    rw [trTop, trShoal, ← em]
    split <;> omega
/-- the depth in a truth -/
theorem truth_depth {rv : River} {sides : List (List Bd)} (hS : StartOk rv sides) {es gs : List Int} (h1 : ∀ y ∈ es, 0 ≤ y ∧ y ≤ 255) (h2 : ∀ y ∈ gs, 0 ≤ y ∧ y ≤ 255) {p t n : Int} (hp1 : 0 ≤ p) (hp2 : p < placesOf rv.reaches) (ht : t < (sides.getD 0 []).length) (hn1 : (flowIn rv.reaches sides (reachOf rv.reaches p) t).lo ≤ n) (hn2 : n ≤ (flowIn rv.reaches sides (reachOf rv.reaches p) t).hi) :
    24 * (depthAt rv sides p t).lo ≤ max 0 (24 * (levelAt (rv.reaches.getD (reachOf rv.reaches p) reach0) ⟨n, n⟩).hi - trTop rv es gs p t rv.shoals.length) ∧ 24 * (levelAt (rv.reaches.getD (reachOf rv.reaches p) reach0) ⟨n, n⟩).lo - trTop rv es gs p t rv.shoals.length ≤ 24 * (depthAt rv sides p t).hi := by
  have hlt := reachOf_lt rv.reaches p hp1 hp2
  have hl := level_in (hS.river.reach _ hlt) hn1 hn2
  have ht := trTop_all hS.river h1 h2 (h := t) hlt
  simp only [depthAt]
  omega
end Go.Proofs.Ytncnlhkmdljgpaa
