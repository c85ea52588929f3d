/- River: closures: words, the program's shut and Closed (printed by gen_w21.py). -/
import Derived.Test.YtncnlhkmdljgpaaLaw0
import Derived.Test.YtncnlhkmdljgpaaExB
set_option linter.unusedVariables false
set_option linter.unusedSimpArgs false
namespace Go.Proofs.Ytncnlhkmdljgpaa
open Go Go.RowKit

section
variable {P : Program} {n : Nat} {σ : Sg} {w : World} {Q : Exit → Act → World → Prop} {L : List Oper} {rest : List Oper}
theorem EL.newSg {d ty m c j t : Nat} {b : Bool} {op : Op} {pos : String} {af : Array Edge} {cs : Array Value} {T : TypeId} (hj : dstOf L j = some t) (ht : σ t = some (.bool b)) (h : ∀ a, Env n σ a → (execOp a.eval ⟨some d, op, ty, pos, af, some (j, b)⟩).run P w = .ok (.value (.slice (some ⟨w.heap.size, 0, none⟩) m c)) (w.alloc (.cells cs T))) (hd : Nat.blt d n = true)
    (next : ∀ g w', Blk w' g T cs → Below w.heap.size w w' → w.heap.size ≤ g → w.heap.size < w'.heap.size → EL P n L Q rest (ins σ d (.slice (some ⟨g, 0, none⟩) m c)) w') : EL P n L Q (⟨some d, op, ty, pos, af, some (j, b)⟩ :: rest) σ w :=
  fun a ha => wpL_run (by simp [Region.wanted, yield_of ha hj ht]) (h a ha) (next _ _ (Blk.new w T cs) ((Below.refl _ _).alloc (Nat.le_refl _) _) (Nat.le_refl _) (by simp) _ (ha.put hd _))
end
structure Clos where
  fr : Int
  to : Int
  bg : Bd
  en : Bd
def clos0 : Clos := ⟨0, 0, bd0, bd0⟩
def closC (c : Clos) : List Value := [.int .i64 c.fr, .int .i64 c.to, .int .i64 c.bg.lo, .int .i64 c.bg.hi, .int .i64 c.en.lo, .int .i64 c.en.hi]
def closesC (l : List Clos) : List Value := l.flatMap closC
theorem closC_len (s : Clos) : (closC s).length = 6 := rfl
theorem closesC_len (l : List Clos) : (closesC l).length = l.length * 6 := flat_len closC_len l
theorem closesC_one (l : List Clos) : ∀ u ∈ closesC l, u.oneCell' = true := flat_one (by intro x u hu; simp [closC] at hu; rcases hu with rfl | rfl | rfl | rfl | rfl | rfl <;> rfl) l
structure ClosAt (w : World) (b o : Nat) (s : Clos) : Prop where
  c0 : w.cell? ⟨b, o, none⟩ = some (.int .i64 s.fr)
  c1 : w.cell? ⟨b, o + 1, none⟩ = some (.int .i64 s.to)
  c2 : w.cell? ⟨b, o + 2, none⟩ = some (.int .i64 s.bg.lo)
  c3 : w.cell? ⟨b, o + 3, none⟩ = some (.int .i64 s.bg.hi)
  c4 : w.cell? ⟨b, o + 4, none⟩ = some (.int .i64 s.en.lo)
  c5 : w.cell? ⟨b, o + 5, none⟩ = some (.int .i64 s.en.hi)
theorem closes_cells (l : List Clos) (k : Nat) (hk : k < l.length) (w : World) (B : Nat) (A : Option Addr) (n c : Nat) (hr : Rd w B 6 (.slice A n c) n (closesC l)) :
    ∃ b off, A = some ⟨b, off, none⟩ ∧ b < B ∧ ClosAt w b (off + k * 6) (l.getD k clos0) := by
  have hl : n * 6 = l.length * 6 := by rw [← hr.len, closesC_len]
  obtain ⟨b, off, rfl, hb, hc⟩ := hr.at_ (by omega)
  have e : l.getD k clos0 = l[k] := by simp [hk]
  rw [e]
  have g := fun j hj => flat_get closC_len l k hk j hj
  exact ⟨b, off, rfl, hb, hc (k * 6) _ (g 0 (by omega)), hc (k * 6 + 1) _ (g 1 (by omega)), hc (k * 6 + 2) _ (g 2 (by omega)), hc (k * 6 + 3) _ (g 3 (by omega)), hc (k * 6 + 4) _ (g 4 (by omega)), hc (k * 6 + 5) _ (g 5 (by omega))⟩
/-- whether a closure closes a place in an hour -/
def mayShut (p t : Int) (c : Clos) : Bool := inB c.fr c.to p && (decide (c.bg.lo ≤ t) && decide (t < c.en.hi))
def mustShut (p t : Int) (c : Clos) : Bool := inB c.fr c.to p && (decide (c.bg.hi ≤ t) && decide (t < c.en.lo))
def closOk (n : Int) (c : Clos) : Bool := inB 0 (n - 1) c.fr && (inB c.fr (n - 1) c.to && (bdOk (-400) 800 c.bg && bdOk (-400) 800 c.en))
def closErr (n : Int) (l : List Clos) : Int := if 40 < l.length then 5 else if l.all (closOk n) = false then 2 else 0
def mayAny (lv : Bd) (fl p t : Int) (l : List Clos) : Bool := decide (fl < lv.hi) || l.any (mayShut p t)
def mustAny (lv : Bd) (fl p t : Int) (l : List Clos) : Bool := decide (fl < lv.lo) || l.any (mustShut p t)
theorem any_take {l : List Clos} {f : Clos → Bool} {k : Nat} (hk : k < l.length) : (l.take (k + 1)).any f = ((l.take k).any f || f (l.getD k clos0)) := by
  rw [List.take_succ_eq_append_getElem hk, List.any_append, show l.getD k clos0 = l[k] by simp [hk]]
  simp only [List.any_cons, List.any_nil, Bool.or_false]
theorem mayAny_take {lv : Bd} {fl p t : Int} {l : List Clos} {k : Nat} (hk : k < l.length) : mayAny lv fl p t (l.take (k + 1)) = (mayAny lv fl p t (l.take k) || mayShut p t (l.getD k clos0)) := by
  rw [mayAny, any_take hk, mayAny, Bool.or_assoc]
theorem mustAny_take {lv : Bd} {fl p t : Int} {l : List Clos} {k : Nat} (hk : k < l.length) : mustAny lv fl p t (l.take (k + 1)) = (mustAny lv fl p t (l.take k) || mustShut p t (l.getD k clos0)) := by
  rw [mustAny, any_take hk, mustAny, Bool.or_assoc]
theorem all_of_getD {l : List Clos} {f : Clos → Bool} (h : ∀ i, i < l.length → f (l.getD i clos0) = true) : l.all f = true := List.all_eq_true.2 fun x hx => by
  obtain ⟨k, hk, e⟩ := List.getElem_of_mem hx
  have := h k hk
  rwa [show l.getD k clos0 = x by simp [hk, e]] at this
theorem clos_all_not {l : List Clos} {f : Clos → Bool} {k : Nat} (hk : k < l.length) (h : f (l.getD k clos0) = false) : l.all f = false := by
  cases e : l.all f with
  | false => rfl
  | true => have := List.all_eq_true.1 e _ (getD_mem (d := clos0) hk); rw [h] at this; cases this
theorem closOk_iff {n : Int} {c : Clos} : closOk n c = true ↔ (0 ≤ c.fr ∧ c.fr ≤ n - 1) ∧ (c.fr ≤ c.to ∧ c.to ≤ n - 1) ∧ bdOk (-400) 800 c.bg = true ∧ bdOk (-400) 800 c.en = true := by
  simp only [closOk, Bool.and_eq_true, inB_iff]
/-- what Closed returns -/
def cldErr (rv : River) (sides : List (List Bd)) (l : List Clos) (p t : Int) : Int := if startErr rv sides ≠ 0 then startErr rv sides else if closErr (placesOf rv.reaches) l ≠ 0 then closErr (placesOf rv.reaches) l else if inB 0 (placesOf rv.reaches - 1) p = false then 7 else if inB 0 (((sides.getD 0 []).length : Nat) - 1 : Int) t = false then 3 else 0
def lvAt (rv : River) (sides : List (List Bd)) (p t : Int) : Bd := levelAt (rv.reaches.getD (reachOf rv.reaches p) reach0) (flowIn rv.reaches sides (reachOf rv.reaches p) t)
def flAt (rv : River) (p : Int) : Int := (rv.reaches.getD (reachOf rv.reaches p) reach0).flood
def cldMay (rv : River) (sides : List (List Bd)) (l : List Clos) (p t : Int) : Bool := decide (cldErr rv sides l p t = 0) && mayAny (lvAt rv sides p t) (flAt rv p) p t l
def cldMust (rv : River) (sides : List (List Bd)) (l : List Clos) (p t : Int) : Bool := decide (cldErr rv sides l p t = 0) && mustAny (lvAt rv sides p t) (flAt rv p) p t l
section
variable {rv : River} {sides : List (List Bd)} {l : List Clos} {p t : Int}
theorem cld_of {e : Int} (h : cldErr rv sides l p t = e) (he : e ≠ 0) : cldErr rv sides l p t = e ∧ cldMay rv sides l p t = false ∧ cldMust rv sides l p t = false := by
  refine ⟨h, ?_, ?_⟩ <;> simp [cldMay, cldMust, h, he]
theorem cld_open (h : startErr rv sides ≠ 0) : cldErr rv sides l p t = startErr rv sides ∧ cldMay rv sides l p t = false ∧ cldMust rv sides l p t = false := cld_of (by rw [cldErr, if_pos h]) h
theorem cld_clos (h : startErr rv sides = 0) (h2 : closErr (placesOf rv.reaches) l ≠ 0) : cldErr rv sides l p t = closErr (placesOf rv.reaches) l ∧ cldMay rv sides l p t = false ∧ cldMust rv sides l p t = false := cld_of (by rw [cldErr, if_neg (by omega), if_pos h2]) h2
theorem cld_none (h : startErr rv sides = 0) (h2 : closErr (placesOf rv.reaches) l = 0) (hp : inB 0 (placesOf rv.reaches - 1) p = false) : cldErr rv sides l p t = 7 ∧ cldMay rv sides l p t = false ∧ cldMust rv sides l p t = false := cld_of (by rw [cldErr, if_neg (by omega), if_neg (by omega), if_pos hp]) (by omega)
theorem cld_range (h : startErr rv sides = 0) (h2 : closErr (placesOf rv.reaches) l = 0) (hp : inB 0 (placesOf rv.reaches - 1) p = true) (ht : inB 0 (((sides.getD 0 []).length : Nat) - 1 : Int) t = false) : cldErr rv sides l p t = 3 ∧ cldMay rv sides l p t = false ∧ cldMust rv sides l p t = false := cld_of (by rw [cldErr, if_neg (by omega), if_neg (by omega), if_neg (by rw [hp]; simp), if_pos ht]) (by omega)
theorem cld_ok (h : startErr rv sides = 0) (h2 : closErr (placesOf rv.reaches) l = 0) (hp : inB 0 (placesOf rv.reaches - 1) p = true) (ht : inB 0 (((sides.getD 0 []).length : Nat) - 1 : Int) t = true) : cldErr rv sides l p t = 0 ∧ cldMay rv sides l p t = mayAny (lvAt rv sides p t) (flAt rv p) p t l ∧ cldMust rv sides l p t = mustAny (lvAt rv sides p t) (flAt rv p) p t l := by
  have e : cldErr rv sides l p t = 0 := by rw [cldErr, if_neg (by omega), if_neg (by omega), if_neg (by rw [hp]; simp), if_neg (by rw [ht]; simp)]
  refine ⟨e, ?_, ?_⟩ <;> simp [cldMay, cldMust, e]
end

theorem shut_any (y : Clos) (p t : Int) (w : World) :
    Calls Try.prog 79 #[.agg #[.int .i64 y.fr, .int .i64 y.to, .int .i64 y.bg.lo, .int .i64 y.bg.hi, .int .i64 y.en.lo, .int .i64 y.en.hi], .int .i64 p, .int .i64 t] w fun e w' => e = .returned (.tuple #[.bool (mayShut p t y), .bool (mustShut p t y)]) ∧ Below w.heap.size w w' := by
  have hbw := Below.refl w.heap.size w
  refine EC.enter 40 Try.func79 rfl rfl rfl ?_
  refine EC.seq ?_
  refine EC.region ?_
  refine EL.newP (bx_90 rfl) rfl ?_
  intro g1 w1 q1 hb1 hg1 hl1
  have bhbw_1 := Nat.le_trans hbw.size hg1
  replace hbw := Below.on hbw hb1 hbw.size
  clear hb1 hg1 hl1
  refine EL.val (x_assign rfl) rfl ?_
  refine EL.val (x_assign rfl) rfl ?_
  refine EL.nil ?_
  refine EX.seq ?_
  refine EC.seq ?_
  refine EC.seq ?_
  refine EC.region ?_
  refine EL.val (fa_90_0 rfl) rfl ?_
  refine EL.val (ld_3 rfl (q1.at (j := 0) rfl)) rfl ?_
  refine EL.val (fa_90_1 rfl) rfl ?_
  refine EL.val (ld_3 rfl (q1.at (j := 1) rfl)) rfl ?_
  refine EL.val (x_move rfl) rfl ?_
  refine EL.newS (bs_121_1 rfl) rfl ?_
  intro g2 w2 q2 hb2 hg2 hl2
  have n1_2 : g1 ≠ g2 := Nat.ne_of_lt (Nat.lt_of_lt_of_le q1.lt hg2)
  have bhbw_2 := Nat.le_trans hbw.size hg2
  replace q1 := q1.below hb2 q1.lt
  replace hbw := Below.on hbw hb2 hbw.size
  clear hb2 hg2 hl2
  cases hin : inB y.fr y.to p
  ·
    refine EL.call (cl_57 rfl rfl rfl) rfl (withinB1 _ _ _ _ _ q2 hin) ?_
    rintro e w3 ⟨rfl, hc3⟩
    refine ⟨_, rfl, ?_⟩
    replace q1 := q1.below hc3 q1.lt
    replace q2 := q2.below hc3 q2.lt
    replace hbw := Below.on hbw hc3 hbw.size
    clear hc3
    refine EL.val (x_not rfl) rfl ?_
    refine EL.nil ?_
    refine EX.seq ?_
    refine EC.yes rfl ?_
    refine EC.seq ?_
    refine EC.region ?_
    refine EL.val (x_assign rfl) rfl ?_
    refine EL.val (x_assign rfl) rfl ?_
    refine EL.nil ?_
    refine EX.seq ?_
    refine EC.ret ?_
    refine EX.seq_ret ?_
    exact EX.done (res2 rfl rfl rfl) ⟨by simp [mayShut, mustShut, hin], hbw⟩
  ·
    refine EL.call (cl_57 rfl rfl rfl) rfl (withinB1 _ _ _ _ _ q2 hin) ?_
    rintro e w4 ⟨rfl, hc4⟩
    refine ⟨_, rfl, ?_⟩
    replace q1 := q1.below hc4 q1.lt
    replace q2 := q2.below hc4 q2.lt
    replace hbw := Below.on hbw hc4 hbw.size
    clear hc4
    refine EL.val (x_not rfl) rfl ?_
    refine EL.nil ?_
    refine EX.seq ?_
    refine EC.no rfl ?_
    refine EC.skip ?_
    refine EX.seq ?_
    refine EC.seq ?_
    by_cases h1 : y.bg.lo ≤ t <;> by_cases h2 : y.bg.hi ≤ t
    ·
      refine EC.regionQ (by kernel_rfl) (by kernel_rfl) ?_
      refine EQ.val (fun _ hw => (fa_90_2 rfl)) rfl ?_
      refine EQ.val (fun _ hw => (fa_23_0 rfl)) rfl ?_
      refine EQ.val (fun _ hw => (ld_3 rfl (below_load hw (q1.at (j := 2) rfl)))) rfl ?_
      refine EQ.val (fun _ hw => (x_move rfl)) rfl ?_
      refine EQ.val (fun _ hw => (x_leq rfl rfl (by first | assumption | exact decide_eq_true (by omega)))) rfl ?_
      refine EQ.val (fun _ hw => (x_move rfl)) rfl ?_
      refine EQ.valg rfl rfl (fun _ hw => (x_move rfl)) rfl ?_
      refine EQ.valg rfl rfl (fun _ hw => (fa_90_3 rfl)) rfl ?_
      refine EQ.valg rfl rfl (fun _ hw => (fa_23_1 rfl)) rfl ?_
      refine EQ.valg rfl rfl (fun _ hw => (ld_3 rfl (below_load hw (q1.at (j := 5) rfl)))) rfl ?_
      refine EQ.valg rfl rfl (fun _ hw => (x_lss rfl rfl rfl)) rfl ?_
      refine EQ.val (fun _ hw => (x_pick_t rfl rfl)) rfl ?_
      refine EQ.val (fun _ hw => (fa_90_2 rfl)) rfl ?_
      refine EQ.val (fun _ hw => (fa_23_1 rfl)) rfl ?_
      refine EQ.val (fun _ hw => (ld_3 rfl (below_load hw (q1.at (j := 3) rfl)))) rfl ?_
      refine EQ.val (fun _ hw => (x_move rfl)) rfl ?_
      refine EQ.val (fun _ hw => (x_leq rfl rfl (by first | assumption | exact decide_eq_true (by omega)))) rfl ?_
      refine EQ.val (fun _ hw => (x_move rfl)) rfl ?_
      refine EQ.valg rfl rfl (fun _ hw => (x_move rfl)) rfl ?_
      refine EQ.valg rfl rfl (fun _ hw => (fa_90_3 rfl)) rfl ?_
      refine EQ.valg rfl rfl (fun _ hw => (fa_23_0 rfl)) rfl ?_
      refine EQ.valg rfl rfl (fun _ hw => (ld_3 rfl (below_load hw (q1.at (j := 4) rfl)))) rfl ?_
      refine EQ.valg rfl rfl (fun _ hw => (x_lss rfl rfl rfl)) rfl ?_
      refine EQ.val (fun _ hw => (x_pick_t rfl rfl)) rfl ?_
      refine EQ.val (fun _ hw => (x_assign rfl)) rfl ?_
      refine EQ.val (fun _ hw => (x_assign rfl)) rfl ?_
      refine EQ.fin (fun w5 hw_ => ?_)
      replace q1 := q1.below hw_ q1.lt
      replace q2 := q2.below hw_ q2.lt
      replace hbw := Below.on hbw hw_ hbw.size
      clear hw_
      refine EX.seq ?_
      refine EC.ret ?_
      exact EX.done (res2 rfl rfl rfl) ⟨by simp [mayShut, mustShut, hin, h1, h2], hbw⟩
    ·
      refine EC.regionQ (by kernel_rfl) (by kernel_rfl) ?_
      refine EQ.val (fun _ hw => (fa_90_2 rfl)) rfl ?_
      refine EQ.val (fun _ hw => (fa_23_0 rfl)) rfl ?_
      refine EQ.val (fun _ hw => (ld_3 rfl (below_load hw (q1.at (j := 2) rfl)))) rfl ?_
      refine EQ.val (fun _ hw => (x_move rfl)) rfl ?_
      refine EQ.val (fun _ hw => (x_leq rfl rfl (by first | assumption | exact decide_eq_true (by omega)))) rfl ?_
      refine EQ.val (fun _ hw => (x_move rfl)) rfl ?_
      refine EQ.valg rfl rfl (fun _ hw => (x_move rfl)) rfl ?_
      refine EQ.valg rfl rfl (fun _ hw => (fa_90_3 rfl)) rfl ?_
      refine EQ.valg rfl rfl (fun _ hw => (fa_23_1 rfl)) rfl ?_
      refine EQ.valg rfl rfl (fun _ hw => (ld_3 rfl (below_load hw (q1.at (j := 5) rfl)))) rfl ?_
      refine EQ.valg rfl rfl (fun _ hw => (x_lss rfl rfl rfl)) rfl ?_
      refine EQ.val (fun _ hw => (x_pick_t rfl rfl)) rfl ?_
      refine EQ.val (fun _ hw => (fa_90_2 rfl)) rfl ?_
      refine EQ.val (fun _ hw => (fa_23_1 rfl)) rfl ?_
      refine EQ.val (fun _ hw => (ld_3 rfl (below_load hw (q1.at (j := 3) rfl)))) rfl ?_
      refine EQ.val (fun _ hw => (x_move rfl)) rfl ?_
      refine EQ.val (fun _ hw => (x_leq rfl rfl (by first | assumption | exact decide_eq_false (by omega)))) rfl ?_
      refine EQ.val (fun _ hw => (x_move rfl)) rfl ?_
      refine EQ.skip rfl rfl rfl rfl ?_
      refine EQ.skip rfl rfl rfl rfl ?_
      refine EQ.skip rfl rfl rfl rfl ?_
      refine EQ.skip rfl rfl rfl rfl ?_
      refine EQ.skip rfl rfl rfl rfl ?_
      refine EQ.val (fun _ hw => (x_pick_f rfl rfl)) rfl ?_
      refine EQ.val (fun _ hw => (x_assign rfl)) rfl ?_
      refine EQ.val (fun _ hw => (x_assign rfl)) rfl ?_
      refine EQ.fin (fun w6 hw_ => ?_)
      replace q1 := q1.below hw_ q1.lt
      replace q2 := q2.below hw_ q2.lt
      replace hbw := Below.on hbw hw_ hbw.size
      clear hw_
      refine EX.seq ?_
      refine EC.ret ?_
      exact EX.done (res2 rfl rfl rfl) ⟨by simp [mayShut, mustShut, hin, h1, h2], hbw⟩
    ·
      refine EC.regionQ (by kernel_rfl) (by kernel_rfl) ?_
      refine EQ.val (fun _ hw => (fa_90_2 rfl)) rfl ?_
      refine EQ.val (fun _ hw => (fa_23_0 rfl)) rfl ?_
      refine EQ.val (fun _ hw => (ld_3 rfl (below_load hw (q1.at (j := 2) rfl)))) rfl ?_
      refine EQ.val (fun _ hw => (x_move rfl)) rfl ?_
      refine EQ.val (fun _ hw => (x_leq rfl rfl (by first | assumption | exact decide_eq_false (by omega)))) rfl ?_
      refine EQ.val (fun _ hw => (x_move rfl)) rfl ?_
      refine EQ.skip rfl rfl rfl rfl ?_
      refine EQ.skip rfl rfl rfl rfl ?_
      refine EQ.skip rfl rfl rfl rfl ?_
      refine EQ.skip rfl rfl rfl rfl ?_
      refine EQ.skip rfl rfl rfl rfl ?_
      refine EQ.val (fun _ hw => (x_pick_f rfl rfl)) rfl ?_
      refine EQ.val (fun _ hw => (fa_90_2 rfl)) rfl ?_
      refine EQ.val (fun _ hw => (fa_23_1 rfl)) rfl ?_
      refine EQ.val (fun _ hw => (ld_3 rfl (below_load hw (q1.at (j := 3) rfl)))) rfl ?_
      refine EQ.val (fun _ hw => (x_move rfl)) rfl ?_
      refine EQ.val (fun _ hw => (x_leq rfl rfl (by first | assumption | exact decide_eq_true (by omega)))) rfl ?_
      refine EQ.val (fun _ hw => (x_move rfl)) rfl ?_
      refine EQ.valg rfl rfl (fun _ hw => (x_move rfl)) rfl ?_
      refine EQ.valg rfl rfl (fun _ hw => (fa_90_3 rfl)) rfl ?_
      refine EQ.valg rfl rfl (fun _ hw => (fa_23_0 rfl)) rfl ?_
      refine EQ.valg rfl rfl (fun _ hw => (ld_3 rfl (below_load hw (q1.at (j := 4) rfl)))) rfl ?_
      refine EQ.valg rfl rfl (fun _ hw => (x_lss rfl rfl rfl)) rfl ?_
      refine EQ.val (fun _ hw => (x_pick_t rfl rfl)) rfl ?_
      refine EQ.val (fun _ hw => (x_assign rfl)) rfl ?_
      refine EQ.val (fun _ hw => (x_assign rfl)) rfl ?_
      refine EQ.fin (fun w7 hw_ => ?_)
      replace q1 := q1.below hw_ q1.lt
      replace q2 := q2.below hw_ q2.lt
      replace hbw := Below.on hbw hw_ hbw.size
      clear hw_
      refine EX.seq ?_
      refine EC.ret ?_
      exact EX.done (res2 rfl rfl rfl) ⟨by simp [mayShut, mustShut, hin, h1, h2], hbw⟩
    ·
      refine EC.regionQ (by kernel_rfl) (by kernel_rfl) ?_
      refine EQ.val (fun _ hw => (fa_90_2 rfl)) rfl ?_
      refine EQ.val (fun _ hw => (fa_23_0 rfl)) rfl ?_
      refine EQ.val (fun _ hw => (ld_3 rfl (below_load hw (q1.at (j := 2) rfl)))) rfl ?_
      refine EQ.val (fun _ hw => (x_move rfl)) rfl ?_
      refine EQ.val (fun _ hw => (x_leq rfl rfl (by first | assumption | exact decide_eq_false (by omega)))) rfl ?_
      refine EQ.val (fun _ hw => (x_move rfl)) rfl ?_
      refine EQ.skip rfl rfl rfl rfl ?_
      refine EQ.skip rfl rfl rfl rfl ?_
      refine EQ.skip rfl rfl rfl rfl ?_
      refine EQ.skip rfl rfl rfl rfl ?_
      refine EQ.skip rfl rfl rfl rfl ?_
      refine EQ.val (fun _ hw => (x_pick_f rfl rfl)) rfl ?_
      refine EQ.val (fun _ hw => (fa_90_2 rfl)) rfl ?_
      refine EQ.val (fun _ hw => (fa_23_1 rfl)) rfl ?_
      refine EQ.val (fun _ hw => (ld_3 rfl (below_load hw (q1.at (j := 3) rfl)))) rfl ?_
      refine EQ.val (fun _ hw => (x_move rfl)) rfl ?_
      refine EQ.val (fun _ hw => (x_leq rfl rfl (by first | assumption | exact decide_eq_false (by omega)))) rfl ?_
      refine EQ.val (fun _ hw => (x_move rfl)) rfl ?_
      refine EQ.skip rfl rfl rfl rfl ?_
      refine EQ.skip rfl rfl rfl rfl ?_
      refine EQ.skip rfl rfl rfl rfl ?_
      refine EQ.skip rfl rfl rfl rfl ?_
      refine EQ.skip rfl rfl rfl rfl ?_
      refine EQ.val (fun _ hw => (x_pick_f rfl rfl)) rfl ?_
      refine EQ.val (fun _ hw => (x_assign rfl)) rfl ?_
      refine EQ.val (fun _ hw => (x_assign rfl)) rfl ?_
      refine EQ.fin (fun w8 hw_ => ?_)
      replace q1 := q1.below hw_ q1.lt
      replace q2 := q2.below hw_ q2.lt
      replace hbw := Below.on hbw hw_ hbw.size
      clear hw_
      refine EX.seq ?_
      refine EC.ret ?_
      exact EX.done (res2 rfl rfl rfl) ⟨by simp [mayShut, mustShut, hin, h1, h2], hbw⟩

set_option maxHeartbeats 4000000 in
set_option maxRecDepth 100000 in
theorem closed_any (rv : River) (sides : List (List Bd)) (v u s : Value) (vs ss : List Value) (l : List Clos) (vl : Value) (p t : Int) (w : World) (B : Nat) (hr : RdRiver w B v u rv vs) (hs : RdSides w B s sides ss) (hB : B ≤ w.heap.size) (hcl : Rd w B 6 vl l.length (closesC l)) (hl : rv.reaches.length ≤ 1048576) (hl2 : rv.shoals.length ≤ 1048576) (hcv : CurvesB rv.reaches) (hl3 : sides.length ≤ 1048576) (hsb : SidesB sides) :
    Calls Try.prog 48 #[.agg #[v, u], s, vl, .int .i64 p, .int .i64 t] w fun e w' => e = .returned (.tuple #[.bool (cldMay rv sides l p t), .bool (cldMust rv sides l p t), .int .i64 (cldErr rv sides l p t)]) ∧ Below w.heap.size w w' := by
  obtain ⟨Ac, cac, rfl, _⟩ := hcl.shape
  obtain ⟨A, c, rfl, _⟩ := hr.reaches.shape
  obtain ⟨A', c', rfl, _⟩ := hr.shoals.shape
  obtain ⟨D, d, rfl, _⟩ := hs.rd.shape
  have hbw := Below.refl w.heap.size w
  refine EC.enter 122 Try.func48 rfl rfl rfl ?_
  refine EC.seq ?_
  refine EC.region ?_
  refine EL.newP (bx_47 rfl) rfl ?_
  intro g1 w1 q1 hb1 hg1 hl1
  have bhbw_1 := Nat.le_trans hbw.size hg1
  replace hbw := Below.on hbw hb1 hbw.size
  clear hb1 hg1 hl1
  refine EL.val (x_assign rfl) rfl ?_
  refine EL.val (x_assign rfl) rfl ?_
  refine EL.val (x_assign rfl) rfl ?_
  refine EL.nil ?_
  refine EX.seq ?_
  refine EC.seq ?_
  refine EC.region ?_
  refine EL.val (ld_47 rfl (q1.at (j := 0) rfl) (q1.at (j := 1) rfl)) rfl ?_
  refine EL.val (x_move rfl) rfl ?_
  by_cases hst : startErr rv sides = 0
  ·
    obtain ⟨hok, hO⟩ := startErr_ok hst
    have hR := riverB_ok hok
    have hpl := hR.places
    have hhr := hO.hours
    refine EL.call (cl_73 rfl rfl) rfl (open_ok rv sides _ _ _ vs ss _ B (hr.below (hbw.mono hB)) (hs.below (hbw.mono hB)) (Nat.le_trans hB hbw.size) hl hl2 hcv hl3 hsb hst) ?_
    rintro e w2 ⟨⟨g, vf, fs, rfl, hge_, hS, _⟩, hc2⟩
    refine ⟨_, rfl, ?_⟩
    replace q1 := q1.below hc2 q1.lt
    replace hbw := Below.on hbw hc2 hbw.size
    clear hc2 hge_
    have hin := Below.refl w2.heap.size w2
    refine EL.val (x_move rfl) rfl ?_
    refine EL.val (x_extract rfl rfl) rfl ?_
    refine EL.val (x_extract rfl rfl) rfl ?_
    refine EL.val (x_assign rfl) rfl ?_
    refine EL.val (x_assign rfl) rfl ?_
    refine EL.nil ?_
    refine EX.seq ?_
    refine EC.seq ?_
    refine EC.block ?_
    refine EC.seq ?_
    refine EC.region ?_
    refine EL.val (x_move rfl) rfl ?_
    refine EL.val (x_neq rfl rfl (by first | assumption | exact decide_eq_false (by omega))) rfl ?_
    refine EL.val (x_assign rfl) rfl ?_
    refine EL.nil ?_
    refine EX.seq ?_
    refine EC.no rfl ?_
    refine EC.seq ?_
    refine EC.region ?_
    refine EL.val (x_move rfl) rfl ?_
    refine EL.val (ln_86 rfl) rfl ?_
    by_cases h40 : 40 < l.length
    ·
      have hce : closErr (placesOf rv.reaches) l = 5 := by rw [closErr, if_pos (by omega)]
      obtain ⟨hve, hva, hvb⟩ := cld_clos (l := l) (p := p) (t := t) hst (by omega)
      refine EL.val (x_gtr rfl rfl (by first | assumption | exact decide_eq_true (by omega))) rfl ?_
      refine EL.val (x_assign rfl) rfl ?_
      refine EL.nil ?_
      refine EX.seq ?_
      refine EC.yes rfl ?_
      refine EC.seq ?_
      refine EC.region ?_
      refine EL.val (x_assign rfl) rfl ?_
      refine EL.val (x_assign rfl) rfl ?_
      refine EL.val (x_assign rfl) rfl ?_
      refine EL.nil ?_
      refine EX.seq ?_
      refine EC.ret ?_
      refine EX.blk_ret ?_
      refine EX.seq_ret ?_
      exact EX.done (res3 rfl rfl rfl rfl) ⟨by rw [hva, hvb, hve]; first | rfl | rw [hce], hbw⟩
    ·
      refine EL.val (x_gtr rfl rfl (by first | assumption | exact decide_eq_false (by omega))) rfl ?_
      refine EL.val (x_assign rfl) rfl ?_
      refine EL.nil ?_
      refine EX.seq ?_
      refine EC.no rfl ?_
      refine EC.skip ?_
      refine EX.blk ?_
      refine EX.seq ?_
      refine EC.seq ?_
      refine EC.region ?_
      refine EL.val (ld_47 rfl (q1.at (j := 0) rfl) (q1.at (j := 1) rfl)) rfl ?_
      refine EL.call (cl_68 rfl) rfl (length_any rv _ _ vs _ B (hr.below (hbw.mono hB)) (Nat.le_trans hB hbw.size) hl (river_lens hok)) ?_
      rintro e w3 ⟨rfl, hc3⟩
      refine ⟨_, rfl, ?_⟩
      replace q1 := q1.below hc3 q1.lt
      replace hbw := Below.on hbw hc3 hbw.size
      replace hin := Below.on hin hc3 hin.size
      clear hc3
      refine EL.val (x_sub rfl rfl (by first | assumption | exact IntWalk.i64_in _ ⟨by omega, by omega⟩)) rfl ?_
      refine EL.val (x_assign rfl) rfl ?_
      refine EL.nil ?_
      refine EX.seq ?_
      refine EC.seq ?_
      refine EC.seq ?_
      refine EC.region ?_
      refine EL.val (x_move rfl) rfl ?_
      refine EL.val (ln_86 rfl) rfl ?_
      refine EL.val (x_move rfl) rfl ?_
      refine EL.nil ?_
      refine EX.seq ?_
      refine EC.block ?_
      refine EC.loopD [10, 11, 12, 16, 42, 43, 44, 45, 46, 47, 48, 49, 50, 51, 52, 53, 54, 55, 56, 57, 58, 59, 60, 61, 62, 63, 64, 65, 66, 67, 68, 69, 70] (fun x : Nat => [(42, .int .i64 (x : Nat))]) (fun x W => x ≤ l.length ∧ (∀ j, j < x → closOk (placesOf rv.reaches) (l.getD j clos0) = true) ∧ Below w2.heap.size w2 W ∧ Below w.heap.size w W) (fun x => l.length - x) 0 ⟨Nat.zero_le _, fun j hj => absurd hj (Nat.not_lt_zero _), hin, hbw⟩ ⟨rfl, trivial⟩ ?_
      clear hin hbw
      rintro j wr ⟨hj, hI, hin, hbw⟩
      by_cases hlt : j < l.length
      ·
        obtain ⟨bc, oc, rfl, _, cc⟩ := closes_cells l j hlt _ _ _ _ _ hcl
        obtain ⟨y, ey⟩ : ∃ y, y = l.getD j clos0 := ⟨_, rfl⟩
        rw [← ey] at cc
        refine EC.seq ?_
        refine EC.region ?_
        refine EL.val (x_lss rfl rfl (by first | assumption | exact decide_eq_true (by omega))) rfl ?_
        refine EL.nil ?_
        refine EX.seq ?_
        refine EC.seq ?_
        refine EC.yes rfl ?_
        refine EC.skip ?_
        refine EX.seq ?_
        refine EC.seq ?_
        refine EC.block ?_
        refine EC.seq ?_
        refine EC.region ?_
        refine EL.val (ix_86 rfl rfl hlt) rfl ?_
        refine EL.val (ld_90 rfl (below_load hbw cc.c0) (below_load hbw cc.c1) (below_load hbw cc.c2) (below_load hbw cc.c3) (below_load hbw cc.c4) (below_load hbw cc.c5)) rfl ?_
        refine EL.newP al_90 rfl ?_
        intro g4 w4 q4 hb4 hg4 hl4
        have bhin_4 := Nat.le_trans hin.size hg4
        have bhbw_4 := Nat.le_trans hbw.size hg4
        replace hin := Below.on hin hb4 hin.size
        replace hbw := Below.on hbw hb4 hbw.size
        clear hb4 hg4 hl4
        refine EL.store rfl rfl q4 sz_90 rfl rfl rfl rfl ?_
        intro w5 hq5 hg5
        replace hin := below_store hin hg5 bhin_4
        replace hbw := below_store hbw hg5 bhbw_4
        replace q4 := hq5
        clear hg5 hq5
        refine EL.nil ?_
        refine EX.seq ?_
        refine EC.seq ?_
        refine EC.region ?_
        refine EL.val (x_move rfl) rfl ?_
        refine EL.val (fa_90_0 rfl) rfl ?_
        refine EL.val (ld_3 rfl (q4.at (j := 0) rfl)) rfl ?_
        refine EL.val (fa_90_1 rfl) rfl ?_
        refine EL.val (ld_3 rfl (q4.at (j := 1) rfl)) rfl ?_
        refine EL.newS (bs_121_2 rfl rfl) rfl ?_
        intro g6 w6 q6 hb6 hg6 hl6
        have n4_6 : g4 ≠ g6 := Nat.ne_of_lt (Nat.lt_of_lt_of_le q4.lt hg6)
        have bhin_6 := Nat.le_trans hin.size hg6
        have bhbw_6 := Nat.le_trans hbw.size hg6
        replace q4 := q4.below hb6 q4.lt
        replace hin := Below.on hin hb6 hin.size
        replace hbw := Below.on hbw hb6 hbw.size
        clear hb6 hg6 hl6
        cases hw2 : (inB 0 (placesOf rv.reaches - 1) y.fr && inB 0 (placesOf rv.reaches - 1) y.to)
        ·
          have hno : closOk (placesOf rv.reaches) y = false := by
            cases e : closOk (placesOf rv.reaches) y
            · rfl
            · have h1 := closOk_iff.1 e
              have h9 : (inB 0 (placesOf rv.reaches - 1) y.fr && inB 0 (placesOf rv.reaches - 1) y.to) = true := by rw [Bool.and_eq_true]; exact ⟨inB_iff.2 (by omega), inB_iff.2 (by omega)⟩
              rw [h9] at hw2
              cases hw2
          have hce : closErr (placesOf rv.reaches) l = 2 := by rw [closErr, if_neg h40, if_pos (clos_all_not hlt (by rw [← ey]; exact hno))]
          obtain ⟨hve, hva, hvb⟩ := cld_clos (l := l) (p := p) (t := t) hst (by omega)
          refine EL.call (cl_57 rfl rfl rfl) rfl (withinB2 _ _ _ _ _ _ q6 hw2) ?_
          rintro e w7 ⟨rfl, hc7⟩
          refine ⟨_, rfl, ?_⟩
          replace q4 := q4.below hc7 q4.lt
          replace q6 := q6.below hc7 q6.lt
          replace hin := Below.on hin hc7 hin.size
          replace hbw := Below.on hbw hc7 hbw.size
          clear hc7
          refine EL.val (x_not rfl) rfl ?_
          refine EL.val (x_move rfl) rfl ?_
          refine EL.skip rfl rfl rfl rfl ?_
          refine EL.skip rfl rfl rfl rfl ?_
          refine EL.skip rfl rfl rfl rfl ?_
          refine EL.skip rfl rfl rfl rfl ?_
          refine EL.skip rfl rfl rfl rfl ?_
          refine EL.val (x_pick_t rfl rfl) rfl ?_
          refine EL.val (x_move rfl) rfl ?_
          refine EL.skip rfl rfl rfl rfl ?_
          refine EL.skip rfl rfl rfl rfl ?_
          refine EL.skip rfl rfl rfl rfl ?_
          refine EL.skip rfl rfl rfl rfl ?_
          refine EL.skip rfl rfl rfl rfl ?_
          refine EL.skip rfl rfl rfl rfl ?_
          refine EL.skip rfl rfl rfl rfl ?_
          refine EL.val (x_pick_t rfl rfl) rfl ?_
          refine EL.nil ?_
          refine EX.seq ?_
          refine EC.yes rfl ?_
          refine EC.seq ?_
          refine EC.region ?_
          refine EL.val (x_assign rfl) rfl ?_
          refine EL.val (x_assign rfl) rfl ?_
          refine EL.val (x_assign rfl) rfl ?_
          refine EL.nil ?_
          refine EX.seq ?_
          refine EC.ret ?_
          refine EX.blk_ret ?_
          refine EX.seq_ret ?_
          refine EX.seq_ret ?_
          refine EX.blk_ret ?_
          refine EX.seq_ret ?_
          exact EX.done (res3 rfl rfl rfl rfl) ⟨by rw [hva, hvb, hve]; first | rfl | rw [hce], hbw⟩
        ·
          have hw2_ := by have h := hw2; rw [Bool.and_eq_true, inB_iff, inB_iff] at h; exact h
          refine EL.call (cl_57 rfl rfl rfl) rfl (withinB2 _ _ _ _ _ _ q6 hw2) ?_
          rintro e w8 ⟨rfl, hc8⟩
          refine ⟨_, rfl, ?_⟩
          replace q4 := q4.below hc8 q4.lt
          replace q6 := q6.below hc8 q6.lt
          replace hin := Below.on hin hc8 hin.size
          replace hbw := Below.on hbw hc8 hbw.size
          clear hc8
          refine EL.val (x_not rfl) rfl ?_
          refine EL.val (x_move rfl) rfl ?_
          refine EL.valg rfl rfl (fa_90_0 rfl) rfl ?_
          refine EL.valg rfl rfl (ld_3 rfl (q4.at (j := 0) rfl)) rfl ?_
          refine EL.valg rfl rfl (fa_90_1 rfl) rfl ?_
          refine EL.valg rfl rfl (ld_3 rfl (q4.at (j := 1) rfl)) rfl ?_
          by_cases hgt : y.to < y.fr
          ·
            have hno : closOk (placesOf rv.reaches) y = false := by
              cases e : closOk (placesOf rv.reaches) y
              · rfl
              · have h1 := closOk_iff.1 e
                omega
            have hce : closErr (placesOf rv.reaches) l = 2 := by rw [closErr, if_neg h40, if_pos (clos_all_not hlt (by rw [← ey]; exact hno))]
            obtain ⟨hve, hva, hvb⟩ := cld_clos (l := l) (p := p) (t := t) hst (by omega)
            refine EL.valg rfl rfl (x_gtr rfl rfl (by first | assumption | exact decide_eq_true (by omega))) rfl ?_
            refine EL.val (x_pick_f rfl rfl) rfl ?_
            refine EL.val (x_move rfl) rfl ?_
            refine EL.skip rfl rfl rfl rfl ?_
            refine EL.skip rfl rfl rfl rfl ?_
            refine EL.skip rfl rfl rfl rfl ?_
            refine EL.skip rfl rfl rfl rfl ?_
            refine EL.skip rfl rfl rfl rfl ?_
            refine EL.skip rfl rfl rfl rfl ?_
            refine EL.skip rfl rfl rfl rfl ?_
            refine EL.val (x_pick_t rfl rfl) rfl ?_
            refine EL.nil ?_
            refine EX.seq ?_
            refine EC.yes rfl ?_
            refine EC.seq ?_
            refine EC.region ?_
            refine EL.val (x_assign rfl) rfl ?_
            refine EL.val (x_assign rfl) rfl ?_
            refine EL.val (x_assign rfl) rfl ?_
            refine EL.nil ?_
            refine EX.seq ?_
            refine EC.ret ?_
            refine EX.blk_ret ?_
            refine EX.seq_ret ?_
            refine EX.seq_ret ?_
            refine EX.blk_ret ?_
            refine EX.seq_ret ?_
            exact EX.done (res3 rfl rfl rfl rfl) ⟨by rw [hva, hvb, hve]; first | rfl | rw [hce], hbw⟩
          ·
            refine EL.valg rfl rfl (x_gtr rfl rfl (by first | assumption | exact decide_eq_false (by omega))) rfl ?_
            refine EL.val (x_pick_f rfl rfl) rfl ?_
            refine EL.val (x_move rfl) rfl ?_
            refine EL.valg rfl rfl (fa_90_2 rfl) rfl ?_
            refine EL.valg rfl rfl (ld_23 rfl (q4.at (j := 2) rfl) (q4.at (j := 3) rfl)) rfl ?_
            refine EL.valg rfl rfl (fa_90_3 rfl) rfl ?_
            refine EL.valg rfl rfl (ld_23 rfl (q4.at (j := 4) rfl) (q4.at (j := 5) rfl)) rfl ?_
            refine EL.newSg rfl rfl (bs_28_2 rfl rfl) rfl ?_
            intro g9 w9 q9 hb9 hg9 hl9
            have n4_9 : g4 ≠ g9 := Nat.ne_of_lt (Nat.lt_of_lt_of_le q4.lt hg9)
            have n6_9 : g6 ≠ g9 := Nat.ne_of_lt (Nat.lt_of_lt_of_le q6.lt hg9)
            have bhin_9 := Nat.le_trans hin.size hg9
            have bhbw_9 := Nat.le_trans hbw.size hg9
            replace q4 := q4.below hb9 q4.lt
            replace q6 := q6.below hb9 q6.lt
            replace hin := Below.on hin hb9 hin.size
            replace hbw := Below.on hbw hb9 hbw.size
            clear hb9 hg9 hl9
            cases hiv : [y.bg, y.en].all (bdOk (-400) 800)
            ·
              have hno : closOk (placesOf rv.reaches) y = false := by
                cases e : closOk (placesOf rv.reaches) y
                · rfl
                · have h1 := closOk_iff.1 e
                  simp [h1.2.2.1, h1.2.2.2] at hiv
              have hce : closErr (placesOf rv.reaches) l = 2 := by rw [closErr, if_neg h40, if_pos (clos_all_not hlt (by rw [← ey]; exact hno))]
              obtain ⟨hve, hva, hvb⟩ := cld_clos (l := l) (p := p) (t := t) hst (by omega)
              refine EL.callg rfl rfl (cl_58 rfl rfl rfl) rfl (isValid_any [y.bg, y.en] (-400) 800 _ _ _ (rd_blk (k := 2) (l := bdsC [y.bg, y.en]) q9 rfl) (Nat.le_refl _) (by simp)) ?_
              rintro e w10 ⟨he, hc10⟩
              rw [hiv] at he
              subst he
              refine ⟨_, rfl, ?_⟩
              replace q4 := q4.below hc10 q4.lt
              replace q6 := q6.below hc10 q6.lt
              replace q9 := q9.below hc10 q9.lt
              replace hin := Below.on hin hc10 hin.size
              replace hbw := Below.on hbw hc10 hbw.size
              clear hc10
              refine EL.valg rfl rfl (x_not rfl) rfl ?_
              refine EL.val (x_pick_f rfl rfl) rfl ?_
              refine EL.nil ?_
              refine EX.seq ?_
              refine EC.yes rfl ?_
              refine EC.seq ?_
              refine EC.region ?_
              refine EL.val (x_assign rfl) rfl ?_
              refine EL.val (x_assign rfl) rfl ?_
              refine EL.val (x_assign rfl) rfl ?_
              refine EL.nil ?_
              refine EX.seq ?_
              refine EC.ret ?_
              refine EX.blk_ret ?_
              refine EX.seq_ret ?_
              refine EX.seq_ret ?_
              refine EX.blk_ret ?_
              refine EX.seq_ret ?_
              exact EX.done (res3 rfl rfl rfl rfl) ⟨by rw [hva, hvb, hve]; first | rfl | rw [hce], hbw⟩
            ·
              have hiv_ : bdOk (-400) 800 y.bg = true ∧ bdOk (-400) 800 y.en = true := by simpa using hiv
              refine EL.callg rfl rfl (cl_58 rfl rfl rfl) rfl (isValid_any [y.bg, y.en] (-400) 800 _ _ _ (rd_blk (k := 2) (l := bdsC [y.bg, y.en]) q9 rfl) (Nat.le_refl _) (by simp)) ?_
              rintro e w11 ⟨he, hc11⟩
              rw [hiv] at he
              subst he
              refine ⟨_, rfl, ?_⟩
              replace q4 := q4.below hc11 q4.lt
              replace q6 := q6.below hc11 q6.lt
              replace q9 := q9.below hc11 q9.lt
              replace hin := Below.on hin hc11 hin.size
              replace hbw := Below.on hbw hc11 hbw.size
              clear hc11
              refine EL.valg rfl rfl (x_not rfl) rfl ?_
              refine EL.val (x_pick_f rfl rfl) rfl ?_
              refine EL.nil ?_
              refine EX.seq ?_
              refine EC.no rfl ?_
              refine EC.skip ?_
              refine EX.blk ?_
              refine EX.seq ?_
              refine EC.region ?_
              refine EL.val (x_add rfl rfl (by first | assumption | exact IntWalk.i64_in _ ⟨by omega, by omega⟩)) rfl ?_
              refine EL.val (x_move rfl) rfl ?_
              refine EL.nil ?_
              refine EX.roundD (j + 1) ⟨rfl, trivial⟩ (by repeat first | exact Sub.refl _ | refine sub_past rfl ?_ | refine sub_del rfl ?_ | refine sub_insL_nil ?_) ⟨hlt, fun i hi => ?_, hin, hbw⟩ (by omega)
              rcases Nat.lt_or_ge i j with h | h
              · exact hI i h
              · obtain rfl : i = j := by omega
                rw [← ey]
                exact closOk_iff.2 ⟨by omega, by omega, hiv_.1, hiv_.2⟩
      ·
        obtain rfl : j = l.length := by omega
        have hce : closErr (placesOf rv.reaches) l = 0 := by rw [closErr, if_neg h40, if_neg (by rw [all_of_getD hI]; simp)]
        refine EC.seq ?_
        refine EC.region ?_
        refine EL.val (x_lss rfl rfl (by first | assumption | exact decide_eq_false (by omega))) rfl ?_
        refine EL.nil ?_
        refine EX.seq ?_
        refine EC.seq ?_
        refine EC.no rfl ?_
        refine EC.exit ?_
        refine EX.seq_exit ?_
        refine EX.seq_exit ?_
        refine EX.blk_here ?_
        refine EX.seq ?_
        refine EC.seq ?_
        refine EC.region ?_
        refine EL.val (x_move rfl) rfl ?_
        refine EL.val (x_move rfl) rfl ?_
        refine EL.val (x_move rfl) rfl ?_
        cases hp : inB 0 (placesOf rv.reaches - 1) p
        ·
          obtain ⟨hve, hva, hvb⟩ := cld_none (l := l) (t := t) hst hce hp
          refine EL.call (cl_74 rfl rfl rfl) rfl (loc_none (hS.below hin) hin.size hok p t hp) ?_
          rintro e w12 ⟨rfl, hc12⟩
          refine ⟨_, rfl, ?_⟩
          replace hin := Below.on hin hc12 hin.size
          replace hbw := Below.on hbw hc12 hbw.size
          clear hc12
          refine EL.val (x_move rfl) rfl ?_
          refine EL.val (x_extract rfl rfl) rfl ?_
          refine EL.val (x_extract rfl rfl) rfl ?_
          refine EL.newP al_129 rfl ?_
          intro g13 w13 q13 hb13 hg13 hl13
          have bhin_13 := Nat.le_trans hin.size hg13
          have bhbw_13 := Nat.le_trans hbw.size hg13
          replace hin := Below.on hin hb13 hin.size
          replace hbw := Below.on hbw hb13 hbw.size
          clear hb13 hg13 hl13
          refine EL.store rfl rfl q13 sz_129 rfl rfl rfl rfl ?_
          intro w14 hq14 hg14
          replace hin := below_store hin hg14 bhin_13
          replace hbw := below_store hbw hg14 bhbw_13
          replace q13 := hq14
          clear hg14 hq14
          refine EL.val (x_assign rfl) rfl ?_
          refine EL.nil ?_
          refine EX.seq ?_
          refine EC.seq ?_
          refine EC.seq ?_
          refine EC.region ?_
          refine EL.val (x_move rfl) rfl ?_
          refine EL.val (x_neq rfl rfl (by first | assumption | exact decide_eq_true (by omega))) rfl ?_
          refine EL.nil ?_
          refine EX.seq ?_
          refine EC.yes rfl ?_
          refine EC.seq ?_
          refine EC.region ?_
          refine EL.val (x_move rfl) rfl ?_
          refine EL.val (x_assign rfl) rfl ?_
          refine EL.val (x_assign rfl) rfl ?_
          refine EL.val (x_assign rfl) rfl ?_
          refine EL.nil ?_
          refine EX.seq ?_
          refine EC.ret ?_
          refine EX.seq_ret ?_
          exact EX.done (res3 rfl rfl rfl rfl) ⟨by rw [hva, hvb, hve]; first | rfl | rw [hce], hbw⟩
        ·
          cases ht : inB 0 (((sides.getD 0 []).length : Nat) - 1 : Int) t
          ·
            obtain ⟨hve, hva, hvb⟩ := cld_range (l := l) hst hce hp ht
            refine EL.call (cl_74 rfl rfl rfl) rfl (loc_range (hS.below hin) hin.size hok p t hp ht) ?_
            rintro e w15 ⟨⟨A1, n1, c1, A2, n2, c2, rfl, _⟩, hc15⟩
            refine ⟨_, rfl, ?_⟩
            replace hin := Below.on hin hc15 hin.size
            replace hbw := Below.on hbw hc15 hbw.size
            clear hc15
            refine EL.val (x_move rfl) rfl ?_
            refine EL.val (x_extract rfl rfl) rfl ?_
            refine EL.val (x_extract rfl rfl) rfl ?_
            refine EL.newP al_129 rfl ?_
            intro g16 w16 q16 hb16 hg16 hl16
            have bhin_16 := Nat.le_trans hin.size hg16
            have bhbw_16 := Nat.le_trans hbw.size hg16
            replace hin := Below.on hin hb16 hin.size
            replace hbw := Below.on hbw hb16 hbw.size
            clear hb16 hg16 hl16
            refine EL.store rfl rfl q16 sz_129 rfl rfl rfl rfl ?_
            intro w17 hq17 hg17
            replace hin := below_store hin hg17 bhin_16
            replace hbw := below_store hbw hg17 bhbw_16
            replace q16 := hq17
            clear hg17 hq17
            refine EL.val (x_assign rfl) rfl ?_
            refine EL.nil ?_
            refine EX.seq ?_
            refine EC.seq ?_
            refine EC.seq ?_
            refine EC.region ?_
            refine EL.val (x_move rfl) rfl ?_
            refine EL.val (x_neq rfl rfl (by first | assumption | exact decide_eq_true (by omega))) rfl ?_
            refine EL.nil ?_
            refine EX.seq ?_
            refine EC.yes rfl ?_
            refine EC.seq ?_
            refine EC.region ?_
            refine EL.val (x_move rfl) rfl ?_
            refine EL.val (x_assign rfl) rfl ?_
            refine EL.val (x_assign rfl) rfl ?_
            refine EL.val (x_assign rfl) rfl ?_
            refine EL.nil ?_
            refine EX.seq ?_
            refine EC.ret ?_
            refine EX.seq_ret ?_
            exact EX.done (res3 rfl rfl rfl rfl) ⟨by rw [hva, hvb, hve]; first | rfl | rw [hce], hbw⟩
          ·
            obtain ⟨hve, hva, hvb⟩ := cld_ok (l := l) hst hce hp ht
            have hp_ := inB_iff.1 hp
            have ht_ := inB_iff.1 ht
            have hri := reachOf_lt rv.reaches p (by omega) (by omega)
            refine EL.call (cl_74 rfl rfl rfl) rfl (loc_ok (hS.below hin) hin.size hok p t hp ht) ?_
            rintro e w18 ⟨⟨A1, n1, c1, A2, n2, c2, rfl, _⟩, hc18⟩
            refine ⟨_, rfl, ?_⟩
            replace hin := Below.on hin hc18 hin.size
            replace hbw := Below.on hbw hc18 hbw.size
            clear hc18
            refine EL.val (x_move rfl) rfl ?_
            refine EL.val (x_extract rfl rfl) rfl ?_
            refine EL.val (x_extract rfl rfl) rfl ?_
            refine EL.newP al_129 rfl ?_
            intro g19 w19 q19 hb19 hg19 hl19
            have bhin_19 := Nat.le_trans hin.size hg19
            have bhbw_19 := Nat.le_trans hbw.size hg19
            replace hin := Below.on hin hb19 hin.size
            replace hbw := Below.on hbw hb19 hbw.size
            clear hb19 hg19 hl19
            refine EL.store rfl rfl q19 sz_129 rfl rfl rfl rfl ?_
            intro w20 hq20 hg20
            replace hin := below_store hin hg20 bhin_19
            replace hbw := below_store hbw hg20 bhbw_19
            replace q19 := hq20
            clear hg20 hq20
            refine EL.val (x_assign rfl) rfl ?_
            refine EL.nil ?_
            refine EX.seq ?_
            refine EC.seq ?_
            refine EC.seq ?_
            refine EC.region ?_
            refine EL.val (x_move rfl) rfl ?_
            refine EL.val (x_neq rfl rfl (by first | assumption | exact decide_eq_false (by omega))) rfl ?_
            refine EL.nil ?_
            refine EX.seq ?_
            refine EC.no rfl ?_
            refine EC.skip ?_
            refine EX.seq ?_
            refine EC.seq ?_
            refine EC.region ?_
            refine EL.val (x_move rfl) rfl ?_
            refine EL.val (fa_129_1 rfl) rfl ?_
            refine EL.val (ld_3 rfl (q19.at (j := 9) rfl)) rfl ?_
            refine EL.val (x_move rfl) rfl ?_
            refine EL.call (cl_78 rfl rfl rfl) rfl (slevel_any (hS.below hin) hin.size (reachOf rv.reaches p) t hri (by omega)) ?_
            rintro e w21 ⟨rfl, hc21⟩
            refine ⟨_, rfl, ?_⟩
            replace q19 := q19.below hc21 q19.lt
            replace hin := Below.on hin hc21 hin.size
            replace hbw := Below.on hbw hc21 hbw.size
            clear hc21
            refine EL.newP al_23 rfl ?_
            intro g22 w22 q22 hb22 hg22 hl22
            have n19_22 : g19 ≠ g22 := Nat.ne_of_lt (Nat.lt_of_lt_of_le q19.lt hg22)
            have bhin_22 := Nat.le_trans hin.size hg22
            have bhbw_22 := Nat.le_trans hbw.size hg22
            replace q19 := q19.below hb22 q19.lt
            replace hin := Below.on hin hb22 hin.size
            replace hbw := Below.on hbw hb22 hbw.size
            clear hb22 hg22 hl22
            refine EL.store rfl rfl q22 sz_23 rfl rfl rfl rfl ?_
            intro w23 hq23 hg23
            replace q19 := q19.grown hg23 (fun h => n19_22 (Option.some.inj h))
            replace hin := below_store hin hg23 bhin_22
            replace hbw := below_store hbw hg23 bhbw_22
            replace q22 := hq23
            clear hg23 hq23
            refine EL.nil ?_
            refine EX.seq ?_
            refine EC.seq ?_
            refine EC.regionQ (by kernel_rfl) (by kernel_rfl) ?_
            refine EQ.val (fun _ hw => (fa_23_1 rfl)) rfl ?_
            refine EQ.val (fun _ hw => (ld_3 rfl (below_load hw (q22.at (j := 1) rfl)))) rfl ?_
            refine EQ.val (fun _ hw => (fa_129_0 rfl)) rfl ?_
            refine EQ.val (fun _ hw => (fa_50_6 rfl)) rfl ?_
            refine EQ.val (fun _ hw => (ld_3 rfl (below_load hw (q19.at (j := 8) rfl)))) rfl ?_
            refine EQ.val (fun _ hw => (x_gtr rfl rfl rfl)) rfl ?_
            refine EQ.val (fun _ hw => (fa_23_0 rfl)) rfl ?_
            refine EQ.val (fun _ hw => (ld_3 rfl (below_load hw (q22.at (j := 0) rfl)))) rfl ?_
            refine EQ.val (fun _ hw => (fa_129_0 rfl)) rfl ?_
            refine EQ.val (fun _ hw => (fa_50_6 rfl)) rfl ?_
            refine EQ.val (fun _ hw => (ld_3 rfl (below_load hw (q19.at (j := 8) rfl)))) rfl ?_
            refine EQ.val (fun _ hw => (x_gtr rfl rfl rfl)) rfl ?_
            refine EQ.val (fun _ hw => (x_assign rfl)) rfl ?_
            refine EQ.val (fun _ hw => (x_assign rfl)) rfl ?_
            refine EQ.fin (fun w24 hw_ => ?_)
            replace q19 := q19.below hw_ q19.lt
            replace q22 := q22.below hw_ q22.lt
            replace hin := Below.on hin hw_ hin.size
            replace hbw := Below.on hbw hw_ hbw.size
            clear hw_
            refine EX.seq ?_
            refine EC.seq ?_
            refine EC.seq ?_
            refine EC.region ?_
            refine EL.val (x_move rfl) rfl ?_
            refine EL.val (ln_86 rfl) rfl ?_
            refine EL.val (x_move rfl) rfl ?_
            refine EL.nil ?_
            refine EX.seq ?_
            refine EC.block ?_
            refine EC.loopD [10, 11, 20, 21, 22, 100, 101, 102, 103, 104, 105, 106, 107, 108, 109, 110, 111, 112, 113, 114, 115, 116, 117, 118, 119] (fun x : Nat × Bool × Bool => [(100, .int .i64 (x.1 : Nat)), (10, .bool x.2.1), (11, .bool x.2.2)]) (fun x W => x.1 ≤ l.length ∧ x.2.1 = mayAny (lvAt rv sides p t) (flAt rv p) p t (l.take x.1) ∧ x.2.2 = mustAny (lvAt rv sides p t) (flAt rv p) p t (l.take x.1) ∧ Below w.heap.size w W) (fun x => l.length - x.1) (0, decide (flAt rv p < (lvAt rv sides p t).hi), decide (flAt rv p < (lvAt rv sides p t).lo)) ⟨Nat.zero_le _, by simp [mayAny], by simp [mustAny], hbw⟩ ⟨rfl, rfl, rfl, trivial⟩ ?_
            clear hin hbw
            rintro ⟨j, P, S⟩ wr ⟨hj, hP, hM, hbw⟩
            simp only at hj hP hM
            by_cases hlt : j < l.length
            ·
              obtain ⟨bc, oc, rfl, _, cc⟩ := closes_cells l j hlt _ _ _ _ _ hcl
              have h1 := mayAny_take (lv := lvAt rv sides p t) (fl := flAt rv p) (p := p) (t := t) hlt
              have h2 := mustAny_take (lv := lvAt rv sides p t) (fl := flAt rv p) (p := p) (t := t) hlt
              rw [← hP] at h1
              rw [← hM] at h2
              obtain ⟨y, ey⟩ : ∃ y, y = l.getD j clos0 := ⟨_, rfl⟩
              rw [← ey] at cc h1 h2
              clear hP hM
              cases P <;> cases S
              ·
                refine EC.seq ?_
                refine EC.region ?_
                refine EL.val (x_lss rfl rfl (by first | assumption | exact decide_eq_true (by omega))) rfl ?_
                refine EL.nil ?_
                refine EX.seq ?_
                refine EC.seq ?_
                refine EC.yes rfl ?_
                refine EC.skip ?_
                refine EX.seq ?_
                refine EC.seq ?_
                refine EC.block ?_
                refine EC.seq ?_
                refine EC.region ?_
                refine EL.val (ix_86 rfl rfl hlt) rfl ?_
                refine EL.val (ld_90 rfl (below_load hbw cc.c0) (below_load hbw cc.c1) (below_load hbw cc.c2) (below_load hbw cc.c3) (below_load hbw cc.c4) (below_load hbw cc.c5)) rfl ?_
                refine EL.newP al_90 rfl ?_
                intro g25 w25 q25 hb25 hg25 hl25
                have bhbw_25 := Nat.le_trans hbw.size hg25
                replace hbw := Below.on hbw hb25 hbw.size
                clear hb25 hg25 hl25
                refine EL.store rfl rfl q25 sz_90 rfl rfl rfl rfl ?_
                intro w26 hq26 hg26
                replace hbw := below_store hbw hg26 bhbw_25
                replace q25 := hq26
                clear hg26 hq26
                refine EL.nil ?_
                refine EX.seq ?_
                refine EC.seq ?_
                refine EC.region ?_
                refine EL.val (ld_90 rfl (q25.at (j := 0) rfl) (q25.at (j := 1) rfl) (q25.at (j := 2) rfl) (q25.at (j := 3) rfl) (q25.at (j := 4) rfl) (q25.at (j := 5) rfl)) rfl ?_
                refine EL.val (x_move rfl) rfl ?_
                refine EL.val (x_move rfl) rfl ?_
                refine EL.call (cl_79 rfl rfl rfl) rfl (shut_any y p t _) ?_
                rintro e w27 ⟨rfl, hc27⟩
                refine ⟨_, rfl, ?_⟩
                replace q25 := q25.below hc27 q25.lt
                replace hbw := Below.on hbw hc27 hbw.size
                clear hc27
                refine EL.val (x_move rfl) rfl ?_
                refine EL.val (x_extract rfl rfl) rfl ?_
                refine EL.val (x_extract rfl rfl) rfl ?_
                refine EL.val (x_assign rfl) rfl ?_
                refine EL.val (x_assign rfl) rfl ?_
                refine EL.nil ?_
                refine EX.seq ?_
                refine EC.region ?_
                refine EL.val (x_move rfl) rfl ?_
                refine EL.val (x_move rfl) rfl ?_
                refine EL.valg rfl rfl (x_move rfl) rfl ?_
                refine EL.val (x_pick_f rfl rfl) rfl ?_
                refine EL.val (x_move rfl) rfl ?_
                refine EL.val (x_move rfl) rfl ?_
                refine EL.valg rfl rfl (x_move rfl) rfl ?_
                refine EL.val (x_pick_f rfl rfl) rfl ?_
                refine EL.val (x_assign rfl) rfl ?_
                refine EL.val (x_assign rfl) rfl ?_
                refine EL.nil ?_
                refine EX.blk ?_
                refine EX.seq ?_
                refine EC.region ?_
                refine EL.val (x_add rfl rfl (by first | assumption | exact IntWalk.i64_in _ ⟨by omega, by omega⟩)) rfl ?_
                refine EL.val (x_move rfl) rfl ?_
                refine EL.nil ?_
                refine EX.roundD (j + 1, mayShut p t y, mustShut p t y) ⟨rfl, rfl, rfl, trivial⟩ (by repeat first | exact Sub.refl _ | refine sub_past rfl ?_ | refine sub_del rfl ?_ | refine sub_insL_nil ?_) ⟨hlt, by rw [h1]; rfl, by rw [h2]; rfl, hbw⟩ (by simp only; omega)
              ·
                refine EC.seq ?_
                refine EC.region ?_
                refine EL.val (x_lss rfl rfl (by first | assumption | exact decide_eq_true (by omega))) rfl ?_
                refine EL.nil ?_
                refine EX.seq ?_
                refine EC.seq ?_
                refine EC.yes rfl ?_
                refine EC.skip ?_
                refine EX.seq ?_
                refine EC.seq ?_
                refine EC.block ?_
                refine EC.seq ?_
                refine EC.region ?_
                refine EL.val (ix_86 rfl rfl hlt) rfl ?_
                refine EL.val (ld_90 rfl (below_load hbw cc.c0) (below_load hbw cc.c1) (below_load hbw cc.c2) (below_load hbw cc.c3) (below_load hbw cc.c4) (below_load hbw cc.c5)) rfl ?_
                refine EL.newP al_90 rfl ?_
                intro g28 w28 q28 hb28 hg28 hl28
                have bhbw_28 := Nat.le_trans hbw.size hg28
                replace hbw := Below.on hbw hb28 hbw.size
                clear hb28 hg28 hl28
                refine EL.store rfl rfl q28 sz_90 rfl rfl rfl rfl ?_
                intro w29 hq29 hg29
                replace hbw := below_store hbw hg29 bhbw_28
                replace q28 := hq29
                clear hg29 hq29
                refine EL.nil ?_
                refine EX.seq ?_
                refine EC.seq ?_
                refine EC.region ?_
                refine EL.val (ld_90 rfl (q28.at (j := 0) rfl) (q28.at (j := 1) rfl) (q28.at (j := 2) rfl) (q28.at (j := 3) rfl) (q28.at (j := 4) rfl) (q28.at (j := 5) rfl)) rfl ?_
                refine EL.val (x_move rfl) rfl ?_
                refine EL.val (x_move rfl) rfl ?_
                refine EL.call (cl_79 rfl rfl rfl) rfl (shut_any y p t _) ?_
                rintro e w30 ⟨rfl, hc30⟩
                refine ⟨_, rfl, ?_⟩
                replace q28 := q28.below hc30 q28.lt
                replace hbw := Below.on hbw hc30 hbw.size
                clear hc30
                refine EL.val (x_move rfl) rfl ?_
                refine EL.val (x_extract rfl rfl) rfl ?_
                refine EL.val (x_extract rfl rfl) rfl ?_
                refine EL.val (x_assign rfl) rfl ?_
                refine EL.val (x_assign rfl) rfl ?_
                refine EL.nil ?_
                refine EX.seq ?_
                refine EC.region ?_
                refine EL.val (x_move rfl) rfl ?_
                refine EL.val (x_move rfl) rfl ?_
                refine EL.valg rfl rfl (x_move rfl) rfl ?_
                refine EL.val (x_pick_f rfl rfl) rfl ?_
                refine EL.val (x_move rfl) rfl ?_
                refine EL.val (x_move rfl) rfl ?_
                refine EL.skip rfl rfl rfl rfl ?_
                refine EL.val (x_pick_t rfl rfl) rfl ?_
                refine EL.val (x_assign rfl) rfl ?_
                refine EL.val (x_assign rfl) rfl ?_
                refine EL.nil ?_
                refine EX.blk ?_
                refine EX.seq ?_
                refine EC.region ?_
                refine EL.val (x_add rfl rfl (by first | assumption | exact IntWalk.i64_in _ ⟨by omega, by omega⟩)) rfl ?_
                refine EL.val (x_move rfl) rfl ?_
                refine EL.nil ?_
                refine EX.roundD (j + 1, mayShut p t y, true) ⟨rfl, rfl, rfl, trivial⟩ (by repeat first | exact Sub.refl _ | refine sub_past rfl ?_ | refine sub_del rfl ?_ | refine sub_insL_nil ?_) ⟨hlt, by rw [h1]; rfl, by rw [h2]; rfl, hbw⟩ (by simp only; omega)
              ·
                refine EC.seq ?_
                refine EC.region ?_
                refine EL.val (x_lss rfl rfl (by first | assumption | exact decide_eq_true (by omega))) rfl ?_
                refine EL.nil ?_
                refine EX.seq ?_
                refine EC.seq ?_
                refine EC.yes rfl ?_
                refine EC.skip ?_
                refine EX.seq ?_
                refine EC.seq ?_
                refine EC.block ?_
                refine EC.seq ?_
                refine EC.region ?_
                refine EL.val (ix_86 rfl rfl hlt) rfl ?_
                refine EL.val (ld_90 rfl (below_load hbw cc.c0) (below_load hbw cc.c1) (below_load hbw cc.c2) (below_load hbw cc.c3) (below_load hbw cc.c4) (below_load hbw cc.c5)) rfl ?_
                refine EL.newP al_90 rfl ?_
                intro g31 w31 q31 hb31 hg31 hl31
                have bhbw_31 := Nat.le_trans hbw.size hg31
                replace hbw := Below.on hbw hb31 hbw.size
                clear hb31 hg31 hl31
                refine EL.store rfl rfl q31 sz_90 rfl rfl rfl rfl ?_
                intro w32 hq32 hg32
                replace hbw := below_store hbw hg32 bhbw_31
                replace q31 := hq32
                clear hg32 hq32
                refine EL.nil ?_
                refine EX.seq ?_
                refine EC.seq ?_
                refine EC.region ?_
                refine EL.val (ld_90 rfl (q31.at (j := 0) rfl) (q31.at (j := 1) rfl) (q31.at (j := 2) rfl) (q31.at (j := 3) rfl) (q31.at (j := 4) rfl) (q31.at (j := 5) rfl)) rfl ?_
                refine EL.val (x_move rfl) rfl ?_
                refine EL.val (x_move rfl) rfl ?_
                refine EL.call (cl_79 rfl rfl rfl) rfl (shut_any y p t _) ?_
                rintro e w33 ⟨rfl, hc33⟩
                refine ⟨_, rfl, ?_⟩
                replace q31 := q31.below hc33 q31.lt
                replace hbw := Below.on hbw hc33 hbw.size
                clear hc33
                refine EL.val (x_move rfl) rfl ?_
                refine EL.val (x_extract rfl rfl) rfl ?_
                refine EL.val (x_extract rfl rfl) rfl ?_
                refine EL.val (x_assign rfl) rfl ?_
                refine EL.val (x_assign rfl) rfl ?_
                refine EL.nil ?_
                refine EX.seq ?_
                refine EC.region ?_
                refine EL.val (x_move rfl) rfl ?_
                refine EL.val (x_move rfl) rfl ?_
                refine EL.skip rfl rfl rfl rfl ?_
                refine EL.val (x_pick_t rfl rfl) rfl ?_
                refine EL.val (x_move rfl) rfl ?_
                refine EL.val (x_move rfl) rfl ?_
                refine EL.valg rfl rfl (x_move rfl) rfl ?_
                refine EL.val (x_pick_f rfl rfl) rfl ?_
                refine EL.val (x_assign rfl) rfl ?_
                refine EL.val (x_assign rfl) rfl ?_
                refine EL.nil ?_
                refine EX.blk ?_
                refine EX.seq ?_
                refine EC.region ?_
                refine EL.val (x_add rfl rfl (by first | assumption | exact IntWalk.i64_in _ ⟨by omega, by omega⟩)) rfl ?_
                refine EL.val (x_move rfl) rfl ?_
                refine EL.nil ?_
                refine EX.roundD (j + 1, true, mustShut p t y) ⟨rfl, rfl, rfl, trivial⟩ (by repeat first | exact Sub.refl _ | refine sub_past rfl ?_ | refine sub_del rfl ?_ | refine sub_insL_nil ?_) ⟨hlt, by rw [h1]; rfl, by rw [h2]; rfl, hbw⟩ (by simp only; omega)
              ·
                refine EC.seq ?_
                refine EC.region ?_
                refine EL.val (x_lss rfl rfl (by first | assumption | exact decide_eq_true (by omega))) rfl ?_
                refine EL.nil ?_
                refine EX.seq ?_
                refine EC.seq ?_
                refine EC.yes rfl ?_
                refine EC.skip ?_
                refine EX.seq ?_
                refine EC.seq ?_
                refine EC.block ?_
                refine EC.seq ?_
                refine EC.region ?_
                refine EL.val (ix_86 rfl rfl hlt) rfl ?_
                refine EL.val (ld_90 rfl (below_load hbw cc.c0) (below_load hbw cc.c1) (below_load hbw cc.c2) (below_load hbw cc.c3) (below_load hbw cc.c4) (below_load hbw cc.c5)) rfl ?_
                refine EL.newP al_90 rfl ?_
                intro g34 w34 q34 hb34 hg34 hl34
                have bhbw_34 := Nat.le_trans hbw.size hg34
                replace hbw := Below.on hbw hb34 hbw.size
                clear hb34 hg34 hl34
                refine EL.store rfl rfl q34 sz_90 rfl rfl rfl rfl ?_
                intro w35 hq35 hg35
                replace hbw := below_store hbw hg35 bhbw_34
                replace q34 := hq35
                clear hg35 hq35
                refine EL.nil ?_
                refine EX.seq ?_
                refine EC.seq ?_
                refine EC.region ?_
                refine EL.val (ld_90 rfl (q34.at (j := 0) rfl) (q34.at (j := 1) rfl) (q34.at (j := 2) rfl) (q34.at (j := 3) rfl) (q34.at (j := 4) rfl) (q34.at (j := 5) rfl)) rfl ?_
                refine EL.val (x_move rfl) rfl ?_
                refine EL.val (x_move rfl) rfl ?_
                refine EL.call (cl_79 rfl rfl rfl) rfl (shut_any y p t _) ?_
                rintro e w36 ⟨rfl, hc36⟩
                refine ⟨_, rfl, ?_⟩
                replace q34 := q34.below hc36 q34.lt
                replace hbw := Below.on hbw hc36 hbw.size
                clear hc36
                refine EL.val (x_move rfl) rfl ?_
                refine EL.val (x_extract rfl rfl) rfl ?_
                refine EL.val (x_extract rfl rfl) rfl ?_
                refine EL.val (x_assign rfl) rfl ?_
                refine EL.val (x_assign rfl) rfl ?_
                refine EL.nil ?_
                refine EX.seq ?_
                refine EC.region ?_
                refine EL.val (x_move rfl) rfl ?_
                refine EL.val (x_move rfl) rfl ?_
                refine EL.skip rfl rfl rfl rfl ?_
                refine EL.val (x_pick_t rfl rfl) rfl ?_
                refine EL.val (x_move rfl) rfl ?_
                refine EL.val (x_move rfl) rfl ?_
                refine EL.skip rfl rfl rfl rfl ?_
                refine EL.val (x_pick_t rfl rfl) rfl ?_
                refine EL.val (x_assign rfl) rfl ?_
                refine EL.val (x_assign rfl) rfl ?_
                refine EL.nil ?_
                refine EX.blk ?_
                refine EX.seq ?_
                refine EC.region ?_
                refine EL.val (x_add rfl rfl (by first | assumption | exact IntWalk.i64_in _ ⟨by omega, by omega⟩)) rfl ?_
                refine EL.val (x_move rfl) rfl ?_
                refine EL.nil ?_
                refine EX.roundD (j + 1, true, true) ⟨rfl, rfl, rfl, trivial⟩ (by repeat first | exact Sub.refl _ | refine sub_past rfl ?_ | refine sub_del rfl ?_ | refine sub_insL_nil ?_) ⟨hlt, by rw [h1]; rfl, by rw [h2]; rfl, hbw⟩ (by simp only; omega)
            ·
              obtain rfl : j = l.length := by omega
              rw [List.take_length] at hP hM
              refine EC.seq ?_
              refine EC.region ?_
              refine EL.val (x_lss rfl rfl (by first | assumption | exact decide_eq_false (by omega))) rfl ?_
              refine EL.nil ?_
              refine EX.seq ?_
              refine EC.seq ?_
              refine EC.no rfl ?_
              refine EC.exit ?_
              refine EX.seq_exit ?_
              refine EX.seq_exit ?_
              refine EX.blk_here ?_
              refine EX.seq ?_
              refine EC.seq ?_
              refine EC.region ?_
              refine EL.val (x_move rfl) rfl ?_
              refine EL.val (x_move rfl) rfl ?_
              refine EL.val (x_assign rfl) rfl ?_
              refine EL.val (x_assign rfl) rfl ?_
              refine EL.val (x_assign rfl) rfl ?_
              refine EL.nil ?_
              refine EX.seq ?_
              refine EC.ret ?_
              exact EX.done (res3 rfl rfl rfl rfl) ⟨by rw [hve, hva, hvb, hP, hM], hbw⟩
  ·
    obtain ⟨hve, hva, hvb⟩ := cld_open (l := l) (p := p) (t := t) hst
    refine EL.call (cl_73 rfl rfl) rfl (open_bad rv sides _ _ _ vs ss _ B (hr.below (hbw.mono hB)) (hs.below (hbw.mono hB)) (Nat.le_trans hB hbw.size) hl hl2 hcv hl3 hsb hst) ?_
    rintro e w37 ⟨rfl, hc37⟩
    refine ⟨_, rfl, ?_⟩
    replace q1 := q1.below hc37 q1.lt
    replace hbw := Below.on hbw hc37 hbw.size
    clear hc37
    refine EL.val (x_move rfl) rfl ?_
    refine EL.val (x_extract rfl rfl) rfl ?_
    refine EL.val (x_extract rfl rfl) rfl ?_
    refine EL.val (x_assign rfl) rfl ?_
    refine EL.val (x_assign rfl) rfl ?_
    refine EL.nil ?_
    refine EX.seq ?_
    refine EC.seq ?_
    refine EC.block ?_
    refine EC.seq ?_
    refine EC.region ?_
    refine EL.val (x_move rfl) rfl ?_
    refine EL.val (x_neq rfl rfl (by first | assumption | exact decide_eq_true (by omega))) rfl ?_
    refine EL.val (x_assign rfl) rfl ?_
    refine EL.nil ?_
    refine EX.seq ?_
    refine EC.yes rfl ?_
    refine EC.seq ?_
    refine EC.region ?_
    refine EL.val (x_move rfl) rfl ?_
    refine EL.val (x_assign rfl) rfl ?_
    refine EL.val (x_assign rfl) rfl ?_
    refine EL.val (x_assign rfl) rfl ?_
    refine EL.nil ?_
    refine EX.seq ?_
    refine EC.ret ?_
    refine EX.blk_ret ?_
    refine EX.seq_ret ?_
    exact EX.done (res3 rfl rfl rfl rfl) ⟨by rw [hva, hvb, hve]; first | rfl | rw [hce], hbw⟩
end Go.Proofs.Ytncnlhkmdljgpaa
